/- keys.Same, keys.Within, keys.Next; the document's Next. -/
import Derived.Test.YtehamfhblpokbaaDoorU0
set_option linter.unusedVariables false
set_option linter.unusedSimpArgs false
namespace Go.Proofs.YtehamfhblpokbaaDoor
open Go.RowKit
theorem beq_nat (s t : List Nat) (hs : ∀ x ∈ s, x < 256) (ht : ∀ x ∈ t, x < 256) : (U8 s == U8 t) = decide (s = t) := by
  rw [Bool.eq_iff_iff]
  simp only [beq_iff_eq, decide_eq_true_eq]
  refine ⟨fun h => ?_, fun h => by rw [h]⟩
  have := compare_nat s t hs ht
  rw [h] at this
  have e : Lib.compareBytes (U8 t) (U8 t) = 0 := by
    rw [compare_nat t t ht ht]; exact (bcmp_zero t t).2 rfl
  rw [e] at this
  exact (bcmp_zero s t).1 this.symm
theorem lib_equal {w : World} {a b : Option Addr} {n c m d : Nat} {s t : List Nat} (h : Sl w a n c s) (k : Sl w b m d t) : Calls Tryd.prog 44 #[.slice a n c, .slice b m d] w fun e w' => e = .returned (.bool (decide (s = t))) ∧ w = w' :=
  (Any.bytes_Equal_all Tryd.layEq a b n c m d (Zs s) (Zs t) w (by rw [zs_len, h.len]) (by rw [zs_len, k.len]) h.in_ k.in_).mono fun e w' ⟨h1, h2⟩ => ⟨by rw [h1, bytesOf_nat, bytesOf_nat, beq_nat s t h.at_.1 k.at_.1], h2.symm⟩
theorem keys_same {w : World} {a b : Option Addr} {n c m d : Nat} {s t : List Nat} (h : Sl w a n c s) (k : Sl w b m d t) : Calls Tryd.prog 35 #[.slice a n c, .slice b m d] w fun e w' => e = .returned (.bool (decide (s = t))) ∧ w = w' := by
  have hC := Lib.hid (lib_equal h k)
  generalize decide (s = t) = V at *
  clear h k
  go_enter Tryd.func35, Tryd.ntmps35
  go_wp2_with (go_at_call 44; refine hC.out.mono ?_; rintro e w' ⟨rfl, rfl⟩)
  go_ret
  exact ⟨rfl, rfl⟩
/-- whether a span has a key -/
def hasB (f t : List Nat) (o : Bool) (k : List Nat) : Bool := !decide (bcmp k f < 0) && (o || decide (bcmp k t < 0))
theorem keys_within {w : World} {a0 a1 a2 : Option Addr} {n0 c0 n1 c1 n2 c2 : Nat} {k f t : List Nat} (h0 : Sl w a0 n0 c0 k) (h1 : Sl w a1 n1 c1 f) (h2 : Sl w a2 n2 c2 t) (o : Bool) : Calls Tryd.prog 32 #[.slice a0 n0 c0, .slice a1 n1 c1, .slice a2 n2 c2, .bool o] w fun e w' => e = .returned (.bool (hasB f t o k)) ∧ w = w' := by
  have hC := Lib.hid (keys_cmp h0 h1)
  have hD := Lib.hid (keys_cmp h0 h2)
  unfold hasB
  generalize bcmp k f = V at *
  generalize bcmp k t = U at *
  clear h0 h1 h2
  by_cases hV : V < 0
  · have hV2 : ¬ 0 ≤ V := by omega
    rw [decide_eq_true hV]
    go_enter Tryd.func32, Tryd.ntmps32
    go_wp2_with (go_at_call 34; refine hC.out.mono ?_; rintro e w' ⟨rfl, rfl⟩)
    go_ret
    exact ⟨rfl, rfl⟩
  · have hV2 : 0 ≤ V := by omega
    rw [decide_eq_false hV]
    cases o with
    | true =>
      go_enter Tryd.func32, Tryd.ntmps32
      go_wp2_with (go_at_call 34; refine hC.out.mono ?_; rintro e w' ⟨rfl, rfl⟩)
      go_ret
      exact ⟨rfl, rfl⟩
    | false =>
      go_enter Tryd.func32, Tryd.ntmps32
      go_wp2_with (first
        | (go_at_call 34; refine hE.out.mono ?_; rintro e w' ⟨rfl, rfl⟩)
        | (go_at_call 34; refine hC.out.mono ?_; rintro e w' ⟨rfl, rfl⟩; have hE := Lib.hid hD.out))
      go_ret
      exact ⟨by simp, rfl⟩
/-- how many bytes stay in what comes next -/
def NextIs (p : List Nat) (n : Nat) : Prop := n ≤ p.length ∧ (∀ j, n ≤ j → j < p.length → p.getD j 0 = 255) ∧ (n = 0 ∨ p.getD (n - 1) 0 ≠ 255)
theorem NextIs.uniq {p : List Nat} {n m : Nat} (h : NextIs p n) (k : NextIs p m) : n = m := by
  obtain ⟨h1, h2, h3⟩ := h
  obtain ⟨k1, k2, k3⟩ := k
  rcases Nat.lt_trichotomy n m with q | q | q
  · rcases k3 with e | e
    · omega
    · exact absurd (h2 (m - 1) (by omega) (by omega)) e
  · exact q
  · rcases h3 with e | e
    · omega
    · exact absurd (k2 (n - 1) (by omega) (by omega)) e
/-- the next one of the same beginning -/
def nextL (p : List Nat) (n : Nat) : List Nat := (p.take n).set (n - 1) (p.getD (n - 1) 0 + 1)
/-- what Next gives -/
def nextPost (p : List Nat) (w : World) (e : Ending) (w' : World) : Prop := ∃ n, NextIs p n ∧ Below w.heap.size w w' ∧ ((n = 0 ∧ e = .returned (.tuple #[.slice none 0 0, .bool false])) ∨ (0 < n ∧ ∃ a c, e = .returned (.tuple #[.slice a n c, .bool true]) ∧ Sl w' a n c (nextL p n)))
theorem own_s {w : World} {v : Value} {bs : List Nat} {bo : Option Nat} (h : Own u8T w v (bV bs) bo) : OwnS 1 u8T w v bs.length (bV bs) bo := by
  have hl : (bV bs).length = bs.length := by simp [bV]
  rcases h with ⟨rfl, e, rfl⟩ | ⟨g, cap, cur, rfl, rfl, h4, h5, h6, h7, h8⟩
  · have : bs = [] := by simpa [bV] using e
    subst this
    exact Or.inl ⟨rfl, rfl, rfl, rfl⟩
  · rw [hl] at h5 h8
    exact Or.inr ⟨g, cap, cur, rfl, by rw [hl], h4, h5, h6, by omega, by rw [Nat.mul_one]; exact h8, by rw [Nat.mul_one]; exact hl⟩
theorem clone_own {w : World} {a : Option Addr} {n c : Nat} {bs : List Nat} (h : Sl w a n c bs) (hn : n ≤ 140737488355328) : Calls Tryd.prog 37 #[.slice a n c] w fun e w' => ∃ v bo, e = .returned v ∧ OwnS 1 u8T w' v n (bV bs) bo ∧ Below w.heap.size w w' ∧ (bo = none ∨ ∃ g, bo = some g ∧ w.heap.size ≤ g) :=
  (cloneB_any w a n c bs h.len h.at_ hn (fun e => (h.nil e).1)).mono fun e w' ⟨v, bo, h1, h2, h3, h4⟩ => ⟨v, bo, h1, by have := own_s h2; rw [h.len] at this; exact this, h3, h4⟩
/-- the last byte of a fresh slice goes one up -/
theorem nxt_cell {w0 w : World} {v : Value} {n : Nat} {bs : List Nat} {bo : Option Nat} (h : OwnS 1 u8T w v n (bV bs) bo) (hb : Below w0.heap.size w0 w) (hn : bo = none ∨ ∃ g, bo = some g ∧ w0.heap.size ≤ g) (hpos : 0 < n) (hbs : ∀ x ∈ bs, x < 256) {x : Nat} (hx : bs.getD (n - 1) 0 = x) (hlt : x < 255) :
    ∃ g cap, v = .slice (some ⟨g, 0, none⟩) n cap ∧ w.cell? ⟨g, n - 1, none⟩ = some (.int .u8 (x : Nat)) ∧ w.frozen? ⟨g, n - 1, none⟩ = false ∧
      Sl (w.setCell ⟨g, n - 1, none⟩ (.int .u8 ((x + 1 : Nat) : Int))) (some ⟨g, 0, none⟩) n cap (bs.set (n - 1) (x + 1)) ∧ Below w0.heap.size w0 (w.setCell ⟨g, n - 1, none⟩ (.int .u8 ((x + 1 : Nat) : Int))) := by
  obtain ⟨g, cap, rfl, e1, z1, f1⟩ := h.at_ (j := n - 1) (by omega)
  have hl : bs.length = n := by
    have : (bV bs).length = n * 1 := by
      rcases h with ⟨_, h0, _⟩ | ⟨_, _, _, _, _, _, _, _, _, _, h9⟩
      · omega
      · exact h9
    simpa [bV] using this
  have hg : w0.heap.size ≤ g := by
    rcases hn with e | ⟨g', e, h⟩
    · cases e
    · cases e; exact h
  have hgb : (bs[n - 1]'(by omega)) = x := by rw [← hx, List.getD, List.getElem?_eq_getElem (by omega)]; rfl
  refine ⟨g, cap, e1, ?_, f1, ?_, hb.setCell (p := ⟨g, n - 1, none⟩) hg _⟩
  · rw [z1, bV_get, List.getElem?_eq_getElem (by omega), hgb]; rfl
  · have h2 := h.set (n - 1) (.int .u8 ((x + 1 : Nat) : Int))
    have hset : (bV bs).set (n - 1) (.int .u8 ((x + 1 : Nat) : Int)) = bV (bs.set (n - 1) (x + 1)) := by simp [bV, List.map_set]
    rw [hset] at h2
    obtain ⟨a, c, e, hs⟩ := sl_of_own h2 (fun y hy => by
      rcases List.mem_or_eq_of_mem_set hy with h | h
      · exact hbs y h
      · omega)
    rw [e1] at e
    cases e
    exact hs
theorem getD_take {bs : List Nat} {n i : Nat} (h : i < n) : (bs.take n).getD i 0 = bs.getD i 0 := by
  simp [List.getD, List.getElem?_take, h]
set_option maxHeartbeats 1000000 in
set_option maxRecDepth 100000 in
theorem keys_next {w : World} {a : Option Addr} {n c : Nat} {p : List Nat} (h : Sl w a n c p) (hn : n ≤ 1000) : Calls Tryd.prog 30 #[.slice a n c] w (nextPost p w) := by
  have H := Lib.hid h
  have hl := Lib.hid h.len
  have hB0 := Lib.hid (Below.refl w.heap.size w)
  clear h
  go_enter Tryd.func30, Tryd.ntmps30
  go_wp2_with fail
  go_loopw [4] (fun vi wr => ∃ i : Nat, vi = .int .i64 (i : Nat) ∧ i ≤ n ∧ Hid (∀ j, i ≤ j → j < n → p.getD j 0 = 255) ∧ wr = w) (fun vi _ => (intOf vi).toNat)
  case atStart => exact ⟨n, rfl, Nat.le_refl _, fun j h1 h2 => absurd h1 (by omega), rfl⟩
  case round =>
    obtain ⟨i, rfl, hi, hA, rfl⟩ := hrel
    cases i with
    | zero =>
      have hN : Hid (NextIs p 0) := ⟨Nat.zero_le _, fun j h1 h2 => hA.out j h1 (by rw [← hl.out]; exact h2), Or.inl rfl⟩
      go_wp2_with fail
      go_ret2
      exact ⟨0, hN.out, Below.refl _ _, Or.inl ⟨rfl, rfl⟩⟩
    | succ i =>
      have hw0 : IntKind.i64.wrap (((i + 1 : Nat) : Int) - 1) = (i : Nat) := by rw [show ((i + 1 : Nat) : Int) - 1 = (i : Nat) by omega]; exact IntWalk.i64_in _ (by omega)
      have m0 : (0 : Int) ≤ (i : Int) := by omega
      have m1 : (i : Int) < (n : Int) := by omega
      have m2 : (0 : Int) < ((i + 1 : Nat) : Int) := by omega
      have m3 : ¬ ((i + 1 : Nat) : Int) = 0 := by omega
      have m4 : (i : Int) < ((i + 1 : Nat) : Int) := by omega
      obtain ⟨q, rfl, hq⟩ := H.out.at_.cellN (i := i) (by rw [hl.out]; omega)
      have hq : wr.cell? (q.add i) = some (.int .u8 (p.getD i 0 : Nat)) := hq 0
      have him : i < i + 1 := by omega
      generalize hm : i + 1 = m at *
      have hm1 : m - 1 = i := by omega
      by_cases e : p.getD i 0 = 255
      · have hA2 : Hid (∀ j, i ≤ j → j < n → p.getD j 0 = 255) := fun j h1 h2 => by
          by_cases ej : j = i
          · subst ej; exact e
          · exact hA.out j (by omega) h2
        rw [e] at hq
        clear e hA
        go_wp2_with fail
        go_roundw
        case rel => exact ⟨i, (by first | rfl | go_num), by omega, hA2, (by first | rfl | trivial)⟩
        case measure => (simp [intOf]) <;> omega
      · have hlt : p.getD i 0 < 255 := by
          have := H.out.at_.1 (p.getD i 0) (by rw [List.getD, List.getElem?_eq_getElem (by rw [hl.out]; omega)]; exact List.getElem_mem _)
          omega
        have hN : Hid (NextIs p m) := ⟨by rw [hl.out]; exact hi, fun j h1 h2 => hA.out j h1 (by rw [← hl.out]; exact h2), Or.inr (by rw [hm1]; exact e)⟩
        have hT0 := H.out.to_ (hi := m) hi
        rw [cutA_zero] at hT0
        have hT := Lib.hid hT0
        have hcut : ∀ w, (Instr.slice 22 (.slice (some q) n c) none (some (.int .i64 (m : Int))) none).run Tryd.prog w = .ok (.slice (some q) m c) w := fun w => by rw [run_to8 w (some q) n c m (by have := H.out.cap; omega), cutA_zero]
        have hcc : (m : Int) ≤ (c : Int) := by have := H.out.cap; omega
        have hC := Lib.hid (clone_own hT0 (by omega))
        obtain ⟨x, hx⟩ : ∃ x, x = p.getD i 0 := ⟨_, rfl⟩
        rw [← hx] at hq hlt
        have hF : Hid (∀ v w2 bo, OwnS 1 u8T w2 v m (bV (p.take m)) bo → Below wr.heap.size wr w2 → (bo = none ∨ ∃ g, bo = some g ∧ wr.heap.size ≤ g) →
            ∃ g cap, v = .slice (some ⟨g, 0, none⟩) m cap ∧ w2.cell? ⟨g, i, none⟩ = some (.int .u8 (x : Nat)) ∧ w2.frozen? ⟨g, i, none⟩ = false ∧ nextPost p wr (.returned (.tuple #[.slice (some ⟨g, 0, none⟩) m cap, .bool true])) (w2.setCell ⟨g, i, none⟩ (.int .u8 ((x + 1 : Nat) : Int)))) := fun v w2 bo h1 h2 h3 => by
          obtain ⟨g, cap, r1, r2, r3, r4, r5⟩ := nxt_cell h1 h2 h3 (by omega) hT0.at_.1 (x := x) (by rw [hm1, getD_take (by omega), hx]) hlt
          rw [hm1] at r2 r3 r4 r5
          refine ⟨g, cap, r1, r2, r3, m, hN.out, r5, Or.inr ⟨by omega, _, _, rfl, ?_⟩⟩
          unfold nextL
          rw [hm1, ← hx]
          exact r4
        have hwx : IntKind.u8.wrap ((x : Int) + 1) = ((x + 1 : Nat) : Int) := by
          unfold IntKind.wrap; simp [IntKind.bits, IntKind.signed]; omega
        have hxe : ¬ (x : Int) = 255 := by omega
        clear e hA hN hx hT0
        go_wp2_with (go_at_call 37; refine hC.out.mono ?_; rintro e w2 ⟨v1, bo1, rfl, z1, z2, z3⟩; obtain ⟨g, cap, e9, y1, y2, y3⟩ := hF.out _ _ _ z1 z2 z3; subst e9; have Y := Lib.hid y3; clear y3 z1 z2 z3)
        go_ret2
        exact Y.out
set_option maxHeartbeats 1000000 in
set_option maxRecDepth 100000 in
theorem ref_next {w : World} {a : Option Addr} {n c : Nat} {p : List Nat} (h : Sl w a n c p) (hn : n ≤ 1000) : Calls Tryd.prog 31 #[.slice a n c] w (nextPost p w) := by
  have H := Lib.hid h
  have hl := Lib.hid h.len
  have hB0 := Lib.hid (Below.refl w.heap.size w)
  clear h
  go_enter Tryd.func31, Tryd.ntmps31
  go_wp2_with fail
  go_loopw [4] (fun vi wr => ∃ i : Nat, vi = .int .i64 (i : Nat) ∧ i ≤ n ∧ Hid (∀ j, i ≤ j → j < n → p.getD j 0 = 255) ∧ wr = w) (fun vi _ => (intOf vi).toNat)
  case atStart => exact ⟨n, rfl, Nat.le_refl _, fun j h1 h2 => absurd h1 (by omega), rfl⟩
  case round =>
    obtain ⟨i, rfl, hi, hA, rfl⟩ := hrel
    cases i with
    | zero =>
      have hN : Hid (NextIs p 0) := ⟨Nat.zero_le _, fun j h1 h2 => hA.out j h1 (by rw [← hl.out]; exact h2), Or.inl rfl⟩
      go_wp2_with fail
      go_ret2
      exact ⟨0, hN.out, Below.refl _ _, Or.inl ⟨rfl, rfl⟩⟩
    | succ i =>
      have hw0 : IntKind.i64.wrap (((i + 1 : Nat) : Int) - 1) = (i : Nat) := by rw [show ((i + 1 : Nat) : Int) - 1 = (i : Nat) by omega]; exact IntWalk.i64_in _ (by omega)
      have m0 : (0 : Int) ≤ (i : Int) := by omega
      have m1 : (i : Int) < (n : Int) := by omega
      have m2 : (0 : Int) < ((i + 1 : Nat) : Int) := by omega
      have m3 : ¬ ((i + 1 : Nat) : Int) = 0 := by omega
      have m4 : (i : Int) < ((i + 1 : Nat) : Int) := by omega
      obtain ⟨q, rfl, hq⟩ := H.out.at_.cellN (i := i) (by rw [hl.out]; omega)
      have hq : wr.cell? (q.add i) = some (.int .u8 (p.getD i 0 : Nat)) := hq 0
      have him : i < i + 1 := by omega
      generalize hm : i + 1 = m at *
      have hm1 : m - 1 = i := by omega
      by_cases e : p.getD i 0 = 255
      · have hA2 : Hid (∀ j, i ≤ j → j < n → p.getD j 0 = 255) := fun j h1 h2 => by
          by_cases ej : j = i
          · subst ej; exact e
          · exact hA.out j (by omega) h2
        rw [e] at hq
        clear e hA
        go_wp2_with fail
        go_roundw
        case rel => exact ⟨i, (by first | rfl | go_num), by omega, hA2, (by first | rfl | trivial)⟩
        case measure => (simp [intOf]) <;> omega
      · have hlt : p.getD i 0 < 255 := by
          have := H.out.at_.1 (p.getD i 0) (by rw [List.getD, List.getElem?_eq_getElem (by rw [hl.out]; omega)]; exact List.getElem_mem _)
          omega
        have hN : Hid (NextIs p m) := ⟨by rw [hl.out]; exact hi, fun j h1 h2 => hA.out j h1 (by rw [← hl.out]; exact h2), Or.inr (by rw [hm1]; exact e)⟩
        have hT0 := H.out.to_ (hi := m) hi
        rw [cutA_zero] at hT0
        have hT := Lib.hid hT0
        have hcut : ∀ w, (Instr.slice 22 (.slice (some q) n c) none (some (.int .i64 (m : Int))) none).run Tryd.prog w = .ok (.slice (some q) m c) w := fun w => by rw [run_to8 w (some q) n c m (by have := H.out.cap; omega), cutA_zero]
        have hcc : (m : Int) ≤ (c : Int) := by have := H.out.cap; omega
        have hC := Lib.hid (clone_own hT0 (by omega))
        obtain ⟨x, hx⟩ : ∃ x, x = p.getD i 0 := ⟨_, rfl⟩
        rw [← hx] at hq hlt
        have hF : Hid (∀ v w2 bo, OwnS 1 u8T w2 v m (bV (p.take m)) bo → Below wr.heap.size wr w2 → (bo = none ∨ ∃ g, bo = some g ∧ wr.heap.size ≤ g) →
            ∃ g cap, v = .slice (some ⟨g, 0, none⟩) m cap ∧ w2.cell? ⟨g, i, none⟩ = some (.int .u8 (x : Nat)) ∧ w2.frozen? ⟨g, i, none⟩ = false ∧ nextPost p wr (.returned (.tuple #[.slice (some ⟨g, 0, none⟩) m cap, .bool true])) (w2.setCell ⟨g, i, none⟩ (.int .u8 ((x + 1 : Nat) : Int)))) := fun v w2 bo h1 h2 h3 => by
          obtain ⟨g, cap, r1, r2, r3, r4, r5⟩ := nxt_cell h1 h2 h3 (by omega) hT0.at_.1 (x := x) (by rw [hm1, getD_take (by omega), hx]) hlt
          rw [hm1] at r2 r3 r4 r5
          refine ⟨g, cap, r1, r2, r3, m, hN.out, r5, Or.inr ⟨by omega, _, _, rfl, ?_⟩⟩
          unfold nextL
          rw [hm1, ← hx]
          exact r4
        have hwx : IntKind.u8.wrap ((x : Int) + 1) = ((x + 1 : Nat) : Int) := by
          unfold IntKind.wrap; simp [IntKind.bits, IntKind.signed]; omega
        have hxe : ¬ (x : Int) = 255 := by omega
        clear e hA hN hx hT0
        go_wp2_with (at_builtin; go_loud (refine wpList_append_b rfl _ _ 22 rfl Tryd.underlying22 rfl (some q) m c (p.take m) rfl hT.out (by omega) ?_); intro v1 w2 bo1 HO HM HN; obtain ⟨g, cap, e9, y1, y2, y3⟩ := hF.out _ _ _ HO.out HM.out HN.out; subst e9; have Y := Lib.hid y3; clear y3 HO HM HN)
        go_ret2
        exact Y.out
end Go.Proofs.YtehamfhblpokbaaDoor
