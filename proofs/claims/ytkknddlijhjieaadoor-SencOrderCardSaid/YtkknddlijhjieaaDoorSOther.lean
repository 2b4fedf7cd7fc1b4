/- senc.Other, and the document's Other and Put. -/
import Derived.Test.YtkknddlijhjieaaDoorSPut
import Derived.Laws.Bits64
set_option linter.unusedVariables false
set_option linter.unusedSimpArgs false
namespace Go.Proofs.YtkknddlijhjieaaDoor
open Go.RowKit
theorem xor_all : (List.range 256).all (fun x => decide (bits .xor .u8 (x : Int) 255 = 255 - (x : Int))) = true := by kernel_rfl
theorem xor_255 {x : Nat} (h : x < 256) : bits .xor .u8 (x : Int) 255 = ((255 - x : Nat) : Int) := by
  have := of_decide_eq_true (List.all_eq_true.1 xor_all x (List.mem_range.2 h))
  omega
theorem othL_len (s : List Nat) : (othL s).length = s.length := by simp [othL]
theorem othL_lt (s : List Nat) : ∀ x ∈ othL s, x < 256 := fun x hx => by
  obtain ⟨y, _, rfl⟩ := List.mem_map.1 hx
  omega
/-- so far i bytes are turned -/
def othTo (s : List Nat) (i : Nat) : List Nat := othL (s.take i) ++ s.drop i
theorem othTo_zero (s : List Nat) : othTo s 0 = s := by simp [othTo, othL]
theorem othTo_all (s : List Nat) : othTo s s.length = othL s := by simp [othTo]
theorem othTo_len (s : List Nat) (i : Nat) : (othTo s i).length = s.length := by simp [othTo, othL]; omega
theorem othTo_at (s : List Nat) {i : Nat} (h : i < s.length) : (othTo s i)[i]? = some (s.getD i 0) := by
  rw [othTo, List.getElem?_append_right (by simp [othL]; omega), List.getElem?_drop, List.getD, List.getElem?_eq_getElem (by simp [othL]; omega)]
  simp [othL, Nat.min_eq_left (Nat.le_of_lt h), h]
theorem othTo_step (s : List Nat) {i : Nat} (h : i < s.length) : (othTo s i).set i (255 - s.getD i 0) = othTo s (i + 1) := by
  apply List.ext_getElem?
  intro j
  rw [List.getElem?_set, othTo_len]
  simp only [othTo, List.getElem?_append, othL, List.length_map, List.length_take, List.getElem?_map, List.getElem?_take, List.getElem?_drop]
  by_cases e : i = j
  · subst e
    simp [h, List.getD, show i < min (i + 1) s.length by omega]
  · by_cases h1 : j < i
    · simp [e, show j < min i s.length by omega, show j < min (i + 1) s.length by omega, h1, show j < i + 1 by omega]
    · by_cases h2 : j < s.length
      · simp [e, show ¬ j < min i s.length by omega, show ¬ j < min (i + 1) s.length by omega]
        congr 1; omega
      · simp [e, show ¬ j < min i s.length by omega, show ¬ j < min (i + 1) s.length by omega]
        rw [List.getElem?_eq_none (by omega), List.getElem?_eq_none (by omega)]
/-- the loop over the bytes -/
def OthW (w : World) (v : Value) (s : List Nat) (bo : Option Nat) (i : Nat) (wr : World) : Prop := Own 5 wr v (bV (othTo s i)) bo ∧ Below w.heap.size w wr ∧ (bo = none ∨ ∃ g, bo = some g ∧ w.heap.size ≤ g)
theorem bV_set (L : List Nat) (i x : Nat) : (bV L).set i (.int .u8 (x : Nat)) = bV (L.set i x) := by simp [bV, List.map_set]
theorem OthW.step {w : World} {v : Value} {s : List Nat} {bo : Option Nat} {i g : Nat} {wr : World} (h : OthW w v s bo i wr) (hi : i < s.length) (hg : bo = some g) : OthW w v s bo (i + 1) (wr.setCell ⟨g, i, none⟩ (.int .u8 ((255 - s.getD i 0 : Nat) : Int))) := by
  obtain ⟨h1, h2, h3⟩ := h
  subst hg
  have := h1.set i (.int .u8 ((255 - s.getD i 0 : Nat) : Int))
  rw [bV_set, othTo_step s hi] at this
  refine ⟨this, h2.setCell ?_ _, h3⟩
  rcases h3 with e | ⟨g', e, h⟩
  · cases e
  · cases e; exact h
set_option maxHeartbeats 1000000 in
set_option maxRecDepth 100000 in
theorem senc_other {w : World} (a0 : Option Addr) (n c : Nat) (s : List Nat) (h1 : Sl w a0 n c s) (hn : n ≤ 9000) :
    Calls Tryd.prog 10 #[.slice a0 n c] w (clonePost 5 (bV (othL s)) w) := by
  have hC := Lib.hid (cloneB_any w a0 n c s h1.len h1.at_ (by omega) (fun e => (h1.nil e).1))
  have hs := Lib.hid h1.at_.1
  have hl := h1.len
  clear h1
  go_enter Tryd.func10, Tryd.ntmps10
  go_wp2_with (go_at_call 18; refine hC.out.mono ?_; rintro e w1 ⟨v, bo, rfl, k1, k2, k3⟩; obtain ⟨a1, c1, rfl⟩ := k1.len; rw [bV_len, hl] at k1 ⊢; have hO : Hid (OthW w (.slice a1 n c1) s bo 0 w1) := ⟨by rw [othTo_zero]; exact k1, k2, k3⟩; clear k1 k2 k3)
  go_loopw [9, 4] (fun vi v4 wr => ∃ i : Nat, vi = .int .i64 (i : Nat) ∧ i ≤ n ∧ Hid (OthW w (.slice a1 n c1) s bo i wr)) (fun vi _ _ => (n - intOf vi).toNat)
  case atStart => exact ⟨0, rfl, by omega, hO⟩
  case round =>
    obtain ⟨i, rfl, hi, HO⟩ := hrel
    by_cases hlt : i < n
    · obtain ⟨g, cap, rfl, hv, hcell, hfr, hcap⟩ := HO.out.1.at_ (j := i) (by rw [bV_len, othTo_len]; omega)
      rw [bV_len, othTo_len, hl] at hv
      simp only [Value.slice.injEq, true_and] at hv
      obtain ⟨rfl, rfl⟩ := hv
      obtain ⟨x, hx⟩ : ∃ x, x = s.getD i 0 := ⟨_, rfl⟩
      have hcell2 : wr.cell? ⟨g, i, none⟩ = some (.int .u8 (x : Nat)) := by
        rw [hcell]
        have := othTo_at s (i := i) (by omega)
        have h2 : (bV (othTo s i))[i]? = some (.int .u8 (x : Nat)) := by rw [bV_get, this, hx]; rfl
        rw [List.getElem?_eq_getElem (by rw [bV_len, othTo_len]; omega)] at h2
        exact h2
      have hx256 : x < 256 := hs.out x (by rw [hx, List.getD, List.getElem?_eq_getElem (by omega)]; exact List.getElem_mem _)
      obtain ⟨y, hy⟩ : ∃ y, y = 255 - x := ⟨_, rfl⟩
      have hxor : bits .xor .u8 (x : Int) 255 = (y : Int) := by rw [hy]; exact xor_255 hx256
      have hst := HO.out.step (by omega) rfl
      rw [← hx, ← hy] at hst
      replace hst := Lib.hid hst
      have hlt2 : (i : Int) < (n : Int) := by omega
      have hi9 : (i : Int) ≤ 9000 := by omega
      clear hx hy hcell hC hO
      go_wp2_with fail
      go_roundw
      · exact ⟨i + 1, rfl, by omega, hst⟩
      · simp only [intOf]; omega
    · have hlt2 : ¬ (i : Int) < (n : Int) := by omega
      obtain rfl : i = n := by omega
      have hE : Hid (clonePost 5 (bV (othL s)) w (.returned (.slice a1 i c1)) wr) := by
        obtain ⟨k1, k2, k3⟩ := HO.out
        rw [← hl, othTo_all] at k1
        rw [hl] at k1
        exact ⟨_, _, rfl, k1, k2, k3⟩
      clear hC hO HO
      go_wp2_with fail
      go_ret
      exact hE.out
/-- the document's Other, so far -/
def OthR (w : World) (g : Nat) (s : List Nat) (i : Nat) (wr : World) : Prop := wr.heap[g]? = some (.cells (bV (othL (s.take i) ++ List.replicate (s.length - i) 0)).toArray 5 (0, 0)) ∧ Below w.heap.size w wr ∧ w.heap.size ≤ g
theorem othR_len (s : List Nat) {i : Nat} (h : i ≤ s.length) : (othL (s.take i) ++ List.replicate (s.length - i) 0).length = s.length := by simp [othL]; omega
theorem othR_step (s : List Nat) {i : Nat} (h : i < s.length) : (othL (s.take i) ++ List.replicate (s.length - i) 0).set i (255 - s.getD i 0) = othL (s.take (i + 1)) ++ List.replicate (s.length - (i + 1)) 0 := by
  apply List.ext_getElem?
  intro j
  rw [List.getElem?_set, othR_len s (Nat.le_of_lt h)]
  simp only [List.getElem?_append, othL, List.length_map, List.length_take, List.getElem?_map, List.getElem?_take, List.getElem?_replicate]
  by_cases e : i = j
  · subst e
    simp [h, List.getD, show i < min (i + 1) s.length by omega]
  · by_cases h1 : j < i
    · simp [e, show j < min i s.length by omega, show j < min (i + 1) s.length by omega, h1, show j < i + 1 by omega]
    · simp [e, show ¬ j < min i s.length by omega, show ¬ j < min (i + 1) s.length by omega]
      by_cases h2 : j < s.length
      · rw [if_pos (by omega), if_pos (by omega)]
      · rw [if_neg (by omega), if_neg (by omega)]
theorem OthR.step {w : World} {g : Nat} {s : List Nat} {i : Nat} {wr : World} (h : OthR w g s i wr) (hi : i < s.length) : OthR w g s (i + 1) (wr.setCell ⟨g, i, none⟩ (.int .u8 ((255 - s.getD i 0 : Nat) : Int))) := by
  obtain ⟨h1, h2, h3⟩ := h
  refine ⟨?_, h2.setCell h3 _, h3⟩
  rw [setCell_list _ _ _ _ _ _ h1, setRow_heap _ _ _ _ _ _ h1, bV_set, othR_step s hi]
set_option maxHeartbeats 1000000 in
set_option maxRecDepth 100000 in
theorem ref_other {w : World} (a0 : Option Addr) (n c : Nat) (s : List Nat) (h1 : Sl w a0 n c s) (hn : n ≤ 9000) :
    Calls Tryd.prog 11 #[.slice a0 n c] w (clonePost 5 (bV (othL s)) w) := by
  have hmk : ∀ w, (Instr.makeSlice 22 (.int .i64 (n : Nat)) (.int .i64 (n : Nat))).run Tryd.prog w = .ok (.slice (some ⟨w.heap.size, 0, none⟩) n n) (w.alloc (.cells (List.replicate n (.int .u8 0)).toArray 5)) := fun w => make_u8 w n (by omega)
  have hO : OthR w w.heap.size s 0 (w.alloc (.cells (List.replicate n (.int .u8 0)).toArray 5)) := ⟨by rw [heap_alloc_new]; simp [othL, bV, h1.len], (Below.refl _ w).alloc (Nat.le_refl _) _, Nat.le_refl _⟩
  replace hO := Lib.hid hO
  have H1 : Hid (∀ wr i, OthR w w.heap.size s i wr → i < n → ∃ p : Addr, a0 = some p ∧ wr.cell? (p.add i) = some (.int .u8 (s.getD i 0 : Nat))) := fun wr i h hi => by
    have h2 : Below w.heap.size w wr := h.2.1
    exact h1.at_.read h2 (by rw [h1.len]; exact hi)
  have hs := Lib.hid h1.at_.1
  have hl := h1.len
  clear h1
  go_enter Tryd.func11, Tryd.ntmps11
  go_wp2_with fail
  clear hmk
  change Code.wp _ _ _ _ (w.alloc (.cells (List.replicate n (.int .u8 0)).toArray 5))
  generalize (w.alloc (.cells (List.replicate n (.int .u8 0)).toArray 5)) = w1 at *
  go_loopw [4] (fun vi wr => ∃ i : Nat, vi = .int .i64 (i : Nat) ∧ i ≤ n ∧ Hid (OthR w w.heap.size s i wr)) (fun vi _ => (n - intOf vi).toNat)
  case atStart => exact ⟨0, rfl, by omega, hO⟩
  case round =>
    obtain ⟨i, rfl, hi, HO⟩ := hrel
    by_cases hlt : i < n
    · obtain ⟨p, rfl, hcell⟩ := H1.out _ _ HO.out hlt
      obtain ⟨x, hx⟩ : ∃ x, x = s.getD i 0 := ⟨_, rfl⟩
      rw [← hx] at hcell
      have hx256 : x < 256 := hs.out x (by rw [hx, List.getD, List.getElem?_eq_getElem (by omega)]; exact List.getElem_mem _)
      have hfr := frozen_of_blk HO.out.1 i
      obtain ⟨u, hcell2⟩ : ∃ u, wr.cell? ⟨w.heap.size, i, none⟩ = some u := by
        refine ⟨_, (cell_of_blk HO.out.1 i).trans (List.getElem?_eq_getElem (by rw [bV_len, othR_len s (by omega)]; omega))⟩
      obtain ⟨y, hy⟩ : ∃ y, y = 255 - x := ⟨_, rfl⟩
      have hsub : (255 : Int) - (x : Int) = (y : Int) := by omega
      have hst := HO.out.step (by omega)
      rw [← hx, ← hy] at hst
      replace hst := Lib.hid hst
      have hlt2 : (i : Int) < (n : Int) := by omega
      have hi9 : (i : Int) ≤ 9000 := by omega
      have hx9 : (x : Int) ≤ 255 := by omega
      have hsub2 := Lib.hid hsub
      clear hx hy hO H1 hsub
      go_upto_region 4 with fail
      rw [hsub2.out]
      go_wp2_with fail
      go_roundw
      · exact ⟨i + 1, rfl, by omega, hst⟩
      · simp only [intOf]; omega
    · have hlt2 : ¬ (i : Int) < (n : Int) := by omega
      obtain rfl : i = n := by omega
      have hE : Hid (clonePost 5 (bV (othL s)) w (.returned (.slice (some ⟨w.heap.size, 0, none⟩) i i)) wr) := by
        obtain ⟨k1, k2, k3⟩ := HO.out
        rw [← hl, List.take_length, Nat.sub_self, List.replicate_zero, List.append_nil] at k1
        refine ⟨_, _, rfl, Or.inr ⟨_, _, _, rfl, by rw [bV_len, othL_len, hl], k1, by rw [bV_len, othL_len, hl]; exact Nat.le_refl _, by have : maxLen = 9223372036854775807 := rfl; omega, by simp [bV_len, othL_len, hl], by simp⟩, k2, Or.inr ⟨_, rfl, k3⟩⟩
      clear hO HO H1
      go_wp2_with fail
      go_ret
      exact hE.out
/-- what is grown of one's own -/
def OwnR (w : World) (L : List Nat) (v : Value) (bo : Option Nat) (wr : World) : Prop := Own 5 wr v (bV L) bo ∧ Below w.heap.size w wr ∧ (bo = none ∨ ∃ g, bo = some g ∧ w.heap.size ≤ g)
theorem OwnR.app {w wr w1 : World} {L X : List Nat} {v v1 : Value} {bo bo1 : Option Nat} {o : Obj} (h : OwnR w L v bo wr) (h1 : Own 5 w1 v1 (bV L ++ bV X) bo1) (h2 : Mod (fun k => bo = some k) (wr.alloc o) w1) (h3 : NewOr (wr.alloc o) bo bo1) : OwnR w (L ++ X) v1 bo1 w1 := by
  obtain ⟨k1, k2, k3⟩ := h
  have hsz := k2.size
  refine ⟨by rw [bV_app]; exact h1, ?_, ?_⟩
  · have hb : Below w.heap.size w (wr.alloc o) := k2.alloc hsz _
    refine below_mod hb h2 fun j e => ?_
    rcases k3 with rfl | ⟨g, rfl, hg⟩
    · cases e
    · cases e; exact hg
  · rcases h3 with rfl | ⟨g, rfl, hg⟩
    · exact k3
    · exact Or.inr ⟨g, rfl, by simp at hg; omega⟩
theorem Own.alloc {ty : Nat} {w : World} {v : Value} {xs : List Value} {bo : Option Nat} (h : Own ty w v xs bo) (o : Obj) : Own ty (w.alloc o) v xs bo := h.keep fun g e => by
  subst e; exact Below.heap_alloc _ _ _ h.lt
theorem news_alloc (w : World) (vs : List Value) (t : TypeId) (fr : Nat × Nat) : ∀ j u, vs[j]? = some u → (w.alloc (.cells vs.toArray t fr)).cell? ((⟨w.heap.size, 0, none⟩ : Addr).add j) = some u := fun j u h => by
  rw [add0, World.cell?_alloc_mark, List.getElem?_toArray, h]
theorem take_snoc (s : List Nat) {i : Nat} (h : i < s.length) : s.take (i + 1) = s.take i ++ [s.getD i 0] := by
  rw [List.take_add_one, List.getElem?_eq_getElem h, List.getD, List.getElem?_eq_getElem h]; rfl
theorem escL_take_le (s : List Nat) (i : Nat) : (escL (s.take i)).length ≤ 2 * s.length := by
  rw [escL_len]
  have := List.count_le_length (a := 0) (l := s.take i)
  have h2 := List.length_take_le i s
  have h3 : (s.take i).length ≤ s.length := by rw [List.length_take]; omega
  omega
set_option maxHeartbeats 1000000 in
set_option maxRecDepth 100000 in
theorem ref_put {w : World} (a0 : Option Addr) (n c : Nat) (s : List Nat) (h1 : Sl w a0 n c s) (hn : n ≤ 4000) :
    Calls Tryd.prog 6 #[.slice a0 n c] w (clonePost 5 (bV (putL s)) w) := by
  have hO : Hid (OwnR w (escL (s.take 0)) (.slice none 0 0) none w) := ⟨Own.nil _ _, Below.refl _ _, Or.inl rfl⟩
  have H1 : Hid (∀ wr, Below w.heap.size w wr → ∀ i, i < n → ∃ p : Addr, a0 = some p ∧ wr.cell? (p.add i) = some (.int .u8 (s.getD i 0 : Nat))) := fun wr h i hi => h1.at_.read h (by rw [h1.len]; exact hi)
  have hs := Lib.hid h1.at_.1
  have hl := h1.len
  have hml : maxLen = 9223372036854775807 := rfl
  clear h1
  go_enter Tryd.func6, Tryd.ntmps6
  go_wp2_with fail
  go_loopw [3, 4] (fun v3 vi wr => ∃ (i : Nat) (bo : Option Nat), vi = .int .i64 (i : Nat) ∧ i ≤ n ∧ Hid (OwnR w (escL (s.take i)) v3 bo wr)) (fun _ vi _ => (n - intOf vi).toNat)
  case atStart => exact ⟨0, none, rfl, by omega, hO⟩
  case round =>
    obtain ⟨i, bo, rfl, hi, HO⟩ := hrel
    obtain ⟨a3, c3, rfl⟩ := HO.out.1.len
    have hle := escL_take_le s i
    rw [bV_len] at HO ⊢
    obtain ⟨L, hL⟩ : ∃ L, L = escL (s.take i) := ⟨_, rfl⟩
    rw [← hL] at hle HO ⊢
    by_cases hlt : i < n
    · obtain ⟨p, rfl, hcell⟩ := H1.out _ HO.out.2.1 i hlt
      have hstep := take_snoc s (i := i) (by omega)
      obtain ⟨x, hx⟩ : ∃ x, x = s.getD i 0 := ⟨_, rfl⟩
      rw [← hx] at hcell hstep
      have hnx : Hid (escL (s.take (i + 1)) = L ++ esc x) := by show _ = _; rw [hstep, escL_app, ← hL, escL_cons]; simp [escL]
      have hown := Lib.hid (HO.out.1.alloc (.cells #[.int .u8 (x : Nat)] 5))
      have hnew := Lib.hid (news_alloc wr [.int .u8 (x : Nat)] 5 (0, 0))
      have hon : Hid (∀ u ∈ [Value.int .u8 (x : Nat)], u.oneCell' = true) := Lib.hid (bV_one [x])
      have hb1 : Hid ((bV L).length + 1 ≤ maxLen) := by show _ ≤ _; rw [bV_len]; omega
      have hb2 : Hid (((bV L).length + 1) * 1 ≤ 140737488355328) := by show _ ≤ _; rw [bV_len]; omega
      have H2 : Hid (∀ v1 w1 bo1, Own 5 w1 v1 (bV L ++ [.int .u8 (x : Nat)]) bo1 → Mod (fun k => bo = some k) (wr.alloc (.cells #[.int .u8 (x : Nat)] 5)) w1 → NewOr (wr.alloc (.cells #[.int .u8 (x : Nat)] 5)) bo bo1 → OwnR w (L ++ [x]) v1 bo1 w1 ∧ w1.cell? (p.add i) = some (.int .u8 (x : Nat)) ∧ ∃ a1 c1, v1 = .slice a1 (L.length + 1) c1) := fun v1 w1 bo1 q1 q2 q3 => by
        have q := HO.out.app (X := [x]) q1 q2 q3
        refine ⟨q, ?_, ?_⟩
        · obtain ⟨p', e, h⟩ := H1.out _ q.2.1 i hlt
          cases e
          rw [← hx] at h; exact h
        · obtain ⟨a1, c1, h⟩ := q.1.len
          exact ⟨a1, c1, by rw [h, bV_len, List.length_append]; rfl⟩
      have hlt2 : (i : Int) < (n : Int) := by omega
      have hi9 : (i : Int) ≤ 4000 := by omega
      have Hlt := Lib.hid hlt
      have hb3 : Hid ((bV (L ++ [x])).length + 1 ≤ maxLen) := by show _ ≤ _; rw [bV_len, List.length_append]; simp only [List.length_cons, List.length_nil]; omega
      have hb4 : Hid (((bV (L ++ [x])).length + 1) * 1 ≤ 140737488355328) := by show _ ≤ _; rw [bV_len, List.length_append]; simp only [List.length_cons, List.length_nil]; omega
      have hon2 : Hid (∀ u ∈ [Value.int .u8 255], u.oneCell' = true) := Lib.hid (bV_one [255])
      clear hx hO hstep hL hlt hi hle
      by_cases hx0 : x = 0
      · have hx1 : ((x : Int) == 0) = true := by rw [hx0]; rfl
        have hnx2 : Hid (escL (s.take (i + 1)) = (L ++ [x]) ++ [255]) := by show _ = _; rw [hnx.out, esc, if_pos hx0, hx0]; simp
        clear hx0
        go_wp2_with (first | (at_builtin; refine wpList_append_at rfl (.tmp 23) (.tmp 24) 22 rfl 5 (.int .u8 0) 1 cloneB_under cloneB_info rfl (.slice a1 (L.length + 1) c1) rfl (bV (L ++ [x])) bo1 hown1.out ⟨w1.heap.size, 0, none⟩ 1 1 [.int .u8 255] rfl rfl hnew1.out hon2.out hb3.out hb4.out ?_; intro v2 w2 bo2 HO2 HM2 HN2) | (at_builtin; go_loud (refine wpList_append_at rfl (.tmp 11) (.tmp 16) 22 rfl 5 (.int .u8 0) 1 cloneB_under cloneB_info rfl (.slice a3 L.length c3) rfl (bV L) bo hown.out ⟨wr.heap.size, 0, none⟩ 1 1 [.int .u8 (x : Nat)] rfl rfl hnew.out hon.out hb1.out hb2.out ?_); intro v1 w1 bo1 HO1 HM HN; obtain ⟨k1, hcell1, a1, c1, rfl⟩ := H2.out _ _ _ HO1.out HM.out HN.out; have K1 := Lib.hid k1; have hown1 := Lib.hid (k1.1.alloc (.cells #[.int .u8 255] 5)); have hnew1 := Lib.hid (news_alloc w1 [.int .u8 255] 5 (0, 0)); clear k1 HO1 HM HN))
        go_roundw
        · refine ⟨i + 1, bo2, rfl, Hlt.out, ?_⟩
          rw [hnx2.out]
          exact K1.out.app (X := [255]) HO2.out HM2.out HN2.out
        · have := Hlt.out; simp only [intOf]; omega
      · have hx1 : ((x : Int) == 0) = false := beq_eq_false_iff_ne.2 (by omega)
        have hnx2 : Hid (escL (s.take (i + 1)) = (L ++ [x])) := by show _ = _; rw [hnx.out, esc, if_neg hx0]
        clear hx0
        go_wp2_with (at_builtin; go_loud (refine wpList_append_at rfl (.tmp 11) (.tmp 16) 22 rfl 5 (.int .u8 0) 1 cloneB_under cloneB_info rfl (.slice a3 L.length c3) rfl (bV L) bo hown.out ⟨wr.heap.size, 0, none⟩ 1 1 [.int .u8 (x : Nat)] rfl rfl hnew.out hon.out hb1.out hb2.out ?_); intro v1 w1 bo1 HO1 HM HN; obtain ⟨k1, hcell1, a1, c1, rfl⟩ := H2.out _ _ _ HO1.out HM.out HN.out; have K1 := Lib.hid k1; have hown1 := Lib.hid (k1.1.alloc (.cells #[.int .u8 255] 5)); have hnew1 := Lib.hid (news_alloc w1 [.int .u8 255] 5 (0, 0)); clear k1 HO1 HM HN)
        go_roundw
        · refine ⟨i + 1, bo1, rfl, Hlt.out, ?_⟩
          rw [hnx2.out]
          exact K1.out
        · have := Hlt.out; simp only [intOf]; omega
    · have hlt2 : ¬ (i : Int) < (n : Int) := by omega
      obtain rfl : i = n := by omega
      rw [← hl, List.take_length] at hL
      have hown := Lib.hid (HO.out.1.alloc (.cells #[.int .u8 0, .int .u8 0] 5))
      have hnew := Lib.hid (news_alloc wr [.int .u8 0, .int .u8 0] 5 (0, 0))
      have hon : Hid (∀ u ∈ [Value.int .u8 0, .int .u8 0], u.oneCell' = true) := Lib.hid (bV_one [0, 0])
      have hb1 : Hid ((bV L).length + 2 ≤ maxLen) := by show _ ≤ _; rw [bV_len]; omega
      have hb2 : Hid (((bV L).length + 2) * 1 ≤ 140737488355328) := by show _ ≤ _; rw [bV_len]; omega
      have hE : Hid (∀ v1 w1 bo1, OwnR w (L ++ [0, 0]) v1 bo1 w1 → clonePost 5 (bV (putL s)) w (.returned v1) w1) := fun v1 w1 bo1 q => by
        rw [hL] at q
        exact ⟨v1, bo1, rfl, q.1, q.2.1, q.2.2⟩
      clear hO H1 hL hle
      go_wp2_with (at_builtin; go_loud (refine wpList_append_at rfl (.tmp 26) (.tmp 27) 22 rfl 5 (.int .u8 0) 1 cloneB_under cloneB_info rfl (.slice a3 L.length c3) rfl (bV L) bo hown.out ⟨wr.heap.size, 0, none⟩ 2 2 [.int .u8 0, .int .u8 0] rfl rfl hnew.out hon.out hb1.out hb2.out ?_); intro v1 w1 bo1 HO1 HM HN)
      go_ret
      exact hE.out _ _ _ (HO.out.app (X := [0, 0]) HO1.out HM.out HN.out)
end Go.Proofs.YtkknddlijhjieaaDoor
