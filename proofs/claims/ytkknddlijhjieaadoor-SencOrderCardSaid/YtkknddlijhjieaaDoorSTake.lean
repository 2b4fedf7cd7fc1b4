/- senc.Take at a text that was put. -/
import Derived.Test.YtkknddlijhjieaaDoorSEnd
set_option linter.unusedVariables false
set_option linter.unusedSimpArgs false
namespace Go.Proofs.YtkknddlijhjieaaDoor
open Go.RowKit
def takePost (s r : List Nat) (w : World) (e : Ending) (w' : World) : Prop := ∃ a1 c1 a2 c2, e = .returned (.tuple #[.slice a1 s.length c1, .slice a2 r.length c2, .int .i64 0]) ∧ Sl w' a1 s.length c1 s ∧ Sl w' a2 r.length c2 r ∧ Below w.heap.size w w'
theorem sl_take {w : World} {p : Addr} {n c : Nat} {a b : List Nat} (h : Sl w (some p) n c (a ++ b)) : Sl w (some p) a.length c a := by
  refine ⟨rfl, ⟨fun x hx => h.at_.1 x (by simp [hx]), fun i hi => ?_⟩, ?_, h.capm, fun e => by cases e⟩
  · have := h.at_.2 i (by rw [List.length_append]; omega)
    rw [List.getD, List.getElem?_append_left hi] at this
    exact this
  · have h1 := h.len
    have h2 := h.cap
    rw [List.length_append] at h1
    omega
theorem bytes_empty (w : World) (a : Option Addr) : BytesAt w a [] := ⟨fun x hx => (by cases hx), fun i hi => (by simp at hi)⟩
theorem putL_esc (s r : List Nat) : putL s ++ r = escL s ++ ([0, 0] ++ r) := by simp [putL]
set_option maxHeartbeats 1000000 in
set_option maxRecDepth 100000 in
theorem senc_take_in {w : World} {m : Int} (hM : MaxAt w m) (p : Addr) (n c z : Nat) (s r : List Nat) (h1 : Sl w (some p) n c (putL s ++ r)) (hs : ∀ x ∈ s, x < 256) (hn : n ≤ 4000) (hz : z = (putL s).length) (hc : ¬ c = z) :
    Calls Tryd.prog 12 #[.slice (some p) n c] w (takePost s r w) := by
  have hlz : n = z + r.length := by rw [← h1.len, List.length_append, hz]
  have hcap := h1.cap
  have hEnd := Lib.hid (senc_end p n c s _ h1 hs (by omega))
  rw [← hz] at hEnd
  have hB : Hid (Below w.heap.size w ((w.alloc (.cells #[.int .u8 0, .int .u8 255] 5 (2, 3))).alloc (.cells #[.int .u8 0] 5 (1, 2)))) := ((Below.refl _ w).alloc (Nat.le_refl _) _).alloc (by simp) _
  have hsz : Hid (((w.alloc (.cells #[.int .u8 0, .int .u8 255] 5 (2, 3))).alloc (.cells #[.int .u8 0] 5 (1, 2))).heap.size = w.heap.size + 2) := by show _ = _; simp
  obtain ⟨L, hL⟩ : ∃ L, L = (escL s).length := ⟨_, rfl⟩
  have hzL : z = L + 2 := by rw [hz, put_len, hL]
  have k1 : (Go.convert 22 22 (.slice (some ⟨w.heap.size, 0, none⟩) 2 2)).run Tryd.prog (w.alloc (.cells #[.int .u8 0, .int .u8 255] 5)) = .ok (.slice (some ⟨w.heap.size, 0, none⟩) 2 2) (w.alloc (.cells #[.int .u8 0, .int .u8 255] 5 (2, 3))) := Joins.run_convert_bytes_const_at _ _ _ _ _ _ _ rfl cloneB_under kuB
  have k2 : (Go.convert 22 22 (.slice (some ⟨w.heap.size + 1, 0, none⟩) 1 1)).run Tryd.prog ((w.alloc (.cells #[.int .u8 0, .int .u8 255] 5 (2, 3))).alloc (.cells #[.int .u8 0] 5)) = .ok (.slice (some ⟨w.heap.size + 1, 0, none⟩) 1 1) ((w.alloc (.cells #[.int .u8 0, .int .u8 255] 5 (2, 3))).alloc (.cells #[.int .u8 0] 5 (1, 2))) := Joins.run_convert_bytes_const_at _ _ _ _ _ _ _ (by simp) cloneB_under kuB
  have hA : Hid (Calls Tryd.prog 16 #[.slice (some p) L c, .slice (some ⟨w.heap.size, 0, none⟩) 2 2, .slice (some ⟨w.heap.size + 1, 0, none⟩) 1 1] ((w.alloc (.cells #[.int .u8 0, .int .u8 255] 5 (2, 3))).alloc (.cells #[.int .u8 0] 5 (1, 2))) (clonePost 5 (bV s) ((w.alloc (.cells #[.int .u8 0, .int .u8 255] 5 (2, 3))).alloc (.cells #[.int .u8 0] 5 (1, 2))))) := by
    have q := sl_take (a := escL s) (b := [0, 0] ++ r) (by rw [← putL_esc]; exact h1)
    rw [← hL] at q
    refine all_b ((hM.alloc _).alloc _) (some p) L c s ((q.alloc _).alloc _) hs (by omega) _ 2 _ 1 ?_ ?_
    · exact bytes_alloc (bytes_mark w [0, 255] (by simp) _ _) _
    · have := bytes_mark (w.alloc (.cells #[.int .u8 0, .int .u8 255] 5 (2, 3))) [0] (by simp) 5 (1, 2)
      rw [show (w.alloc (.cells #[.int .u8 0, .int .u8 255] 5 (2, 3))).heap.size = w.heap.size + 1 from by simp] at this
      exact this
  have hCl : Hid (∀ w1, Below w.heap.size w w1 → Calls Tryd.prog 18 #[.slice (some (p.add z)) (n - z) (c - z)] w1 (clonePost 5 (bV r) w1)) := fun w1 hb => by
    have hr : r.length = n - z := by omega
    have hb2 := (bytes_drop h1.at_ (st := z) (by rw [h1.len]; omega)).below hb
    rw [show (putL s ++ r).drop z = r from by rw [hz, List.drop_left]] at hb2
    exact cloneB_any w1 _ _ _ r hr hb2 (by omega) (fun e => by cases e)
  have hE : Hid (∀ (w1 w2 : World) (v1 v2 : Value) (bo1 bo2 : Option Nat), Below w.heap.size w w1 → Own 5 w1 v1 (bV s) bo1 → Own 5 w2 v2 (bV r) bo2 → Below w1.heap.size w1 w2 → takePost s r w (.returned (.tuple #[v1, v2, .int .i64 0])) w2) := fun w1 w2 v1 v2 bo1 bo2 b1 o1 o2 b2 => by
    obtain ⟨a1, c1, rfl, q1⟩ := own_sl o1 hs
    obtain ⟨a2, c2, rfl, q2⟩ := own_sl o2 (fun x hx => h1.at_.1 x (by simp [hx]))
    exact ⟨a1, c1, a2, c2, rfl, q1.below b2, q2, b1.trans (b2.mono b1.size)⟩
  have q1 : ((z : Int) - 2).toNat = L := by omega
  have q2 : (0 : Int) ≤ (z : Int) - 2 := by omega
  have q3 : (z : Int) - 2 ≤ (c : Int) := by omega
  have q4 : (z : Int) ≤ (n : Int) := by omega
  have q5 : (n : Int) ≤ (c : Int) := by omega
  have qz : (z : Int) ≤ 4000 := by omega
  clear h1 hM hz hlz hcap hL hzL hs hn
  go_enter Tryd.func12, Tryd.ntmps12
  go_wp2_with (first | (go_at_call 15; refine hEnd.out.mono ?_; rintro e w' ⟨rfl, rfl⟩) | (go_at_call 18; go_loud (refine (hCl.out _ H2.out).mono ?_); rintro e w2 ⟨v2, bo2, rfl, h4, h5, h6⟩; have E := Lib.hid (hE.out _ _ _ _ _ _ H2.out H1.out h4 h5)) | (go_at_call 16; go_loud (refine hA.out.mono ?_); rintro e w1 ⟨v1, bo1, rfl, h1, h2, h3⟩; have H1 := Lib.hid h1; have H2 := Lib.hid (hB.out.trans (h2.mono (by rw [hsz.out]; omega))); clear h1 h2 h3))
  go_ret3
  exact E.out
set_option maxHeartbeats 1000000 in
set_option maxRecDepth 100000 in
theorem senc_take_end {w : World} {m : Int} (hM : MaxAt w m) (p : Addr) (n c z : Nat) (s r : List Nat) (h1 : Sl w (some p) n c (putL s ++ r)) (hs : ∀ x ∈ s, x < 256) (hn : n ≤ 4000) (hz : z = (putL s).length) (hc : c = z) :
    Calls Tryd.prog 12 #[.slice (some p) n c] w (takePost s r w) := by
  have hlz : n = z + r.length := by rw [← h1.len, List.length_append, hz]
  have hcap := h1.cap
  obtain rfl : r = [] := List.eq_nil_of_length_eq_zero (by omega)
  obtain rfl : n = z := by rw [← h1.len, List.length_append, hz]; rfl
  obtain rfl : c = n := hc
  have hEnd := Lib.hid (senc_end p c c s _ h1 hs (by omega))
  rw [← hz] at hEnd
  have hB : Hid (Below w.heap.size w ((w.alloc (.cells #[.int .u8 0, .int .u8 255] 5 (2, 3))).alloc (.cells #[.int .u8 0] 5 (1, 2)))) := ((Below.refl _ w).alloc (Nat.le_refl _) _).alloc (by simp) _
  have hsz : Hid (((w.alloc (.cells #[.int .u8 0, .int .u8 255] 5 (2, 3))).alloc (.cells #[.int .u8 0] 5 (1, 2))).heap.size = w.heap.size + 2) := by show _ = _; simp
  obtain ⟨L, hL⟩ : ∃ L, L = (escL s).length := ⟨_, rfl⟩
  have hzL : c = L + 2 := by rw [hz, put_len, hL]
  have k1 : (Go.convert 22 22 (.slice (some ⟨w.heap.size, 0, none⟩) 2 2)).run Tryd.prog (w.alloc (.cells #[.int .u8 0, .int .u8 255] 5)) = .ok (.slice (some ⟨w.heap.size, 0, none⟩) 2 2) (w.alloc (.cells #[.int .u8 0, .int .u8 255] 5 (2, 3))) := Joins.run_convert_bytes_const_at _ _ _ _ _ _ _ rfl cloneB_under kuB
  have k2 : (Go.convert 22 22 (.slice (some ⟨w.heap.size + 1, 0, none⟩) 1 1)).run Tryd.prog ((w.alloc (.cells #[.int .u8 0, .int .u8 255] 5 (2, 3))).alloc (.cells #[.int .u8 0] 5)) = .ok (.slice (some ⟨w.heap.size + 1, 0, none⟩) 1 1) ((w.alloc (.cells #[.int .u8 0, .int .u8 255] 5 (2, 3))).alloc (.cells #[.int .u8 0] 5 (1, 2))) := Joins.run_convert_bytes_const_at _ _ _ _ _ _ _ (by simp) cloneB_under kuB
  have hA : Hid (Calls Tryd.prog 16 #[.slice (some p) L c, .slice (some ⟨w.heap.size, 0, none⟩) 2 2, .slice (some ⟨w.heap.size + 1, 0, none⟩) 1 1] ((w.alloc (.cells #[.int .u8 0, .int .u8 255] 5 (2, 3))).alloc (.cells #[.int .u8 0] 5 (1, 2))) (clonePost 5 (bV s) ((w.alloc (.cells #[.int .u8 0, .int .u8 255] 5 (2, 3))).alloc (.cells #[.int .u8 0] 5 (1, 2))))) := by
    have q := sl_take (a := escL s) (b := [0, 0] ++ []) (by rw [← putL_esc]; exact h1)
    rw [← hL] at q
    refine all_b ((hM.alloc _).alloc _) (some p) L c s ((q.alloc _).alloc _) hs (by omega) _ 2 _ 1 ?_ ?_
    · exact bytes_alloc (bytes_mark w [0, 255] (by simp) _ _) _
    · have := bytes_mark (w.alloc (.cells #[.int .u8 0, .int .u8 255] 5 (2, 3))) [0] (by simp) 5 (1, 2)
      rw [show (w.alloc (.cells #[.int .u8 0, .int .u8 255] 5 (2, 3))).heap.size = w.heap.size + 1 from by simp] at this
      exact this
  have hCl : Hid (∀ w1, Below w.heap.size w w1 → Calls Tryd.prog 18 #[.slice (some p) (0) (0)] w1 (clonePost 5 (bV []) w1)) := fun w1 hb => by
    exact cloneB_any w1 _ _ _ [] rfl (bytes_empty _ _) (by omega) (fun e => by cases e)
  have hE : Hid (∀ (w1 w2 : World) (v1 v2 : Value) (bo1 bo2 : Option Nat), Below w.heap.size w w1 → Own 5 w1 v1 (bV s) bo1 → Own 5 w2 v2 (bV []) bo2 → Below w1.heap.size w1 w2 → takePost s [] w (.returned (.tuple #[v1, v2, .int .i64 0])) w2) := fun w1 w2 v1 v2 bo1 bo2 b1 o1 o2 b2 => by
    obtain ⟨a1, c1, rfl, q1⟩ := own_sl o1 hs
    obtain ⟨a2, c2, rfl, q2⟩ := own_sl o2 (fun x hx => by cases hx)
    exact ⟨a1, c1, a2, c2, rfl, q1.below b2, q2, b1.trans (b2.mono b1.size)⟩
  have q1 : ((c : Int) - 2).toNat = L := by omega
  have q2 : (0 : Int) ≤ (c : Int) - 2 := by omega
  have q3 : (c : Int) - 2 ≤ (c : Int) := by omega
  skip
  skip
  have qz : (c : Int) ≤ 4000 := by omega
  clear h1 hM hz hlz hcap hL hzL hs hn
  go_enter Tryd.func12, Tryd.ntmps12
  go_wp2_with (first | (go_at_call 15; refine hEnd.out.mono ?_; rintro e w' ⟨rfl, rfl⟩) | (go_at_call 18; go_loud (refine (hCl.out _ H2.out).mono ?_); rintro e w2 ⟨v2, bo2, rfl, h4, h5, h6⟩; have E := Lib.hid (hE.out _ _ _ _ _ _ H2.out H1.out h4 h5)) | (go_at_call 16; go_loud (refine hA.out.mono ?_); rintro e w1 ⟨v1, bo1, rfl, h1, h2, h3⟩; have H1 := Lib.hid h1; have H2 := Lib.hid (hB.out.trans (h2.mono (by rw [hsz.out]; omega))); clear h1 h2 h3))
  go_ret3
  exact E.out
end Go.Proofs.YtkknddlijhjieaaDoor
