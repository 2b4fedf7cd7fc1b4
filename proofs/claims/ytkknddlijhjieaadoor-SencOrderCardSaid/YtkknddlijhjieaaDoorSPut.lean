/- bytes.ReplaceAll as senc calls it; senc.Put, senc.Len. -/
import Derived.Test.YtkknddlijhjieaaDoorSReplace2
import Derived.Lib.AppendStr
import Derived.Lib.SmallJoins
set_option linter.unusedVariables false
set_option linter.unusedSimpArgs false
namespace Go.Proofs.YtkknddlijhjieaaDoor
open Go.RowKit
/-- a slice of bytes, with what is known of its room -/
structure Sl (w : World) (a : Option Addr) (n c : Nat) (bs : List Nat) : Prop where
  len : bs.length = n
  at_ : BytesAt w a bs
  cap : n ≤ c
  capm : c ≤ maxLen
  nil : a = none → n = 0 ∧ c = 0
section
variable {w w' : World} {a : Option Addr} {n c : Nat} {bs : List Nat}
theorem Sl.below (h : Sl w a n c bs) (hb : Below w.heap.size w w') : Sl w' a n c bs := ⟨h.len, h.at_.below hb, h.cap, h.capm, h.nil⟩
theorem Sl.drewN (h : Sl w a n c bs) (k : Nat) : Sl (w.drewN k) a n c bs := ⟨h.len, h.at_.drewN k, h.cap, h.capm, h.nil⟩
end
theorem own_row {ty : Nat} {w : World} {v : Value} {xs : List Value} {bo : Option Nat} {base : Nat} (h : Own ty w v xs bo) (hb : bo = none ∨ ∃ g, bo = some g ∧ base ≤ g) : w.ownsRow base ty 1 v xs.length xs := by
  refine ⟨by omega, ?_⟩
  rcases h with ⟨rfl, rfl, rfl⟩ | ⟨g, cap, cur, rfl, rfl, h1, h2, h3, h4, h5⟩
  · exact Or.inl ⟨rfl, rfl⟩
  · have : base ≤ g := by
      rcases hb with e | ⟨g', e, h⟩
      · cases e
      · cases e; exact h
    exact Or.inr ⟨g, cap, cur, rfl, this, h1, h2, h3, by omega, by rw [Nat.mul_one]; exact h5⟩
theorem row_own {ty : Nat} {w : World} {v : Value} {xs : List Value} {n base : Nat} (h : w.ownsRow base ty 1 v n xs) : ∃ bo, Own ty w v xs bo ∧ (bo = none ∨ ∃ g, bo = some g ∧ base ≤ g) := by
  obtain ⟨hl, ⟨rfl, rfl⟩ | ⟨g, cap, cur, rfl, hb, h1, h2, h3, h4, h5⟩⟩ := h
  · exact ⟨none, Or.inl ⟨rfl, List.eq_nil_of_length_eq_zero (by omega), rfl⟩, Or.inl rfl⟩
  · have e : xs.length = n := by omega
    exact ⟨some g, Or.inr ⟨g, cap, cur, rfl, by rw [e], h1, by omega, h3, by omega, by rw [e]; rw [Nat.mul_one] at h5; exact h5⟩, Or.inr ⟨g, rfl, hb⟩⟩
/-- what is made is a slice of bytes -/
theorem own_sl {w : World} {v : Value} {bs : List Nat} {bo : Option Nat} (h : Own 5 w v (bV bs) bo) (hb : ∀ x ∈ bs, x < 256) : ∃ a c, v = .slice a bs.length c ∧ Sl w a bs.length c bs := by
  rcases h with ⟨rfl, e, rfl⟩ | ⟨g, cap, cur, rfl, rfl, h1, h2, h3, h4, h5⟩
  · have : bs = [] := by simpa [bV] using e
    subst this
    exact ⟨none, 0, rfl, rfl, ⟨hb, fun i hi => by simp at hi⟩, Nat.le_refl _, Nat.zero_le _, fun _ => ⟨rfl, rfl⟩⟩
  · rw [bV_len] at h2 h5
    refine ⟨some ⟨g, 0, none⟩, cap, by rw [bV_len], rfl, ⟨hb, fun i hi => ⟨_, rfl, ?_, ?_⟩⟩, h2, h3, fun e => by cases e⟩
    · rw [add0]; exact (Array.getElem?_eq_some_iff.1 h1).1
    · rw [add0, cell_of_blk (c := cur.toList) (t := 5) (by simpa using h1)]
      have e := take_get (j := i) h5 hi
      rw [e, bV_get, List.getD, List.getElem?_eq_getElem hi]
      rfl
def slPost (bs : List Nat) (w : World) (e : Ending) (w' : World) : Prop := ∃ a c, e = .returned (.slice a bs.length c) ∧ Sl w' a bs.length c bs ∧ Below w.heap.size w w'
theorem clone_sl {bs : List Nat} {w : World} {e : Ending} {w' : World} (h : clonePost 5 (bV bs) w e w') (hb : ∀ x ∈ bs, x < 256) : slPost bs w e w' := by
  obtain ⟨v, bo, rfl, h1, h2, h3⟩ := h
  obtain ⟨a, c, rfl, h4⟩ := own_sl h1 hb
  exact ⟨a, c, rfl, h4, h2⟩
theorem rep_any_a {w : World} {m : Int} (hM : MaxAt w m) (a0 : Option Addr) (n c : Nat) (s : List Nat) (h1 : Sl w a0 n c s) (hs : ∀ x ∈ s, x < 256) (hn : n ≤ 4000) (g1 c1 g2 c2 : Nat) (h2 : BytesAt w (some ⟨g1, 0, none⟩) [0]) (h3 : BytesAt w (some ⟨g2, 0, none⟩) [0,255]) :
    Calls Tryd.prog 21 #[.slice a0 n c, .slice (some ⟨g1, 0, none⟩) 1 c1, .slice (some ⟨g2, 0, none⟩) 2 c2, .int .i64 (-1)] w (clonePost 5 (bV (escL<|s)) w) := by
  obtain ⟨e1, e2⟩ := rep_esc s.length s (Nat.le_refl _) hs
  by_cases h0 : ncnt s [0] = 0
  · have := rep_none hM a0 n c s h1.at_ h1.len h1.cap hn h1.nil g1 1 c1 (.slice (some ⟨g2, 0, none⟩) 2 c2) [0] h2 rfl (by omega) (by omega) h0
    rw [← e1, h0] at e2
    rw [show s = (escL<|s) from e2] at this
    exact this
  · cases a0 with
    | none =>
      exfalso
      obtain ⟨rfl, rfl⟩ := h1.nil rfl
      have e : s = [] := List.eq_nil_of_length_eq_zero h1.len
      rw [e] at h0
      exact h0 rfl
    | some p =>
      have := rep_some_a hM p n c s h1.at_ h1.len h1.cap h1.capm hn g1 c1 g2 c2 [0] [0,255] h2 h3 rfl rfl (by omega)
      rw [e1, e2] at this
      exact this
set_option maxRecDepth 100000 in
theorem all_a {w : World} {m : Int} (hM : MaxAt w m) (a0 : Option Addr) (n c : Nat) (s : List Nat) (h1 : Sl w a0 n c s) (hs : ∀ x ∈ s, x < 256) (hn : n ≤ 4000) (g1 c1 g2 c2 : Nat) (h2 : BytesAt w (some ⟨g1, 0, none⟩) [0]) (h3 : BytesAt w (some ⟨g2, 0, none⟩) [0,255]) :
    Calls Tryd.prog 16 #[.slice a0 n c, .slice (some ⟨g1, 0, none⟩) 1 c1, .slice (some ⟨g2, 0, none⟩) 2 c2] w (clonePost 5 (bV (escL<|s)) w) := by
  have hR := Lib.hid (rep_any_a hM a0 n c s h1 hs hn g1 c1 g2 c2 h2 h3)
  clear h1 h2 h3 hs hM
  go_enter Tryd.func16, Tryd.ntmps16
  go_wp2_with (go_at_call 21; refine hR.out.mono ?_; rintro e w' ⟨v, bo, rfl, h1, h2, h3⟩; have H1 := Lib.hid h1; have H2 := Lib.hid h2; have H3 := Lib.hid h3; clear h1 h2 h3)
  go_ret
  exact ⟨v, bo, rfl, H1.out, H2.out, H3.out⟩

theorem rep_any_b {w : World} {m : Int} (hM : MaxAt w m) (a0 : Option Addr) (n c : Nat) (s : List Nat) (h1 : Sl w a0 n c (escL<|s)) (hs : ∀ x ∈ s, x < 256) (hn : n ≤ 4000) (g1 c1 g2 c2 : Nat) (h2 : BytesAt w (some ⟨g1, 0, none⟩) [0,255]) (h3 : BytesAt w (some ⟨g2, 0, none⟩) [0]) :
    Calls Tryd.prog 21 #[.slice a0 n c, .slice (some ⟨g1, 0, none⟩) 2 c1, .slice (some ⟨g2, 0, none⟩) 1 c2, .int .i64 (-1)] w (clonePost 5 (bV s) w) := by
  obtain ⟨e1, e2⟩ := rep_unesc s.length s (Nat.le_refl _) hs
  by_cases h0 : ncnt (escL<|s) [0,255] = 0
  · have := rep_none hM a0 n c (escL<|s) h1.at_ h1.len h1.cap hn h1.nil g1 2 c1 (.slice (some ⟨g2, 0, none⟩) 1 c2) [0,255] h2 rfl (by omega) (by omega) h0
    rw [← e1, h0] at e2
    rw [show (escL<|s) = s from e2] at this
    exact this
  · cases a0 with
    | none =>
      exfalso
      obtain ⟨rfl, rfl⟩ := h1.nil rfl
      have e : (escL<|s) = [] := List.eq_nil_of_length_eq_zero h1.len
      rw [e] at h0
      exact h0 rfl
    | some p =>
      have := rep_some_b hM p n c (escL<|s) h1.at_ h1.len h1.cap h1.capm hn g1 c1 g2 c2 [0,255] [0] h2 h3 rfl rfl (by omega)
      rw [e1, e2] at this
      exact this
set_option maxRecDepth 100000 in
theorem all_b {w : World} {m : Int} (hM : MaxAt w m) (a0 : Option Addr) (n c : Nat) (s : List Nat) (h1 : Sl w a0 n c (escL<|s)) (hs : ∀ x ∈ s, x < 256) (hn : n ≤ 4000) (g1 c1 g2 c2 : Nat) (h2 : BytesAt w (some ⟨g1, 0, none⟩) [0,255]) (h3 : BytesAt w (some ⟨g2, 0, none⟩) [0]) :
    Calls Tryd.prog 16 #[.slice a0 n c, .slice (some ⟨g1, 0, none⟩) 2 c1, .slice (some ⟨g2, 0, none⟩) 1 c2] w (clonePost 5 (bV s) w) := by
  have hR := Lib.hid (rep_any_b hM a0 n c s h1 hs hn g1 c1 g2 c2 h2 h3)
  clear h1 h2 h3 hs hM
  go_enter Tryd.func16, Tryd.ntmps16
  go_wp2_with (go_at_call 21; refine hR.out.mono ?_; rintro e w' ⟨v, bo, rfl, h1, h2, h3⟩; have H1 := Lib.hid h1; have H2 := Lib.hid h2; have H3 := Lib.hid h3; clear h1 h2 h3)
  go_ret
  exact ⟨v, bo, rfl, H1.out, H2.out, H3.out⟩
/-- a constant's bytes, marked -/
theorem bytes_mark (w : World) (L : List Nat) (h : ∀ x ∈ L, x < 256) (t : TypeId) (fr : Nat × Nat) : BytesAt (w.alloc (.cells (bV L).toArray t fr)) (some ⟨w.heap.size, 0, none⟩) L := by
  refine ⟨h, fun i hi => ⟨_, rfl, ?_, ?_⟩⟩
  · rw [add0]; show w.heap.size < _; simp
  · rw [add0, World.cell?_alloc_mark, List.getElem?_toArray, bV_get, List.getElem?_eq_getElem hi, List.getD, List.getElem?_eq_getElem hi]
    rfl
theorem kuB : Tryd.prog.underlying 5 = some (.int .u8) := by kernel_rfl
theorem bytes_alloc {w : World} {a : Option Addr} {bs : List Nat} (h : BytesAt w a bs) (o : Obj) : BytesAt (w.alloc o) a bs := h.below ((Below.refl _ w).alloc (Nat.le_refl _) _)
theorem Sl.alloc {w : World} {a : Option Addr} {n c : Nat} {bs : List Nat} (h : Sl w a n c bs) (o : Obj) : Sl (w.alloc o) a n c bs := h.below ((Below.refl _ w).alloc (Nat.le_refl _) _)
theorem MaxAt.alloc {w : World} {m : Int} (h : MaxAt w m) (o : Obj) : MaxAt (w.alloc o) m := h.below ((Below.refl _ w).alloc (Nat.le_refl _) _)
set_option maxHeartbeats 1000000 in
set_option maxRecDepth 100000 in
theorem senc_put {w : World} {m : Int} (hM : MaxAt w m) (a0 : Option Addr) (n c : Nat) (s : List Nat) (h1 : Sl w a0 n c s) (hn : n ≤ 4000) :
    Calls Tryd.prog 8 #[.slice a0 n c] w (clonePost 5 (bV (putL s)) w) := by
  have k1 : (Go.convert 22 22 (.slice (some ⟨w.heap.size, 0, none⟩) 1 1)).run Tryd.prog (w.alloc (.cells #[.int .u8 0] 5)) = .ok (.slice (some ⟨w.heap.size, 0, none⟩) 1 1) (w.alloc (.cells #[.int .u8 0] 5 (1, 2))) := Joins.run_convert_bytes_const_at _ _ _ _ _ _ _ rfl cloneB_under kuB
  have k2 : (Go.convert 22 22 (.slice (some ⟨w.heap.size + 1, 0, none⟩) 2 2)).run Tryd.prog ((w.alloc (.cells #[.int .u8 0] 5 (1, 2))).alloc (.cells #[.int .u8 0, .int .u8 255] 5)) = .ok (.slice (some ⟨w.heap.size + 1, 0, none⟩) 2 2) ((w.alloc (.cells #[.int .u8 0] 5 (1, 2))).alloc (.cells #[.int .u8 0, .int .u8 255] 5 (2, 3))) := Joins.run_convert_bytes_const_at _ _ _ _ _ _ _ (by simp) cloneB_under kuB
  have hA : Hid (Calls Tryd.prog 16 #[.slice a0 n c, .slice (some ⟨w.heap.size, 0, none⟩) 1 1, .slice (some ⟨w.heap.size + 1, 0, none⟩) 2 2] ((w.alloc (.cells #[.int .u8 0] 5 (1, 2))).alloc (.cells #[.int .u8 0, .int .u8 255] 5 (2, 3))) (clonePost 5 (bV (escL s)) ((w.alloc (.cells #[.int .u8 0] 5 (1, 2))).alloc (.cells #[.int .u8 0, .int .u8 255] 5 (2, 3))))) := by
    refine all_a ((hM.alloc _).alloc _) a0 n c s ((h1.alloc _).alloc _) h1.at_.1 hn _ 1 _ 2 ?_ ?_
    · exact bytes_alloc (bytes_mark w [0] (by simp) _ _) _
    · have := bytes_mark (w.alloc (.cells #[.int .u8 0] 5 (1, 2))) [0, 255] (by simp) 5 (2, 3)
      rw [show (w.alloc (.cells #[.int .u8 0] 5 (1, 2))).heap.size = w.heap.size + 1 from by simp] at this
      exact this
  have hl : (escL s).length ≤ 8000 := by have := escL_len s; have := List.count_le_length (a := 0) (l := s); have := h1.len; omega
  have hB : Hid (Below w.heap.size w ((w.alloc (.cells #[.int .u8 0] 5 (1, 2))).alloc (.cells #[.int .u8 0, .int .u8 255] 5 (2, 3)))) := ((Below.refl _ w).alloc (Nat.le_refl _) _).alloc (by simp) _
  have hL1 : Hid ((bV (escL s)).length + ByteArray.size { data := #[0, 0] } ≤ maxLen) := by show _ ≤ _; rw [bV_len]; have : maxLen = 9223372036854775807 := rfl; have : ByteArray.size { data := #[0, 0] } = 2 := rfl; omega
  have hL2 : Hid ((bV (escL s)).length + ByteArray.size { data := #[0, 0] } ≤ 140737488355328) := by show _ ≤ _; rw [bV_len]; have : ByteArray.size { data := #[0, 0] } = 2 := rfl; omega
  have hsz : Hid (((w.alloc (.cells #[.int .u8 0] 5 (1, 2))).alloc (.cells #[.int .u8 0, .int .u8 255] 5 (2, 3))).heap.size = w.heap.size + 2) := by show _ = _; simp
  have hput : Hid (bV (escL s) ++ Lib.strCells { data := #[0, 0] } = bV (putL s)) := by show _ = _; rw [putL, bV_app]; rfl
  obtain ⟨uI, hu1, hu2, hu3, hu4⟩ := u8_info
  have hstr : Tryd.prog.underlying 9 = some .string := by kernel_rfl
  clear h1 hM
  have hE : Hid (∀ (w1 w2 : World) (v1 v2 : Value), Below w.heap.size w w1 → w1.ownsRow w.heap.size 5 1 v1 (bV (escL s)).length (bV (escL s)) → w2.ownsRow w.heap.size 5 1 v2 ((bV (escL s)).length + ByteArray.size { data := #[0, 0] }) (bV (escL s) ++ Lib.strCells { data := #[0, 0] }) → w1.grownBy w2 v1.ownBlock → clonePost 5 (bV (putL s)) w (.returned v2) w2) := fun w1 w2 v1 v2 h1 h0 h2 h3 => by
    obtain ⟨bo, q1, q2⟩ := row_own h2
    rw [hput.out] at q1
    refine ⟨v2, bo, rfl, q1, h1.grown h3 h1.size fun k hk => ?_, q2⟩
    rcases h0.2 with ⟨rfl, _⟩ | ⟨g, cap, cur, rfl, hb, _⟩
    · cases hk
    · cases hk; exact hb
  go_enter Tryd.func8, Tryd.ntmps8
  go_wp2_with (first | (go_at_call 16; refine hA.out.mono ?_; rintro e w1 ⟨v1, bo1, rfl, h1, h2, h3⟩; have H2 := Lib.hid (hB.out.trans (h2.mono (by rw [hsz.out]; omega))); have H4 := Lib.hid (own_row h1 (base := w.heap.size) (h3.imp_right fun ⟨g, e, h⟩ => ⟨g, e, by rw [hsz.out] at h; omega⟩)); clear h1 h2 h3) | (at_builtin; go_loud (refine Lib.wpList_append_own_string _ rfl (.tmp 8) (.const (.string { data := #[0, 0] })) 22 9 rfl w.heap.size 5 uI cloneB_under hstr hu1 hu2 hu3 hu4 v1 (bV (escL s)).length (bV (escL s)) rfl H4.out { data := #[0, 0] } rfl hL1.out hL2.out H2.out.size ?_); intro v2 w2 h5 h6 h7; have H5 := Lib.hid h5; have H6 := Lib.hid h6; clear h5 h6 h7))
  go_ret
  exact hE.out _ _ _ _ H2.out H4.out H5.out H6.out
set_option maxHeartbeats 1000000 in
set_option maxRecDepth 100000 in
theorem senc_len {w : World} {m : Int} (hM : MaxAt w m) (a0 : Option Addr) (n c : Nat) (s : List Nat) (h1 : Sl w a0 n c s) (hn : n ≤ 4000) :
    Calls Tryd.prog 9 #[.slice a0 n c] w fun e w' => e = .returned (.int .i64 ((putL s).length : Nat)) ∧ Below w.heap.size w w' := by
  have k1 : (Go.convert 22 22 (.slice (some ⟨w.heap.size, 0, none⟩) 1 1)).run Tryd.prog (w.alloc (.cells #[.int .u8 0] 5)) = .ok (.slice (some ⟨w.heap.size, 0, none⟩) 1 1) (w.alloc (.cells #[.int .u8 0] 5 (1, 2))) := Joins.run_convert_bytes_const_at _ _ _ _ _ _ _ rfl cloneB_under kuB
  have hA := Lib.hid (lib_count (hM.alloc (.cells #[.int .u8 0] 5 (1, 2))) a0 w.heap.size n c 1 1 s [0] (bytes_alloc h1.at_ _) (bytes_mark w [0] (by simp) _ _) h1.len rfl h1.cap (by omega) (by omega) (by omega) h1.nil)
  obtain ⟨e1, _⟩ := rep_esc s.length s (Nat.le_refl _) h1.at_.1
  rw [e1] at hA
  have hc := List.count_le_length (a := 0) (l := s)
  have hl := h1.len
  obtain ⟨k, hk⟩ : ∃ k, k = s.count 0 := ⟨_, rfl⟩
  rw [← hk] at hA hc
  have hE : Hid (((putL s).length : Int) = (n : Int) + (k : Int) + 2) := by show _ = _; rw [putL, List.length_append, escL_len, ← hk, hl]; simp
  have hB : Hid (∀ q, Below w.heap.size w ((w.alloc (.cells #[.int .u8 0] 5 (1, 2))).drewN q)) := fun q => below_drewN ((Below.refl _ w).alloc (Nat.le_refl _) _) q
  clear h1 hM e1 hk
  go_enter Tryd.func9, Tryd.ntmps9
  go_wp2_with (go_at_call 17; refine hA.out.mono ?_; rintro e w1 ⟨rfl, q, rfl⟩)
  go_ret
  refine ⟨?_, hB.out q⟩
  rw [hE.out]; rfl
end Go.Proofs.YtkknddlijhjieaaDoor
