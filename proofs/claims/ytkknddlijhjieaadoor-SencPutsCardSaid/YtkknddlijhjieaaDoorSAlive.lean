/- alive of law 4. -/
import Derived.Test.YtkknddlijhjieaaDoorSTake
set_option linter.unusedVariables false
set_option linter.unusedSimpArgs false
namespace Go.Proofs.YtkknddlijhjieaaDoor
open Go.RowKit
theorem OwnR.app0 {w wr w1 : World} {L X : List Nat} {v v1 : Value} {bo bo1 : Option Nat} (h : OwnR w L v bo wr) (h1 : Own 5 w1 v1 (bV L ++ bV X) bo1) (h2 : Mod (fun k => bo = some k) wr w1) (h3 : NewOr wr bo bo1) : OwnR w (L ++ X) v1 bo1 w1 := by
  obtain ⟨k1, k2, k3⟩ := h
  refine ⟨by rw [bV_app]; exact h1, ?_, ?_⟩
  · refine below_mod k2 h2 fun j e => ?_
    rcases k3 with rfl | ⟨g, rfl, hg⟩
    · cases e
    · cases e; exact hg
  · rcases h3 with rfl | ⟨g, rfl, hg⟩
    · exact k3
    · exact Or.inr ⟨g, rfl, by have := k2.size; omega⟩
theorem Sl.news {w : World} {p : Addr} {n c : Nat} {bs : List Nat} (h : Sl w (some p) n c bs) : ∀ j u, (bV bs)[j]? = some u → w.cell? (p.add j) = some u := fun j u hj => by
  rw [bV_get] at hj
  by_cases hl : j < bs.length
  · obtain ⟨p', e, _, h2⟩ := h.at_.2 j hl
    cases e
    rw [h2, ← hj, List.getElem?_eq_getElem hl, List.getD, List.getElem?_eq_getElem hl]
    rfl
  · rw [List.getElem?_eq_none (by omega)] at hj; cases hj
theorem Sl.some_ {w : World} {a : Option Addr} {n c : Nat} {bs : List Nat} (h : Sl w a n c bs) (hn : 0 < n) : ∃ p, a = some p := by
  cases a with
  | some p => exact ⟨p, rfl⟩
  | none => have := h.nil rfl; omega
theorem Sl.cell {w : World} {p : Addr} {n c : Nat} {bs : List Nat} (h : Sl w (some p) n c bs) {i x : Nat} (hx : bs[i]? = some x) : w.cell? (p.add i) = some (.int .u8 (x : Nat)) := h.news i _ (by rw [bV_get, hx]; rfl)
set_option maxHeartbeats 2000000 in
set_option maxRecDepth 100000 in
theorem alive_any {w : World} {m : Int} (hM : MaxAt w m) : Calls Tryd.prog 5 #[] w (LawPost w) := by
  have hB0 : Hid (Below w.heap.size w (w.alloc (.cells #[.int .u8 0] 5))) := (Below.refl _ w).alloc (Nat.le_refl _) _
  have hP : Hid (Calls Tryd.prog 8 #[.slice (some ⟨w.heap.size, 0, none⟩) 1 1] (w.alloc (.cells #[.int .u8 0] 5)) (clonePost 5 (bV [0, 255, 0, 0]) (w.alloc (.cells #[.int .u8 0] 5)))) :=
    senc_put (hM.alloc _) _ 1 1 [0] ⟨rfl, bytes_mark w [0] (by simp) _ _, Nat.le_refl _, by simp [maxLen], fun e => by cases e⟩ (by omega)
  have hPut : Hid (∀ e w', clonePost 5 (bV [0, 255, 0, 0]) (w.alloc (.cells #[.int .u8 0] 5)) e w' → ∃ p c, e = .returned (.slice (some p) 4 c) ∧ Sl w' (some p) 4 c [0, 255, 0, 0] ∧ Below w.heap.size w w' ∧ w.heap.size < w'.heap.size) := fun e w' h => by
    obtain ⟨a, c, rfl, h1, h2⟩ := clone_sl h (by simp)
    obtain ⟨p, rfl⟩ := h1.some_ (by simp)
    have h3 := h2.size
    rw [World.size_alloc] at h3
    exact ⟨p, c, rfl, h1, hB0.out.trans (h2.mono (by simp)), by omega⟩
  have hTake : Hid (∀ wr a c, Below w.heap.size w wr → Sl wr a 5 c [0, 255, 0, 0, 7] → Calls Tryd.prog 12 #[.slice a 5 c] wr (takePost [0] [7] wr)) := fun wr a c hb h => by
    obtain ⟨p, rfl⟩ := h.some_ (by omega)
    have hcm := h.cap
    exact senc_take_in (hM.below hb) p 5 c 4 [0] [7] h (by simp) (by omega) rfl (by omega)
  have hEnd : Hid (∀ wr p c, Sl wr (some p) 4 c [0, 255, 0, 0] → Calls Tryd.prog 15 #[.slice (some p) 4 c] wr fun e w' => e = .returned (.tuple #[.int .i64 4, .int .i64 0]) ∧ w' = wr) := fun wr p c h => senc_end p 4 c [0] [] h (by simp) (by omega)
  have hLen : Hid (∀ wr a c, Below w.heap.size w wr → Sl wr a 1 c [0] → Calls Tryd.prog 9 #[.slice a 1 c] wr fun e w' => e = .returned (.int .i64 4) ∧ Below wr.heap.size wr w') := fun wr a c hb h => senc_len (hM.below hb) a 1 c [0] h (by omega)
  have hOth : Hid (∀ wr p c, Sl wr (some p) 4 c [0, 255, 0, 0] → Calls Tryd.prog 10 #[.slice (some p) 4 c] wr (slPost [255, 0, 255, 255] wr)) := fun wr p c h => (senc_other (some p) 4 c _ h (by omega)).mono fun e w' h => clone_sl h (by simp)
  clear hM
  go_enter Tryd.func5, Tryd.ntmps5
  have b1 : Hid ((([] : List Value).length) + 4 ≤ maxLen) := by show _ ≤ _; decide
  have b2 : Hid (((([] : List Value).length) + 4) * 1 ≤ 140737488355328) := by show _ ≤ _; decide
  have b3 : Hid ((bV [0, 255, 0, 0]).length + 1 ≤ maxLen) := by show _ ≤ _; decide
  have b4 : Hid (((bV [0, 255, 0, 0]).length + 1) * 1 ≤ 140737488355328) := by show _ ≤ _; decide
  have O7 := Lib.hid (bV_one [7])
  go_wp2_with (first
    | (go_at_call 10; refine (hOth.out _ p1 c1 S7.out).mono ?_; rintro e w8 ⟨a8, c8, rfl, h1, h2⟩; obtain ⟨p8, rfl⟩ := h1.some_ (by simp); have z8 : w8.cell? p8 = some (.int .u8 255) := by have q := h1.cell (i := 0) (x := 255) rfl; rwa [Go.Addr.add_zero'] at q
       have B8 := Lib.hid (B7.out.trans (h2.mono B7.out.size)); clear h1 h2)
    | (go_at_call 10; refine (hOth.out _ p1 c1 S6.out).mono ?_; rintro e w7 ⟨a7, c7, rfl, h1, h2⟩; have B7 := Lib.hid (B6.out.trans (h2.mono B6.out.size)); have S7 := Lib.hid (S6.out.below h2); clear h1 h2)
    | (go_at_call 9; go_loud (refine (hLen.out _ _ _ B4.out S4.out).mono ?_); rintro e w6 ⟨rfl, h2⟩; have B6 := Lib.hid (B4.out.trans (h2.mono B4.out.size)); have S6 := Lib.hid (SB.out.below h2); clear h2)
    | (go_at_call 15; go_loud (refine (hEnd.out _ p1 c1 SB.out).mono ?_); rintro e w5 ⟨rfl, rfl⟩)
    | (go_at_call 12; go_loud (refine (hTake.out _ _ _ B3.out S3.out).mono ?_); rintro e w4 ⟨a4, c4, a5, c5, rfl, h1, h2, h3⟩; obtain ⟨p4, rfl⟩ := h1.some_ (by simp); have B4 := Lib.hid (B3.out.trans (h3.mono B3.out.size)); have S4 := Lib.hid h1; have SB := Lib.hid (SB3.out.below h3); have z4 : w4.cell? p4 = some (.int .u8 0) := by have q := h1.cell (i := 0) (x := 0) rfl; rwa [Go.Addr.add_zero'] at q
       have z5 : w4.cell? ⟨p1.block, p1.off + 1, none⟩ = some (.int .u8 255) := SB.out.cell (i := 1) (x := 255) rfl
       clear h1 h2 h3)
    | (at_builtin; refine wpList_append_at rfl (.tmp 11) (.tmp 12) 22 rfl 5 (.int .u8 0) 1 cloneB_under cloneB_info rfl (.slice a2 4 c2) rfl (bV [0, 255, 0, 0]) bo2 O2.out ⟨w2.heap.size, 0, none⟩ 1 1 [.int .u8 7] rfl rfl N2.out O7.out b3.out b4.out ?_; intro v3 w3 bo3 HO HM HN; have Q3 := Lib.hid (Q2.out.app (X := [7]) HO.out HM.out HN.out); obtain ⟨a3, c3, rfl, h3⟩ := own_sl Q3.out.1 (by simp); have S3 := Lib.hid h3; have B3 := Lib.hid (B1.out.trans (Q3.out.2.1.mono B1.out.size)); have SB3 := Lib.hid (S1.out.below Q3.out.2.1); clear HO HM HN h3)
    | (at_builtin; refine wpList_append_at rfl (.const (.slice none 0 0)) (.tmp 10) 22 rfl 5 (.int .u8 0) 1 cloneB_under cloneB_info rfl (.slice none 0 0) rfl [] none (Own.nil _ _) p1 4 c1 (bV [0, 255, 0, 0]) rfl rfl N1.out O1.out b1.out b2.out ?_; intro v2 w2 bo2 HO HM HN; have Q2 : Hid (OwnR w1 [0, 255, 0, 0] v2 bo2 w2) := OwnR.app0 (L := []) (X := [0, 255, 0, 0]) ⟨Own.nil _ _, Below.refl _ _, Or.inl rfl⟩ HO.out HM.out HN.out; obtain ⟨a2, c2, rfl⟩ : ∃ a c, v2 = .slice a 4 c := Q2.out.1.len; have O2 := Lib.hid (Q2.out.1.alloc (.cells #[.int .u8 7] 5)); have N2 := Lib.hid (news_alloc w2 [.int .u8 7] 5 (0, 0)); clear HO HM HN)
    | (go_at_call 8; go_loud (refine hP.out.mono ?_); intro e w1 h; obtain ⟨p1, c1, rfl, h1, h2, h3⟩ := hPut.out _ _ h; have S1 := Lib.hid h1; have B1 := Lib.hid h2; have Z1 := Lib.hid h3; clear h h1 h2 h3; have N1 := Lib.hid S1.out.news; have O1 := Lib.hid (bV_one [0, 255, 0, 0])))
  go_ret
  exact ⟨rfl, B8.out⟩
end Go.Proofs.YtkknddlijhjieaaDoor
