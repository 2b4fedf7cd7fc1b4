/- Kids: KindOf, room, New, put. -/
import Derived.Test.YtkonbldjmcccmaaKKids
set_option linter.unusedVariables false
set_option linter.unusedSimpArgs false
namespace Go.Proofs.Ytkonbldjmcccmaa
open Go.RowKit
def kindZ (n : Int) : Int := if n < 0 then 0 else if n ≤ 4 then 4 else if n ≤ 16 then 16 else if n ≤ 48 then 48 else if n ≤ 256 then 256 else 0
abbrev kArr : Value := .agg #[.int .i64 4, .int .i64 16, .int .i64 48, .int .i64 256]
theorem kIdx0 (w : World) : (Instr.index 90 kArr (.int .i64 0)).run Try.prog w = .ok (.int .i64 4) w := by kernel_rfl
theorem kIdx1 (w : World) : (Instr.index 90 kArr (.int .i64 1)).run Try.prog w = .ok (.int .i64 16) w := by kernel_rfl
theorem kIdx2 (w : World) : (Instr.index 90 kArr (.int .i64 2)).run Try.prog w = .ok (.int .i64 48) w := by kernel_rfl
theorem kIdx3 (w : World) : (Instr.index 90 kArr (.int .i64 3)).run Try.prog w = .ok (.int .i64 256) w := by kernel_rfl
theorem kindOf_any (n : Int) (w : World) : Calls Try.prog 14 #[.int .i64 n] w fun e w' => e = .returned (.int .i64 (kindZ n)) ∧ w = w' := by
  obtain ⟨K, HK⟩ : ∃ K, Hid (kindZ n = K) := ⟨_, rfl⟩
  rw [HK.out]
  by_cases h0 : n < 0
  · have hR : Hid (K = 0) := by show _ = _; rw [← HK.out]; unfold kindZ; rw [if_pos h0]
    go_enter Try.func14, Try.ntmps14
    go_wp2_with fail
    go_ret
    exact ⟨by rw [hR.out]; rfl, rfl⟩
  · have i0 := kIdx0
    have i1 := kIdx1
    have i2 := kIdx2
    have i3 := kIdx3
    have h0' : 0 ≤ n := by omega
    go_enter Try.func14, Try.ntmps14
    go_wp2_with fail
    go_loop [8] (fun v => ∃ j : Int, (j = 0 ∨ j = 1 ∧ 4 < n ∨ j = 2 ∧ 16 < n ∨ j = 3 ∧ 48 < n ∨ j = 4 ∧ 256 < n) ∧ v = .int .i64 j) (fun v => (4 - intOf v).toNat)
    case atStart => exact ⟨0, Or.inl rfl, rfl⟩
    case round =>
      obtain ⟨j, hj, rfl⟩ := hrel
      rcases hj with rfl | ⟨rfl, hj⟩ | ⟨rfl, hj⟩ | ⟨rfl, hj⟩ | ⟨rfl, hj⟩
      · by_cases hn : n ≤ 4
        · have hR : Hid (K = 4) := by show _ = _; rw [← HK.out]; unfold kindZ; rw [if_neg (show ¬ n < 0 by omega), if_pos hn]
          go_wp2_with fail
          go_ret
          exact ⟨by rw [hR.out]; rfl, rfl⟩
        · go_wp2_with fail
          go_round
          case rel => exact ⟨1, Or.inr (Or.inl ⟨rfl, by omega⟩), rfl⟩
          case measure => simp [intOf]
      · by_cases hn : n ≤ 16
        · have hR : Hid (K = 16) := by show _ = _; rw [← HK.out]; unfold kindZ; rw [if_neg (show ¬ n < 0 by omega), if_neg (by omega), if_pos hn]
          go_wp2_with fail
          go_ret
          exact ⟨by rw [hR.out]; rfl, rfl⟩
        · go_wp2_with fail
          go_round
          case rel => exact ⟨2, Or.inr (Or.inr (Or.inl ⟨rfl, by omega⟩)), rfl⟩
          case measure => simp [intOf]
      · by_cases hn : n ≤ 48
        · have hR : Hid (K = 48) := by show _ = _; rw [← HK.out]; unfold kindZ; rw [if_neg (show ¬ n < 0 by omega), if_neg (by omega), if_neg (by omega), if_pos hn]
          go_wp2_with fail
          go_ret
          exact ⟨by rw [hR.out]; rfl, rfl⟩
        · go_wp2_with fail
          go_round
          case rel => exact ⟨3, Or.inr (Or.inr (Or.inr (Or.inl ⟨rfl, by omega⟩))), rfl⟩
          case measure => simp [intOf]
      · by_cases hn : n ≤ 256
        · have hR : Hid (K = 256) := by show _ = _; rw [← HK.out]; unfold kindZ; rw [if_neg (show ¬ n < 0 by omega), if_neg (by omega), if_neg (by omega), if_neg (by omega), if_pos hn]
          go_wp2_with fail
          go_ret
          exact ⟨by rw [hR.out]; rfl, rfl⟩
        · go_wp2_with fail
          go_round
          case rel => exact ⟨4, Or.inr (Or.inr (Or.inr (Or.inr ⟨rfl, by omega⟩))), rfl⟩
          case measure => simp [intOf]
      · have hR : Hid (K = 0) := by show _ = _; rw [← HK.out]; unfold kindZ; rw [if_neg (show ¬ n < 0 by omega), if_neg (by omega), if_neg (by omega), if_neg (by omega), if_neg (by omega)]
        go_wp2_with fail
        go_ret
        exact ⟨by rw [hR.out]; rfl, rfl⟩
theorem kindZ_nat (n : Nat) (h : n ≤ 256) : kindZ n = (kindOf n : Nat) := by
  unfold kindZ kindOf
  rw [if_neg (by omega)]
  by_cases h1 : n ≤ 4
  · rw [if_pos (by omega), if_pos h1]; rfl
  · rw [if_neg (by omega), if_neg h1]
    by_cases h2 : n ≤ 16
    · rw [if_pos (by omega), if_pos h2]; rfl
    · rw [if_neg (by omega), if_neg h2]
      by_cases h3 : n ≤ 48
      · rw [if_pos (by omega), if_pos h3]; rfl
      · rw [if_neg (by omega), if_neg h3, if_pos (by omega)]; rfl
namespace I
def roomPost (rm : Nat) (w : World) (e : Ending) (w' : World) : Prop := e = .returned (.pointer (some ⟨w.heap.size, 0, none⟩)) ∧ ∃ S, KdAt w' w.heap.size rm [] S ∧ Below w.heap.size w w' ∧ ∀ j, S j → w.heap.size ≤ j
theorem room_row (rm : Nat) (h1 : 1 ≤ rm) (h16 : rm ≤ 16) (w : World) : Calls Try.prog 132 #[.int .i64 rm] w (roomPost rm w) := by
  have hq : (rm : Int) ≤ 16 := by omega
  have hn : ∀ w, Hid (Calls Try.prog 181 #[.int .i64 rm] w (newPost rm w)) := fun w => row_new rm h1 h16 w
  have fin : Hid (∀ w1, RowAt rowT w1 (w.heap.size + 1) rm [] → Below (w.heap.size + 1) (w.alloc (.cells #[.pointer none, .pointer none] kdT)) w1 → w1.cell? ⟨w.heap.size, 0, none⟩ = some (.pointer none) ∧ w1.frozen? ⟨w.heap.size, 0, none⟩ = false ∧ Hid (roomPost rm w (.returned (.pointer (some ⟨w.heap.size, 0, none⟩))) (w1.setCell ⟨w.heap.size, 0, none⟩ (.pointer (some ⟨w.heap.size + 1, 0, none⟩))))) := fun w1 hr hb => by
    have hb1 := (hb.block w.heap.size (by omega)).trans (heap_alloc_new w _)
    refine ⟨by simp [World.cell?, hb1], by simp [World.frozen?, hb1], rfl, _, Or.inl ⟨w.heap.size + 1, ?_, hr.keep (Below.heap_setCell _ _ _ _ (by simp)), by omega, rfl⟩, ?_, ?_⟩
    · rw [setCell_list w1 w.heap.size 0 [.pointer none, .pointer none] kdT _ hb1, setRow_heap w1 _ _ _ _ _ hb1]; rfl
    · exact ((((Below.refl _ w).alloc (Nat.le_refl _) _).trans (hb.mono (by omega)))).setCell (p := ⟨w.heap.size, 0, none⟩) (Nat.le_refl _) _
    · rintro j (rfl | rfl) <;> omega
  go_enter Try.func132, Try.ntmps132
  go_wp2_with (go_at_call 181; refine (hn _).out.mono ?_; rintro e w1 ⟨rfl, hr, hb⟩; simp only [World.size_alloc] at hr hb; obtain ⟨q1, q2, q3⟩ := fin.out _ hr hb)
  go_ret
  exact q3.out
end I

namespace N
def roomPost (rm : Nat) (w : World) (e : Ending) (w' : World) : Prop := e = .returned (.pointer (some ⟨w.heap.size, 0, none⟩)) ∧ ∃ S, KdAt w' w.heap.size rm [] S ∧ Below w.heap.size w w' ∧ ∀ j, S j → w.heap.size ≤ j
theorem room_row (rm : Nat) (h1 : 1 ≤ rm) (h16 : rm ≤ 16) (w : World) : Calls Try.prog 170 #[.int .i64 rm] w (roomPost rm w) := by
  have hq : (rm : Int) ≤ 16 := by omega
  have hn : ∀ w, Hid (Calls Try.prog 201 #[.int .i64 rm] w (newPost rm w)) := fun w => row_new rm h1 h16 w
  have fin : Hid (∀ w1, RowAt rowT w1 (w.heap.size + 1) rm [] → Below (w.heap.size + 1) (w.alloc (.cells #[.pointer none, .pointer none] kdT)) w1 → w1.cell? ⟨w.heap.size, 0, none⟩ = some (.pointer none) ∧ w1.frozen? ⟨w.heap.size, 0, none⟩ = false ∧ Hid (roomPost rm w (.returned (.pointer (some ⟨w.heap.size, 0, none⟩))) (w1.setCell ⟨w.heap.size, 0, none⟩ (.pointer (some ⟨w.heap.size + 1, 0, none⟩))))) := fun w1 hr hb => by
    have hb1 := (hb.block w.heap.size (by omega)).trans (heap_alloc_new w _)
    refine ⟨by simp [World.cell?, hb1], by simp [World.frozen?, hb1], rfl, _, Or.inl ⟨w.heap.size + 1, ?_, hr.keep (Below.heap_setCell _ _ _ _ (by simp)), by omega, rfl⟩, ?_, ?_⟩
    · rw [setCell_list w1 w.heap.size 0 [.pointer none, .pointer none] kdT _ hb1, setRow_heap w1 _ _ _ _ _ hb1]; rfl
    · exact ((((Below.refl _ w).alloc (Nat.le_refl _) _).trans (hb.mono (by omega)))).setCell (p := ⟨w.heap.size, 0, none⟩) (Nat.le_refl _) _
    · rintro j (rfl | rfl) <;> omega
  go_enter Try.func170, Try.ntmps170
  go_wp2_with (go_at_call 201; refine (hn _).out.mono ?_; rintro e w1 ⟨rfl, hr, hb⟩; simp only [World.size_alloc] at hr hb; obtain ⟨q1, q2, q3⟩ := fin.out _ hr hb)
  go_ret
  exact q3.out
end N
end Go.Proofs.Ytkonbldjmcccmaa
