/- The statements KidsKind and KidsNobody: their walks. -/
import Derived.Test.YthifjldmhfpkhaaKAlive
set_option linter.unusedVariables false
set_option linter.unusedSimpArgs false
namespace Go.Proofs.Ythifjldmhfpkhaa
open Go.RowKit
theorem refKind_any (n : Int) (w : World) : Calls Try.prog 16 #[.int .i64 n] w fun e w' => e = .returned (.int .i64 (kindZ n)) ∧ w = w' := by
  obtain ⟨K, HK⟩ : ∃ K, Hid (kindZ n = K) := ⟨_, rfl⟩
  rw [HK.out]
  by_cases h0 : n < 0
  · have hR : Hid (K = 0) := by show _ = _; rw [← HK.out]; unfold kindZ; rw [if_pos h0]
    go_enter Try.func16, Try.ntmps16
    go_wp2_with fail
    go_ret
    exact ⟨by rw [hR.out]; rfl, rfl⟩
  · by_cases h5 : 256 < n
    · have hR : Hid (K = 0) := by show _ = _; rw [← HK.out]; unfold kindZ; rw [if_neg h0, if_neg (by omega), if_neg (by omega), if_neg (by omega), if_neg (by omega)]
      go_enter Try.func16, Try.ntmps16
      go_wp2_with fail
      go_ret
      exact ⟨by rw [hR.out]; rfl, rfl⟩
    · by_cases h1 : n ≤ 4
      · have hR : Hid (K = 4) := by show _ = _; rw [← HK.out]; unfold kindZ; rw [if_neg h0, if_pos h1]
        go_enter Try.func16, Try.ntmps16
        go_wp2_with fail
        go_ret
        exact ⟨by rw [hR.out]; rfl, rfl⟩
      · by_cases h2 : n ≤ 16
        · have hR : Hid (K = 16) := by show _ = _; rw [← HK.out]; unfold kindZ; rw [if_neg h0, if_neg h1, if_pos h2]
          go_enter Try.func16, Try.ntmps16
          go_wp2_with fail
          go_ret
          exact ⟨by rw [hR.out]; rfl, rfl⟩
        · by_cases h3 : n ≤ 48
          · have hR : Hid (K = 48) := by show _ = _; rw [← HK.out]; unfold kindZ; rw [if_neg h0, if_neg h1, if_neg h2, if_pos h3]
            go_enter Try.func16, Try.ntmps16
            go_wp2_with fail
            go_ret
            exact ⟨by rw [hR.out]; rfl, rfl⟩
          · have hR : Hid (K = 256) := by show _ = _; rw [← HK.out]; unfold kindZ; rw [if_neg h0, if_neg h1, if_neg h2, if_neg h3, if_pos (by omega)]
            go_enter Try.func16, Try.ntmps16
            go_wp2_with fail
            go_ret
            exact ⟨by rw [hR.out]; rfl, rfl⟩
theorem kindZ_facts (n : Int) : (kindZ n = 0 ∨ 4 ≤ kindZ n ∧ n ≤ kindZ n ∧ kindZ (kindZ n) = kindZ n) ∧ ∀ L : Int, L = 4 ∨ L = 16 ∨ L = 48 → n < 0 ∨ (0 ≤ n ∧ L < n) ∨ (0 ≤ n ∧ n ≤ L ∧ kindZ n ≤ L) := by
  have key : kindZ n = 0 ∧ (n < 0 ∨ 256 < n) ∨ 0 ≤ n ∧ (kindZ n = 4 ∧ n ≤ 4 ∨ kindZ n = 16 ∧ n ≤ 16 ∧ 4 < n ∨ kindZ n = 48 ∧ n ≤ 48 ∧ 16 < n ∨ kindZ n = 256 ∧ n ≤ 256 ∧ 48 < n) := by
    unfold kindZ
    by_cases h0 : n < 0
    · rw [if_pos h0]; omega
    · by_cases h1 : n ≤ 4
      · rw [if_neg h0, if_pos h1]; omega
      · by_cases h2 : n ≤ 16
        · rw [if_neg h0, if_neg h1, if_pos h2]; omega
        · by_cases h3 : n ≤ 48
          · rw [if_neg h0, if_neg h1, if_neg h2, if_pos h3]; omega
          · by_cases h4 : n ≤ 256
            · rw [if_neg h0, if_neg h1, if_neg h2, if_neg h3, if_pos h4]; omega
            · rw [if_neg h0, if_neg h1, if_neg h2, if_neg h3, if_neg h4]; omega
  constructor
  · rcases key with ⟨h, _⟩ | ⟨_, ⟨h, _⟩ | ⟨h, _⟩ | ⟨h, _⟩ | ⟨h, _⟩⟩ <;> rw [h]
    · exact Or.inl rfl
    all_goals exact Or.inr ⟨by omega, by omega, rfl⟩
  · rintro L (rfl | rfl | rfl) <;> omega
set_option maxHeartbeats 1000000 in
theorem KidsKind_any (n : Int) (w : World) : Calls Try.prog 3 #[.int .i64 n] w (LawPost w) := by
  have hk1 := fun n w => Lib.hid (kindOf_any n w)
  have hk2 := fun n w => Lib.hid (refKind_any n w)
  obtain ⟨f1, f2⟩ := kindZ_facts n
  have hk3 : ∀ w, Hid (Calls Try.prog 15 #[.int .i64 (kindZ n)] w fun e w' => e = .returned (.int .i64 (kindZ (kindZ n))) ∧ w = w') := fun w => kindOf_any _ w
  generalize hK : kindZ n = K at *
  have HK := Lib.hid hK
  clear hK
  have F1 := Lib.hid f1
  have F2 := Lib.hid f2
  have hal := Lib.hid (fun w => alive_any w)
  have f4 := F2.out 4 (Or.inl rfl)
  have f16 := F2.out 16 (Or.inr (Or.inl rfl))
  have f48 := F2.out 48 (Or.inr (Or.inr rfl))
  have G4 := Lib.hid f4
  have G16 := Lib.hid f16
  have G48 := Lib.hid f48
  clear f1 f2 f4 f16 f48
  have lawEnd : Hid (∀ w', Below (w.alloc (.cells #[.int .i64 4, .int .i64 16, .int .i64 48] 3)).heap.size (w.alloc (.cells #[.int .i64 4, .int .i64 16, .int .i64 48] 3)) w' → Below w.heap.size w w') := fun w' q => ((Below.refl _ w).alloc (Nat.le_refl _) _).trans (q.mono (by simp))
  go_enter Try.func3, Try.ntmps3
  go_wp2_with (first | (go_at_call 15; refine (hk1 _ _).out.mono ?_; rintro e w' ⟨rfl, rfl⟩; rw [HK.out]) | (go_at_call 16; refine (hk2 _ _).out.mono ?_; rintro e w' ⟨rfl, rfl⟩; rw [HK.out]))
  go_loop [14] (fun vi => ∃ j : Nat, vi = .int .i64 (j : Nat) ∧ j ≤ 3) (fun vi => (3 - intOf vi).toNat)
  case atStart => exact ⟨0, rfl, by omega⟩
  case round =>
    obtain ⟨j, rfl, hj⟩ := hrel
    have hj4 : j = 0 ∨ j = 1 ∨ j = 2 ∨ j = 3 := by omega
    clear hj
    rcases hj4 with rfl | rfl | rfl | rfl
    · have G := G4.out
      rcases G with G | ⟨G, G'⟩ | ⟨G, G', G''⟩
      all_goals
        go_wp2_with fail
        go_round
        case rel => exact ⟨1, rfl, by omega⟩
        case measure => simp [intOf]
    · have G := G16.out
      rcases G with G | ⟨G, G'⟩ | ⟨G, G', G''⟩
      all_goals
        go_wp2_with fail
        go_round
        case rel => exact ⟨2, rfl, by omega⟩
        case measure => simp [intOf]
    · have G := G48.out
      rcases G with G | ⟨G, G'⟩ | ⟨G, G', G''⟩
      all_goals
        go_wp2_with fail
        go_round
        case rel => exact ⟨3, rfl, by omega⟩
        case measure => simp [intOf]
    · have F := F1.out
      rcases F with rfl | ⟨g1, g2, g3⟩
      · go_wp2_with (first | (go_at_call 17; refine (hal.out _).mono ?_; rintro e w' ⟨rfl, q⟩; have q := Lib.hid q))
        go_ret
        exact ⟨rfl, lawEnd.out _ q.out⟩
      · have g3 := Lib.hid g3
        go_wp2_with (first | (go_at_call 15; refine (hk3 _).out.mono ?_; rintro e w' ⟨rfl, rfl⟩; rw [g3.out]) | (go_at_call 17; refine (hal.out _).mono ?_; rintro e w' ⟨rfl, q⟩; have q := Lib.hid q))
        go_ret
        exact ⟨rfl, lawEnd.out _ q.out⟩
end Go.Proofs.Ythifjldmhfpkhaa
