/- alive of law 07. -/
import Derived.Test.YtehamfhblpokbaaDoorU7
import Derived.Test.YtehamfhblpokbaaDoorU4B
set_option linter.unusedVariables false
set_option linter.unusedSimpArgs false
namespace Go.Proofs.YtehamfhblpokbaaDoor
open Go.RowKit
theorem next_1 : NextIs [1] 1 := ⟨Nat.le_refl _, fun j h1 h2 => by simp at h2; omega, Or.inr (by decide)⟩
theorem next_1255 : NextIs [1, 255] 1 := ⟨by simp, fun j h1 h2 => by
  have : j < 2 := h2
  obtain rfl : j = 1 := by omega
  rfl, Or.inr (by decide)⟩
/-- a prefix's span where it has an end -/
theorem pref_is {p q : List Nat} {n : Nat} {w : World} {e : Ending} {w' : World} (h : prefPost p w e w') (hn : NextIs p (n + 1)) (hq : nextL p (n + 1) = q) : ∃ a1 n1 c1 a2 n2 c2, e = .returned (.agg #[.slice a1 n1 c1, .slice a2 n2 c2, .bool false]) ∧ Sl w' a1 n1 c1 p ∧ Sl w' a2 n2 c2 q ∧ Below w.heap.size w w' := by
  obtain ⟨N, a1, n1, c1, a2, n2, c2, h1, h2, h3, h4, h5⟩ := h
  obtain rfl := h1.uniq hn
  exact ⟨a1, n1, c1, a2, n2, c2, by simpa using h2, h3, by rw [if_neg (by omega), hq] at h4; exact h4, h5⟩
def ofPost (w : World) (e : Ending) (w' : World) : Prop := ∃ a1 n1 c1 a2 n2 c2, e = .returned (.tuple #[.agg #[.slice a1 n1 c1, .slice a2 n2 c2, .bool false], .int .i64 0]) ∧ Sl w' a1 n1 c1 [1] ∧ Sl w' a2 n2 c2 [2] ∧ Below w.heap.size w w'
set_option maxHeartbeats 1000000 in
set_option maxRecDepth 100000 in
theorem one_of (w : World) (b b2 : Nat) (h : FsAt w b) (h2 : VsAt w b2) : Calls Tryd.prog 21 #[.slice (some ⟨b, 0, none⟩) 1 1, .slice (some ⟨b2, 0, none⟩) 1 1] w (ofPost w) := by
  obtain ⟨w1, hw1⟩ : ∃ w1, w1 = w.alloc (.cells #[.slice none 0 0, .slice none 0 0, .bool false] bsT) := ⟨_, rfl⟩
  have b1 : Below w.heap.size w w1 := by rw [hw1]; exact below_al _ _
  have hT := Lib.hid (one_tput w1 b b2 1 1 (h.below b1) (h2.below b1))
  have hR := Lib.hid (fun w2 (b2 : Below w1.heap.size w1 w2) => res3 hw1 b2 (fun n => by simp) (fun n => by simp) (fun n => by simp))
  have hP := Lib.hid (fun w2 (a : Option Addr) (c : Nat) (s : Sl w2 a 1 c [1]) => b_prefix s (by omega))
  clear h h2 b1
  go_enter Tryd.func21, Tryd.ntmps21
  go_wp2_with fail
  rw [← hw1]
  clear hw1
  go_wp2_with (first
    | (go_at_call 9; refine (hP.out _ _ _ S1.out).mono ?_; rintro e w3 z; obtain ⟨a3, n3, c3, a4, n4, c4, rfl, z1, z2, z3⟩ := pref_is z next_1 rfl
       obtain ⟨⟨x0, x1, x2, x3, x4, x5⟩, x6⟩ := hR.out _ (B2.out.trans (z3.mono B2.out.size))
       obtain ⟨y0, y1, y2, y3, y4⟩ := x6 (.slice a3 n3 c3) (.slice a4 n4 c4) (.bool false) _ rfl
       have Y := Lib.hid (And.intro y3 (And.intro (y4 _ _ _ _ z1) (y4 _ _ _ _ z2)))
       clear z z1 z2 z3 x6 y3 y4)
    | (go_at_call 38; refine hT.out.mono ?_; rintro e w2 ⟨a2, c2, rfl, s1, s2⟩; have S1 := Lib.hid s1; have B2 := Lib.hid s2; clear s1 s2))
  exact bodyPost_ret (v := .tuple #[.agg #[.slice a3 n3 c3, .slice a4 n4 c4, .bool false], .int .i64 0]) (by simp [results, Tryd.results21, go_sem, y0, y1, y2]) rfl ⟨_, _, _, _, _, _, rfl, Y.out.2.1, Y.out.2.2, Y.out.1⟩
end Go.Proofs.YtehamfhblpokbaaDoor
