/- Spans: Prefix, the law's far. -/
import Derived.Test.YtehamfhblpokbaaDoorU3
set_option linter.unusedVariables false
set_option linter.unusedSimpArgs false
namespace Go.Proofs.YtehamfhblpokbaaDoor
open Go.RowKit
/-- a prefix's span -/
def prefPost (p : List Nat) (w : World) (e : Ending) (w' : World) : Prop := ∃ N a1 n1 c1 a2 n2 c2, NextIs p N ∧ e = .returned (.agg #[.slice a1 n1 c1, .slice a2 n2 c2, .bool (decide (N = 0))]) ∧ Sl w' a1 n1 c1 p ∧ Sl w' a2 n2 c2 (if N = 0 then [] else nextL p N) ∧ Below w.heap.size w w'
/-- what Next gives, as one -/
theorem next_one {p : List Nat} {w : World} {e : Ending} {w' : World} (h : nextPost p w e w') : ∃ N a n c, NextIs p N ∧ e = .returned (.tuple #[.slice a n c, .bool (!decide (N = 0))]) ∧ Sl w' a n c (if N = 0 then [] else nextL p N) ∧ Below w.heap.size w w' := by
  obtain ⟨N, h1, h2, ⟨rfl, h3⟩ | ⟨h3, a, c, h4, h5⟩⟩ := h
  · exact ⟨0, none, 0, 0, h1, by simpa using h3, sl_nil _, h2⟩
  · have : N ≠ 0 := by omega
    exact ⟨N, a, N, c, h1, by simpa [this] using h4, by rw [if_neg this]; exact h5, h2⟩
section
variable {w : World} {a1 a2 a3 a4 a0 : Option Addr} {n0 c0 n1 c1 n2 c2 n3 c3 n4 c4 : Nat} {k f t f' t' p : List Nat}
theorem b_prefix (h : Sl w a0 n0 c0 p) (hn : n0 ≤ 1000) : Calls Tryd.prog 9 #[.slice a0 n0 c0] w (prefPost p w) := by
  obtain ⟨w1, hw1⟩ : ∃ w1, w1 = w.alloc (.cells #[.slice none 0 0, .slice none 0 0, .bool false] bsT) := ⟨_, rfl⟩
  have b1 : Below w.heap.size w w1 := by rw [hw1]; exact below_al _ _
  have hN := Lib.hid (keys_next (h.below b1) hn)
  have hR := Lib.hid (fun w2 (b2 : Below w1.heap.size w1 w2) => res3 hw1 b2 (fun n => by simp) (fun n => by simp) (fun n => by simp))
  have hS := Lib.hid (fun w2 (b2 : Below w1.heap.size w1 w2) => (h.below b1).below b2)
  have hpx := Lib.hid h.at_.1
  clear h b1
  go_enter Tryd.func9, Tryd.ntmps9
  go_wp2_with fail
  rw [← hw1]
  clear hw1
  go_wp2_with (first
    | (at_builtin; go_loud (refine wpList_append_b rfl _ _ 22 rfl Tryd.underlying22 rfl a0 n0 c0 p rfl (hS.out _ B2.out) (by omega) ?_); intro v1 w3 bo1 HO HM HN
       have B3 := Lib.hid (B2.out.trans (HM.out.mono B2.out.size))
       obtain ⟨⟨x0, x1, x2, x3, x4, x5⟩, x6⟩ := hR.out _ B3.out
       obtain ⟨a5, c5, e5, s5⟩ := sl_of_own HO.out hpx.out
       subst e5
       obtain ⟨y0, y1, y2, y3, y4⟩ := x6 (.slice a5 n0 c5) (.slice a2 n2 c2) (.bool (decide (N = 0))) _ rfl
       have Y := Lib.hid (And.intro y3 (And.intro (y4 _ _ _ _ s5) (y4 _ _ _ _ (Z3.out.below HM.out))))
       clear x6 y3 y4 s5 HO HM HN)
    | (go_at_call 30; refine hN.out.mono ?_; rintro e w2 z; obtain ⟨N, a2, n2, c2, z1, rfl, z3, z4⟩ := next_one z; have Z1 := Lib.hid z1; have Z3 := Lib.hid z3; have B2 := Lib.hid z4; clear z z1 z3 z4))
  exact bodyPost_ret (v := .agg #[.slice a5 n0 c5, .slice a2 n2 c2, .bool (decide (N = 0))]) (by simp [results, Tryd.results9, go_sem, y0, y1, y2]) rfl ⟨N, _, _, _, _, _, _, Z1.out, rfl, Y.out.2.1, Y.out.2.2, Y.out.1⟩
theorem r_prefix (h : Sl w a0 n0 c0 p) (hn : n0 ≤ 1000) : Calls Tryd.prog 10 #[.slice a0 n0 c0] w (prefPost p w) := by
  obtain ⟨w1, hw1⟩ : ∃ w1, w1 = w.alloc (.cells #[.slice none 0 0, .slice none 0 0, .bool false] rsT) := ⟨_, rfl⟩
  have b1 : Below w.heap.size w w1 := by rw [hw1]; exact below_al _ _
  have hN := Lib.hid (ref_next (h.below b1) hn)
  have hR := Lib.hid (fun w2 (b2 : Below w1.heap.size w1 w2) => res3 hw1 b2 (fun n => by simp) (fun n => by simp) (fun n => by simp))
  have hS := Lib.hid (fun w2 (b2 : Below w1.heap.size w1 w2) => (h.below b1).below b2)
  clear h b1
  go_enter Tryd.func10, Tryd.ntmps10
  go_wp2_with fail
  rw [← hw1]
  clear hw1
  go_wp2_with (go_at_call 31; refine hN.out.mono ?_; rintro e w2 z; obtain ⟨N, a2, n2, c2, z1, rfl, z3, z4⟩ := next_one z; have Z1 := Lib.hid z1
               obtain ⟨⟨x0, x1, x2, x3, x4, x5⟩, x6⟩ := hR.out _ z4
               obtain ⟨y0, y1, y2, y3, y4⟩ := x6 (.slice a0 n0 c0) (.slice a2 n2 c2) (.bool (decide (N = 0))) _ rfl
               have Y := Lib.hid (And.intro y3 (And.intro (y4 _ _ _ _ (hS.out _ z4)) (y4 _ _ _ _ z3)))
               clear z z1 z3 z4 x6 y3 y4)
  exact bodyPost_ret (v := .agg #[.slice a0 n0 c0, .slice a2 n2 c2, .bool (decide (N = 0))]) (by simp [results, Tryd.results10, go_sem, y0, y1, y2]) rfl ⟨N, _, _, _, _, _, _, Z1.out, rfl, Y.out.2.1, Y.out.2.2, Y.out.1⟩
def farB (n1 n2 n3 n4 : Nat) : Bool := decide (300 < n1) || decide (300 < n2) || (decide (300 < n3) || decide (300 < n4))
set_option maxHeartbeats 1000000 in
theorem law_far {b : Nat} {o o' : Bool} {ty : TypeId} (hb : w.heap[b]? = some (.cells [.slice a1 n1 c1, .slice a2 n2 c2, .bool o, .slice a3 n3 c3, .slice a4 n4 c4, .bool o'].toArray ty (0, 0))) : Calls Tryd.prog 6 #[.slice (some ⟨b, 0, none⟩) 2 2] w (belowPost (.bool (farB n1 n2 n3 n4)) w) := by
  have hc := Lib.hid (fun wr (B : Below w.heap.size w wr) (j : Nat) => (cell_of_blk ((B.block b (Array.getElem?_eq_some_iff.1 hb).1).trans hb) j))
  have hB0 := Lib.hid (Below.refl w.heap.size w)
  have hAl := Lib.hid (fun wr (B : Below w.heap.size w wr) (o : Obj) => B.alloc B.size o)
  clear hb
  obtain ⟨V, hV⟩ : ∃ V, V = farB n1 n2 n3 n4 := ⟨_, rfl⟩
  have HV := Lib.hid hV
  rw [← hV]
  clear hV
  go_enter Tryd.func6, Tryd.ntmps6
  go_wp2_with fail
  go_loopw [7] (fun vi wr => ∃ i : Nat, vi = .int .i64 (i : Nat) ∧ i ≤ 2 ∧ Hid (Below w.heap.size w wr) ∧ Hid (0 < i → n1 ≤ 300 ∧ n2 ≤ 300) ∧ Hid (1 < i → n3 ≤ 300 ∧ n4 ≤ 300)) (fun vi _ => (2 - intOf vi).toNat)
  case atStart => exact ⟨0, rfl, by omega, hB0, fun h => absurd h (by omega), fun h => absurd h (by omega)⟩
  case round =>
    clear hB0
    obtain ⟨i, rfl, hi, hB, h1, h2⟩ := hrel
    obtain rfl | rfl | rfl : i = 0 ∨ i = 1 ∨ i = 2 := by omega
    · have x0 : wr.cell? ⟨b, 0, none⟩ = some (.slice a1 n1 c1) := hc.out _ hB.out 0
      have x1 : wr.cell? ⟨b, 1, none⟩ = some (.slice a2 n2 c2) := hc.out _ hB.out 1
      have x2 : wr.cell? ⟨b, 2, none⟩ = some (.bool o) := hc.out _ hB.out 2
      by_cases q1 : 300 < n1
      · have j1 : (300 : Int) < (n1 : Int) := by omega
        have hR : Hid (true = V) := by show _ = _; rw [HV.out]; simp [farB, q1]
        go_wp2_with fail
        go_ret
        rw [← hR.out]
        exact ⟨rfl, hAl.out _ hB.out _⟩
      · have j1 : ¬ (300 : Int) < (n1 : Int) := by omega
        by_cases q2 : 300 < n2
        · have j2 : (300 : Int) < (n2 : Int) := by omega
          have hR : Hid (true = V) := by show _ = _; rw [HV.out]; simp [farB, q2]
          go_wp2_with fail
          go_ret
          rw [← hR.out]
          exact ⟨rfl, hAl.out _ hB.out _⟩
        · have j2 : ¬ (300 : Int) < (n2 : Int) := by omega
          go_wp2_with fail
          go_roundw
          case rel => exact ⟨1, rfl, by omega, hAl.out _ hB.out _, fun _ => ⟨by omega, by omega⟩, fun h => absurd h (by omega)⟩
          case measure => (simp [intOf])
    · have x0 : wr.cell? ⟨b, 3, none⟩ = some (.slice a3 n3 c3) := hc.out _ hB.out 3
      have x1 : wr.cell? ⟨b, 4, none⟩ = some (.slice a4 n4 c4) := hc.out _ hB.out 4
      have x2 : wr.cell? ⟨b, 5, none⟩ = some (.bool o') := hc.out _ hB.out 5
      by_cases q1 : 300 < n3
      · have j1 : (300 : Int) < (n3 : Int) := by omega
        have hR : Hid (true = V) := by show _ = _; rw [HV.out]; simp [farB, q1]
        go_wp2_with fail
        go_ret
        rw [← hR.out]
        exact ⟨rfl, hAl.out _ hB.out _⟩
      · have j1 : ¬ (300 : Int) < (n3 : Int) := by omega
        by_cases q2 : 300 < n4
        · have j2 : (300 : Int) < (n4 : Int) := by omega
          have hR : Hid (true = V) := by show _ = _; rw [HV.out]; simp [farB, q2]
          go_wp2_with fail
          go_ret
          rw [← hR.out]
          exact ⟨rfl, hAl.out _ hB.out _⟩
        · have j2 : ¬ (300 : Int) < (n4 : Int) := by omega
          have h1' := h1.out (by omega)
          go_wp2_with fail
          go_roundw
          case rel => exact ⟨2, rfl, by omega, hAl.out _ hB.out _, fun _ => h1', fun _ => ⟨by omega, by omega⟩⟩
          case measure => (simp [intOf])
    · have h1' := h1.out (by omega)
      have h2' := h2.out (by omega)
      have hR : Hid (false = V) := by show _ = _; rw [HV.out]; simp [farB]; omega
      go_wp2_with fail
      go_ret
      rw [← hR.out]
      exact ⟨rfl, hB.out⟩
end
end Go.Proofs.YtehamfhblpokbaaDoor
