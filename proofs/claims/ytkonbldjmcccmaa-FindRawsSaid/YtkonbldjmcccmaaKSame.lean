/- The document's Common, Cmp, Same (spunyarnref01) of bytes. -/
import Derived.Test.YtkonbldjmcccmaaKBytes
set_option linter.unusedVariables false
set_option linter.unusedSimpArgs false
namespace Go.Proofs.Ytkonbldjmcccmaa
open Go.RowKit
/-- how many bytes both begin with -/
def lcp : List Nat → List Nat → Nat
  | x :: xs, y :: ys => if x = y then lcp xs ys + 1 else 0
  | _, _ => 0
theorem lcp_le : ∀ (xs ys : List Nat), lcp xs ys ≤ xs.length ∧ lcp xs ys ≤ ys.length
  | [], _ => by simp [lcp]
  | _ :: _, [] => by simp [lcp]
  | x :: xs, y :: ys => by
    have := lcp_le xs ys
    unfold lcp
    split <;> simp <;> omega
theorem lcp_stop : ∀ (xs ys : List Nat) (n : Nat), (∀ j, j < n → xs.getD j 0 = ys.getD j 0) → n ≤ xs.length → n ≤ ys.length → (n = xs.length ∨ n = ys.length ∨ xs.getD n 0 ≠ ys.getD n 0) → lcp xs ys = n
  | [], ys, n, h1, h2, h3, h4 => by simp at h2; subst h2; rfl
  | x :: xs, [], n, h1, h2, h3, h4 => by simp at h3; subst h3; rfl
  | x :: xs, y :: ys, 0, h1, h2, h3, h4 => by
    have : x ≠ y := by
      rcases h4 with h | h | h
      · simp at h
      · simp at h
      · simpa using h
    simp [lcp, this]
  | x :: xs, y :: ys, n + 1, h1, h2, h3, h4 => by
    have e : x = y := by simpa using h1 0 (by omega)
    subst e
    have := lcp_stop xs ys n (fun j hj => by simpa using h1 (j + 1) (by omega)) (by simpa using h2) (by simpa using h3) (by simpa using h4)
    simp [lcp, this]
theorem lcp_same : ∀ (xs ys : List Nat), (lcp xs ys = xs.length ∧ lcp xs ys = ys.length) ↔ xs = ys
  | [], [] => by simp [lcp]
  | [], _ :: _ => by simp [lcp]
  | _ :: _, [] => by simp [lcp]
  | x :: xs, y :: ys => by
    have := lcp_same xs ys
    unfold lcp
    by_cases e : x = y
    · subst e; simp [this]
    · simp [e]
/-- the order of bytes -/
def bcmp (xs ys : List Nat) : Int :=
  if lcp xs ys = xs.length ∧ lcp xs ys = ys.length then 0 else if lcp xs ys = xs.length then -1 else if lcp xs ys = ys.length then 1 else if xs.getD (lcp xs ys) 0 < ys.getD (lcp xs ys) 0 then -1 else 1
theorem bcmp_zero (xs ys : List Nat) : bcmp xs ys = 0 ↔ xs = ys := by
  unfold bcmp
  rw [← lcp_same]
  split
  · rename_i h; exact ⟨fun _ => h, fun _ => rfl⟩
  · rename_i h
    constructor
    · intro e; exfalso; revert e; split <;> (try split) <;> (try split) <;> simp
    · intro e; exact absurd e h
/-- bytes at a slice, whatever was drawn -/
theorem BytesAt.cellN {w : World} {a : Option Addr} {bs : List Nat} (h : BytesAt w a bs) {i : Nat} (hi : i < bs.length) : ∃ p : Addr, a = some p ∧ ∀ k, (w.drewN k).cell? (p.add i) = some (.int .u8 (bs.getD i 0 : Nat)) := by
  obtain ⟨p, hp, _, h2⟩ := h.2 i hi
  exact ⟨p, hp, fun k => h2⟩
set_option maxRecDepth 100000 in
theorem ref_common (w : World) (a1 a2 : Option Addr) (n1 c1 n2 c2 : Nat) (xs ys : List Nat) (h1 : BytesAt w a1 xs) (h2 : BytesAt w a2 ys) (l1 : xs.length = n1) (l2 : ys.length = n2) (m1 : n1 ≤ maxLen) (m2 : n2 ≤ maxLen) : Calls Try.prog 123 #[.slice a1 n1 c1, .slice a2 n2 c2] w fun e w' => e = .returned (.int .i64 (lcp xs ys : Nat)) ∧ ∃ k, w' = w.drewN k := by
  have H1 := Lib.hid h1
  have H2 := Lib.hid h2
  have L1 := Lib.hid l1
  have L2 := Lib.hid l2
  have M1 : n1 ≤ 9223372036854775807 := m1
  have M2 : n2 ≤ 9223372036854775807 := m2
  obtain ⟨V, hV⟩ : ∃ V : Nat, Hid (lcp xs ys = V) := ⟨_, rfl⟩
  rw [hV.out]
  clear h1 h2 l1 l2 m1 m2
  go_enter Try.func123, Try.ntmps123
  go_wp2_with fail
  go_loopw [5] (fun vi wr => ∃ i k : Nat, vi = .int .i64 (i : Nat) ∧ i ≤ n1 ∧ i ≤ n2 ∧ Hid (∀ j, j < i → xs.getD j 0 = ys.getD j 0) ∧ wr = w.drewN k) (fun vi _ => (n1 - intOf vi).toNat)
  case atStart => exact ⟨0, 0, rfl, by omega, by omega, (fun j hj => absurd hj (Nat.not_lt_zero j)), rfl⟩
  case round =>
    obtain ⟨i, k, rfl, hi1, hi2, heq, rfl⟩ := hrel
    by_cases g1 : i < n1
    · by_cases g2 : i < n2
      · obtain ⟨p, rfl, hp⟩ := H1.out.cellN (i := i) (by rw [L1.out]; exact g1)
        obtain ⟨q, rfl, hq⟩ := H2.out.cellN (i := i) (by rw [L2.out]; exact g2)
        have j1 : (i : Int) < (n1 : Int) := by omega
        have j2 : (i : Int) < (n2 : Int) := by omega
        have hw9 : IntKind.i64.wrap (((i : Nat) : Int) + 1) = ((i : Nat) : Int) + 1 := IntWalk.i64_in _ (by omega)
        by_cases he : xs.getD i 0 = ys.getD i 0
        · have hn : Hid (∀ j, j < i + 1 → xs.getD j 0 = ys.getD j 0) := fun j hj => by
            by_cases e : j = i
            · subst e; exact he
            · exact heq.out j (by omega)
          rw [← he] at hq
          generalize xs.getD i 0 = u at *
          clear he
          go_wp2_with fail
          go_quiet (fail)
          go_wp2_with fail
          go_roundw
          case rel => exact ⟨i + 1, k + nq, (by first | rfl | go_num), by omega, by omega, hn, by simp⟩
          case measure => (simp [intOf]) <;> omega
        · have hR : Hid (i = V) := ((lcp_stop xs ys i heq.out (by rw [L1.out]; omega) (by rw [L2.out]; omega) (Or.inr (Or.inr he))).symm.trans hV.out : i = V)
          have he2 : ((xs.getD i 0 : Nat) : Int) ≠ ((ys.getD i 0 : Nat) : Int) := by omega
          have he3 : (((xs.getD i 0 : Nat) : Int) == ((ys.getD i 0 : Nat) : Int)) = false := by simpa using he2
          generalize xs.getD i 0 = u at *
          generalize ys.getD i 0 = v at *
          clear he he2
          go_wp2_with fail
          go_quiet (fail)
          go_wp2_with fail
          go_ret
          exact ⟨congrArg (fun n : Nat => Ending.returned (.int .i64 (n : Int))) hR.out, _, World.drewN_drewN _ _ _⟩
      · obtain ⟨p, rfl, hp⟩ := H1.out.cellN (i := i) (by rw [L1.out]; exact g1)
        obtain rfl : i = n2 := by omega
        have hR : Hid (i = V) := ((lcp_stop xs ys i heq.out (by rw [L1.out]; omega) (by rw [L2.out]; omega) (Or.inr (Or.inl (by rw [L2.out])))).symm.trans hV.out : i = V)
        have j1 : (i : Int) < (n1 : Int) := by omega
        go_wp2_with fail
        go_quiet (fail)
        go_wp2_with fail
        go_ret
        exact ⟨congrArg (fun n : Nat => Ending.returned (.int .i64 (n : Int))) hR.out, _, World.drewN_drewN _ _ _⟩
    · obtain rfl : i = n1 := by omega
      have hR : Hid (i = V) := ((lcp_stop xs ys i heq.out (by rw [L1.out]; omega) (by rw [L2.out]; omega) (Or.inl (by rw [L1.out]))).symm.trans hV.out : i = V)
      go_wp2_with fail
      go_quiet (fail)
      go_wp2_with fail
      go_ret
      exact ⟨congrArg (fun n : Nat => Ending.returned (.int .i64 (n : Int))) hR.out, _, World.drewN_drewN _ _ _⟩
set_option maxRecDepth 100000 in
theorem ref_cmp (w : World) (a1 a2 : Option Addr) (n1 c1 n2 c2 : Nat) (xs ys : List Nat) (h1 : BytesAt w a1 xs) (h2 : BytesAt w a2 ys) (l1 : xs.length = n1) (l2 : ys.length = n2) (m1 : n1 ≤ maxLen) (m2 : n2 ≤ maxLen) : Calls Try.prog 64 #[.slice a1 n1 c1, .slice a2 n2 c2] w fun e w' => e = .returned (.int .i64 (bcmp xs ys)) ∧ ∃ k, w' = w.drewN k := by
  have hC := Lib.hid (ref_common w a1 a2 n1 c1 n2 c2 xs ys h1 h2 l1 l2 m1 m2)
  have hle := lcp_le xs ys
  have H1 := Lib.hid h1
  have H2 := Lib.hid h2
  have L1 := Lib.hid l1
  have L2 := Lib.hid l2
  rw [l1, l2] at hle
  obtain ⟨hle1, hle2⟩ := hle
  have hB : Hid (bcmp xs ys = if lcp xs ys = n1 ∧ lcp xs ys = n2 then 0 else if lcp xs ys = n1 then -1 else if lcp xs ys = n2 then 1 else if xs.getD (lcp xs ys) 0 < ys.getD (lcp xs ys) 0 then -1 else 1) := by show _ = _; unfold bcmp; rw [l1, l2]
  clear h1 h2 l1 l2 m1 m2
  generalize hV : bcmp xs ys = V at *
  clear hV
  generalize lcp xs ys = i at *
  by_cases e1 : i = n1
  · by_cases e2 : i = n2
    · subst e1; subst e2
      have hR : Hid (V = 0) := by show _ = _; rw [hB.out]; simp
      rw [hR.out]
      clear hR
      go_enter Try.func64, Try.ntmps64
      go_wp2_with (go_at_call 123; refine hC.out.mono ?_; rintro e w' ⟨rfl, k, rfl⟩)
      go_ret
      exact ⟨rfl, _, rfl⟩
    · subst e1
      have hR : Hid (V = -1) := by show _ = _; rw [hB.out]; simp [e2]
      have j2 : (i : Int) ≠ (n2 : Int) := by omega
      rw [hR.out]
      clear hR e2
      go_enter Try.func64, Try.ntmps64
      go_wp2_with (go_at_call 123; refine hC.out.mono ?_; rintro e w' ⟨rfl, k, rfl⟩)
      go_ret
      exact ⟨rfl, _, rfl⟩
  · have j1 : (i : Int) ≠ (n1 : Int) := by omega
    by_cases e2 : i = n2
    · subst e2
      have hR : Hid (V = 1) := by show _ = _; rw [hB.out]; simp [e1]
      rw [hR.out]
      clear hR e1
      go_enter Try.func64, Try.ntmps64
      go_wp2_with (go_at_call 123; refine hC.out.mono ?_; rintro e w' ⟨rfl, k, rfl⟩)
      go_ret
      exact ⟨rfl, _, rfl⟩
    · have j2 : (i : Int) ≠ (n2 : Int) := by omega
      obtain ⟨p, rfl, hp⟩ := H1.out.cellN (i := i) (by rw [L1.out]; omega)
      obtain ⟨q, rfl, hq⟩ := H2.out.cellN (i := i) (by rw [L2.out]; omega)
      have k1 : (i : Int) < (n1 : Int) := by omega
      have k2 : (i : Int) < (n2 : Int) := by omega
      have hR : Hid (V = if xs.getD i 0 < ys.getD i 0 then -1 else 1) := by show _ = _; rw [hB.out]; simp [e1, e2]
      generalize xs.getD i 0 = u at *
      generalize ys.getD i 0 = v at *
      by_cases e3 : u < v
      · have j3 : (u : Int) < (v : Int) := by omega
        rw [hR.out, if_pos e3]
        clear hR e1 e2 e3 hB
        go_enter Try.func64, Try.ntmps64
        go_wp2_with (go_at_call 123; refine hC.out.mono ?_; rintro e w' ⟨rfl, k, rfl⟩)
        go_quiet (fail)
        go_wp2_with fail
        go_ret
        exact ⟨rfl, _, World.drewN_drewN _ _ _⟩
      · have j3 : ¬ (u : Int) < (v : Int) := by omega
        rw [hR.out, if_neg e3]
        clear hR e1 e2 e3 hB
        go_enter Try.func64, Try.ntmps64
        go_wp2_with (go_at_call 123; refine hC.out.mono ?_; rintro e w' ⟨rfl, k, rfl⟩)
        go_quiet (fail)
        go_wp2_with fail
        go_ret
        exact ⟨rfl, _, World.drewN_drewN _ _ _⟩
theorem ref_same (w : World) (a1 a2 : Option Addr) (n1 c1 n2 c2 : Nat) (xs ys : List Nat) (h1 : BytesAt w a1 xs) (h2 : BytesAt w a2 ys) (l1 : xs.length = n1) (l2 : ys.length = n2) (m1 : n1 ≤ maxLen) (m2 : n2 ≤ maxLen) : Calls Try.prog 47 #[.slice a1 n1 c1, .slice a2 n2 c2] w fun e w' => e = .returned (.bool (decide (xs = ys))) ∧ ∃ k, w' = w.drewN k := by
  have hC := Lib.hid (ref_cmp w a1 a2 n1 c1 n2 c2 xs ys h1 h2 l1 l2 m1 m2)
  have hz := bcmp_zero xs ys
  clear h1 h2 l1 l2 m1 m2
  by_cases e : xs = ys
  · have h0 : Hid (bcmp xs ys = 0) := hz.2 e
    have hR : Hid (decide (xs = ys) = true) := by show _ = _; simp [e]
    rw [hR.out]
    clear hz e hR
    go_enter Try.func47, Try.ntmps47
    go_wp2_with (go_at_call 64; refine hC.out.mono ?_; rintro e w' ⟨rfl, k, rfl⟩; rw [h0.out])
    go_ret
    exact ⟨rfl, _, rfl⟩
  · have h0 : bcmp xs ys ≠ 0 := fun q => e (hz.1 q)
    have h1 : (bcmp xs ys == 0) = false := by simpa using h0
    have hR : Hid (decide (xs = ys) = false) := by show _ = _; simp [e]
    rw [hR.out]
    clear hz e hR h0
    generalize bcmp xs ys = V at *
    go_enter Try.func47, Try.ntmps47
    go_wp2_with (go_at_call 64; refine hC.out.mono ?_; rintro e w' ⟨rfl, k, rfl⟩)
    go_ret
    exact ⟨rfl, _, rfl⟩
end Go.Proofs.Ytkonbldjmcccmaa
