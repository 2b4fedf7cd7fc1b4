/- What the laws of the chapters 17, 30, 32 ask of pairs: whether they are too many; their tree; How many bytes a canonical tree is at most. No program. -/
import Derived.Test.YtkonbldjmcccmaaJ9
import Derived.Test.YtkonbldjmcccmaaJ10
set_option linter.unusedVariables false
set_option linter.unusedSimpArgs false
/- What the laws of the chapters 17, 30, 32 ask of pairs: whether they are too many; their tree. -/
namespace Go.Proofs.Ytkonbldjmcccmaa
open Go.RowKit
theorem far_m {m n : Nat} {l : PL} (h : (decide (m < n) || farL 300 l) = false) : n ≤ m ∧ ∀ x ∈ l, x.1.length ≤ 300 := by
  simp only [Bool.or_eq_false_iff, decide_eq_false_iff_not] at h
  refine ⟨by omega, fun x hx => ?_⟩
  have := h.2
  unfold farL at this
  rw [List.any_eq_false] at this
  have := this x hx
  simp at this
  exact this
set_option maxHeartbeats 1000000 in
theorem far_30 (w : World) (a : Option Addr) (n c : Nat) (l : PL) (h : Prs w a n c l) (m : Nat) (hm : m ≤ 100000) : Calls Try.prog 68 #[.slice a n c, .int .i64 (m : Nat)] w (farPost (decide (m < n) || farL 300 l) w) := by
  have hB0 : Hid (Below w.heap.size w w) := Below.refl _ _
  by_cases h1 : m < n
  · have e : (decide (m < n) || farL 300 l) = true := by simp [h1]
    have h2 : (m : Int) < (n : Int) := by omega
    rw [e]
    clear h e
    go_enter Try.func68, Try.ntmps68
    go_wp2_with fail
    go_ret
    exact ⟨rfl, hB0.out⟩
  · have h2 : ¬ (m : Int) < (n : Int) := by omega
    have e : (decide (m < n) || farL 300 l) = farL 300 l := by simp [h1]
    rw [e]
    have H := Lib.hid h
    obtain ⟨V, hV⟩ : ∃ V, V = farL 300 l := ⟨_, rfl⟩
    have HV := Lib.hid hV
    have hl := Lib.hid h.len
    have hn : n ≤ 100000 := by omega
    rw [← hV]
    clear h e hV h1
    go_enter Try.func68, Try.ntmps68
    go_wp2_with fail
    go_loopw [13] (fun vi wr => ∃ i : Nat, vi = .int .i64 (i : Nat) ∧ i ≤ n ∧ Hid (∀ j, j < i → (l.getD j ([], 0)).1.length ≤ 300) ∧ Hid (Below w.heap.size w wr)) (fun vi _ => (n - intOf vi).toNat)
    case atStart => exact ⟨0, rfl, by omega, fun j hj => absurd hj (by omega), hB0⟩
    case round =>
      clear hB0
      obtain ⟨i, rfl, hi, hA, hB⟩ := hrel
      by_cases hlt : i < n
      · have hlt2 : (i : Int) < (n : Int) := by omega
        obtain ⟨p, rfl, q⟩ := (H.out.below hB.out).at_ i (by rw [hl.out]; exact hlt)
        obtain ⟨a3, n3, c3, q1, q2, q3⟩ := q.cells
        have hl3 := Lib.hid q3.len
        generalize (l.getD i ([], 0)).2 = v at *
        clear q q3
        by_cases hx : 300 < n3
        · have hx2 : (300 : Int) < (n3 : Int) := by omega
          have hR : Hid (true = V) := by show _ = _; rw [HV.out, farL_at (i := i) (by rw [hl.out]; exact hlt) (by rw [hl3.out]; exact hx)]
          clear hl3 hx
          go_wp2_with fail
          go_ret
          rw [← hR.out]
          exact ⟨rfl, (hB.out.alloc hB.out.size _)⟩
        · have hx2 : ¬ (300 : Int) < (n3 : Int) := by omega
          have hA2 : Hid (∀ j, j < i + 1 → (l.getD j ([], 0)).1.length ≤ 300) := fun j hj => by
            by_cases e : j = i
            · rw [e, hl3.out]; omega
            · exact hA.out j (by omega)
          clear hl3 hx hA
          go_wp2_with fail
          go_roundw
          case rel => exact ⟨i + 1, (by first | rfl | go_num), by omega, hA2, hB.out.alloc hB.out.size _⟩
          case measure => (simp [intOf]) <;> omega
      · have hlt2 : ¬ (i : Int) < (n : Int) := by omega
        obtain rfl : i = n := by omega
        have hR : Hid (false = V) := by show _ = _; rw [HV.out, farL_no (fun j hj => hA.out j (by rw [← hl.out]; exact hj))]
        clear hA
        go_wp2_with fail
        go_ret
        rw [← hR.out]
        exact ⟨rfl, hB.out⟩

set_option maxHeartbeats 1000000 in
theorem far_17 (w : World) (a : Option Addr) (n c : Nat) (l : PL) (h : Prs w a n c l) (m : Nat) (hm : m ≤ 100000) : Calls Try.prog 48 #[.slice a n c, .int .i64 (m : Nat)] w (farPost (decide (m < n) || farL 300 l) w) := by
  have hB0 : Hid (Below w.heap.size w w) := Below.refl _ _
  by_cases h1 : m < n
  · have e : (decide (m < n) || farL 300 l) = true := by simp [h1]
    have h2 : (m : Int) < (n : Int) := by omega
    rw [e]
    clear h e
    go_enter Try.func48, Try.ntmps48
    go_wp2_with fail
    go_ret
    exact ⟨rfl, hB0.out⟩
  · have h2 : ¬ (m : Int) < (n : Int) := by omega
    have e : (decide (m < n) || farL 300 l) = farL 300 l := by simp [h1]
    rw [e]
    have H := Lib.hid h
    obtain ⟨V, hV⟩ : ∃ V, V = farL 300 l := ⟨_, rfl⟩
    have HV := Lib.hid hV
    have hl := Lib.hid h.len
    have hn : n ≤ 100000 := by omega
    rw [← hV]
    clear h e hV h1
    go_enter Try.func48, Try.ntmps48
    go_wp2_with fail
    go_loopw [13] (fun vi wr => ∃ i : Nat, vi = .int .i64 (i : Nat) ∧ i ≤ n ∧ Hid (∀ j, j < i → (l.getD j ([], 0)).1.length ≤ 300) ∧ Hid (Below w.heap.size w wr)) (fun vi _ => (n - intOf vi).toNat)
    case atStart => exact ⟨0, rfl, by omega, fun j hj => absurd hj (by omega), hB0⟩
    case round =>
      clear hB0
      obtain ⟨i, rfl, hi, hA, hB⟩ := hrel
      by_cases hlt : i < n
      · have hlt2 : (i : Int) < (n : Int) := by omega
        obtain ⟨p, rfl, q⟩ := (H.out.below hB.out).at_ i (by rw [hl.out]; exact hlt)
        obtain ⟨a3, n3, c3, q1, q2, q3⟩ := q.cells
        have hl3 := Lib.hid q3.len
        generalize (l.getD i ([], 0)).2 = v at *
        clear q q3
        by_cases hx : 300 < n3
        · have hx2 : (300 : Int) < (n3 : Int) := by omega
          have hR : Hid (true = V) := by show _ = _; rw [HV.out, farL_at (i := i) (by rw [hl.out]; exact hlt) (by rw [hl3.out]; exact hx)]
          clear hl3 hx
          go_wp2_with fail
          go_ret
          rw [← hR.out]
          exact ⟨rfl, (hB.out.alloc hB.out.size _)⟩
        · have hx2 : ¬ (300 : Int) < (n3 : Int) := by omega
          have hA2 : Hid (∀ j, j < i + 1 → (l.getD j ([], 0)).1.length ≤ 300) := fun j hj => by
            by_cases e : j = i
            · rw [e, hl3.out]; omega
            · exact hA.out j (by omega)
          clear hl3 hx hA
          go_wp2_with fail
          go_roundw
          case rel => exact ⟨i + 1, (by first | rfl | go_num), by omega, hA2, hB.out.alloc hB.out.size _⟩
          case measure => (simp [intOf]) <;> omega
      · have hlt2 : ¬ (i : Int) < (n : Int) := by omega
        obtain rfl : i = n := by omega
        have hR : Hid (false = V) := by show _ = _; rw [HV.out, farL_no (fun j hj => hA.out j (by rw [← hl.out]; exact hj))]
        clear hA
        go_wp2_with fail
        go_ret
        rw [← hR.out]
        exact ⟨rfl, hB.out⟩

set_option maxHeartbeats 1000000 in
theorem far_32 (w : World) (a : Option Addr) (n c : Nat) (l : PL) (h : Prs w a n c l) (m : Nat) (hm : m ≤ 100000) : Calls Try.prog 73 #[.slice a n c, .int .i64 (m : Nat)] w (farPost (decide (m < n) || farL 300 l) w) := by
  have hB0 : Hid (Below w.heap.size w w) := Below.refl _ _
  by_cases h1 : m < n
  · have e : (decide (m < n) || farL 300 l) = true := by simp [h1]
    have h2 : (m : Int) < (n : Int) := by omega
    rw [e]
    clear h e
    go_enter Try.func73, Try.ntmps73
    go_wp2_with fail
    go_ret
    exact ⟨rfl, hB0.out⟩
  · have h2 : ¬ (m : Int) < (n : Int) := by omega
    have e : (decide (m < n) || farL 300 l) = farL 300 l := by simp [h1]
    rw [e]
    have H := Lib.hid h
    obtain ⟨V, hV⟩ : ∃ V, V = farL 300 l := ⟨_, rfl⟩
    have HV := Lib.hid hV
    have hl := Lib.hid h.len
    have hn : n ≤ 100000 := by omega
    rw [← hV]
    clear h e hV h1
    go_enter Try.func73, Try.ntmps73
    go_wp2_with fail
    go_loopw [13] (fun vi wr => ∃ i : Nat, vi = .int .i64 (i : Nat) ∧ i ≤ n ∧ Hid (∀ j, j < i → (l.getD j ([], 0)).1.length ≤ 300) ∧ Hid (Below w.heap.size w wr)) (fun vi _ => (n - intOf vi).toNat)
    case atStart => exact ⟨0, rfl, by omega, fun j hj => absurd hj (by omega), hB0⟩
    case round =>
      clear hB0
      obtain ⟨i, rfl, hi, hA, hB⟩ := hrel
      by_cases hlt : i < n
      · have hlt2 : (i : Int) < (n : Int) := by omega
        obtain ⟨p, rfl, q⟩ := (H.out.below hB.out).at_ i (by rw [hl.out]; exact hlt)
        obtain ⟨a3, n3, c3, q1, q2, q3⟩ := q.cells
        have hl3 := Lib.hid q3.len
        generalize (l.getD i ([], 0)).2 = v at *
        clear q q3
        by_cases hx : 300 < n3
        · have hx2 : (300 : Int) < (n3 : Int) := by omega
          have hR : Hid (true = V) := by show _ = _; rw [HV.out, farL_at (i := i) (by rw [hl.out]; exact hlt) (by rw [hl3.out]; exact hx)]
          clear hl3 hx
          go_wp2_with fail
          go_ret
          rw [← hR.out]
          exact ⟨rfl, (hB.out.alloc hB.out.size _)⟩
        · have hx2 : ¬ (300 : Int) < (n3 : Int) := by omega
          have hA2 : Hid (∀ j, j < i + 1 → (l.getD j ([], 0)).1.length ≤ 300) := fun j hj => by
            by_cases e : j = i
            · rw [e, hl3.out]; omega
            · exact hA.out j (by omega)
          clear hl3 hx hA
          go_wp2_with fail
          go_roundw
          case rel => exact ⟨i + 1, (by first | rfl | go_num), by omega, hA2, hB.out.alloc hB.out.size _⟩
          case measure => (simp [intOf]) <;> omega
      · have hlt2 : ¬ (i : Int) < (n : Int) := by omega
        obtain rfl : i = n := by omega
        have hR : Hid (false = V) := by show _ = _; rw [HV.out, farL_no (fun j hj => hA.out j (by rw [← hl.out]; exact hj))]
        clear hA
        go_wp2_with fail
        go_ret
        rw [← hR.out]
        exact ⟨rfl, hB.out⟩
set_option maxHeartbeats 1000000 in
set_option maxRecDepth 100000 in
theorem law_tree17 (w : World) (a : Option Addr) (n c : Nat) (l : PL) (h : Prs w a n c l) (hn : n ≤ 100000) (hs : PSrt l) (hk : ∀ x ∈ l, x.1.length ≤ 65535) :
    Calls Try.prog 50 #[.slice a n c, .int .u64 1] w fun e w' => ∃ (t : Tr) (a : Option Addr) (Q : List NP), e = .returned (.pointer a) ∧ StoreP NoB w w' Q ∧ TreeV Q t (.pointer a) ∧ TOk t ∧ Can t ∧ tl t = l := by
  have H := Lib.hid h
  have hl := Lib.hid h.len
  have hs := Lib.hid hs
  have hk := Lib.hid hk
  have h0 := Lib.hid (PLs.nil apT w)
  clear h
  go_enter Try.func50, Try.ntmps50
  go_wp2_with fail
  go_loopw [12, 5] (fun vi v3 wr => ∃ i : Nat, vi = .int .i64 (i : Nat) ∧ i ≤ n ∧ Hid (PLs apT w v3 (l.take i) wr)) (fun vi _ _ => (n - intOf vi).toNat)
  case atStart => exact ⟨0, rfl, by omega, h0⟩
  case round =>
    clear h0
    obtain ⟨i, rfl, hi, hP⟩ := hrel
    by_cases hlt : i < n
    · have hlt2 : (i : Int) < (n : Int) := by omega
      have hlt3 : i < l.length := by rw [hl.out]; exact hlt
      obtain ⟨p, a3, n3, c3, rfl, q1, q2, q3⟩ := prs_row H.out hlt
      have B := hP.out.below_
      have q1 := (B.cell (cell_lt q1)).trans q1
      have q2 := (B.cell (p := ⟨(p.add (i * 2)).block, (p.add (i * 2)).off + 1, none⟩) (cell_lt q2)).trans q2
      have hv := H.out.val (l.getD i ([], 0)) (mem_getD hlt3)
      have e1 : l.take i ++ [((l.getD i ([], 0)).1, (l.getD i ([], 0)).2)] = l.take (i + 1) := by rw [List.take_succ_eq_append_getElem hlt3, getD_of_lt]
      have e2 : (l.take i).length = i := by rw [List.length_take]; omega
      have hask := fun o1 o2 => hP.out.ask (y := (l.getD i ([], 0)).2) q3 hv 68 ((wr.alloc o1).alloc o2) (((Below.refl _ wr).alloc (Nat.le_refl _) _).alloc (by simp) _)
      rw [e1, e2] at hask
      generalize (l.getD i ([], 0)).2 = y at *
      obtain ⟨es, bo, ho, hfin⟩ := hask (.cells #[.slice a3 n3 c3, .int .u64 y] kpT) (.cells #[.slice a3 n3 c3, .int .u64 y] apT)
      have hfin := Lib.hid hfin
      have ho := Lib.hid ho
      have hnews := pair_news (wr.alloc (.cells #[.slice a3 n3 c3, .int .u64 y] kpT)) (.slice a3 n3 c3) y apT
      rw [World.size_alloc] at hnews
      have hnews := Lib.hid hnews
      have hb1 : Hid (i + 1 ≤ maxLen) := by show _ ≤ _; unfold maxLen; omega
      have hb2 : Hid ((i + 1) * 32 ≤ 140737488355328) := by show _ ≤ _; omega
      have h1 := Lib.hid (oneP (a := a3) (n := n3) (c := c3) (y := y))
      have hw9 : IntKind.i64.wrap (((i : Nat) : Int) + 1) = ((i + 1 : Nat) : Int) := by rw [show ((i : Nat) : Int) + 1 = ((i + 1 : Nat) : Int) by omega]; exact IntWalk.i64_in _ (by omega)
      clear q3 hv B e1 e2 hask
      go_wp2_with (at_builtin; go_loud (refine wpList_append_s rfl (.tmp 16) (.tmp 18) 68 rfl apT _ 2 32 Try.underlying68 apInfo rfl (by omega) u5 rfl i (flat es) bo ho.out ⟨wr.heap.size + 1, 0, none⟩ 1 1 [.slice a3 n3 c3, .int .u64 y] rfl rfl hnews.out h1.out hb1.out hb2.out ?_); intro v1 w1 bo1 HO HM HN)
      have hP2 := Lib.hid (hfin.out v1 w1 bo1 HO.out HM.out HN.out)
      go_roundw
      case rel => exact ⟨i + 1, (by first | rfl | go_num), by omega, hP2⟩
      case measure => (simp [intOf]) <;> omega
    · have hlt2 : ¬ (i : Int) < (n : Int) := by omega
      obtain rfl : i = n := by omega
      have hP2 := hP.out
      rw [List.take_of_length_le (by rw [hl.out]; exact Nat.le_refl _)] at hP2
      obtain ⟨a4, c4, e4, hq⟩ := hP2.prs
      have hBB := Lib.hid hP2.below_
      have hBld := Lib.hid (canon_build 1 (by omega) wr a4 l.length c4 l hq hs.out hk.out)
      obtain rfl := e4
      clear hP2 hq hP
      go_wp2_with (go_at_call 105; refine hBld.out.mono ?_; rintro e w2 ⟨t, a2, Q, rfl, q1, q2⟩; have q1 := Lib.hid q1; have q2 := Lib.hid q2)
      go_ret
      exact ⟨t, a2, Q, rfl, q1.out.rebase hBB.out, q2.out⟩

set_option maxHeartbeats 1000000 in
set_option maxRecDepth 100000 in
theorem law_tree32 (w : World) (a : Option Addr) (n c : Nat) (l : PL) (h : Prs w a n c l) (hn : n ≤ 100000) (hs : PSrt l) (hk : ∀ x ∈ l, x.1.length ≤ 65535) :
    Calls Try.prog 76 #[.slice a n c, .int .u64 1] w fun e w' => ∃ (t : Tr) (a : Option Addr) (Q : List NP), e = .returned (.pointer a) ∧ StoreP NoB w w' Q ∧ TreeV Q t (.pointer a) ∧ TOk t ∧ Can t ∧ tl t = l := by
  have H := Lib.hid h
  have hl := Lib.hid h.len
  have hs := Lib.hid hs
  have hk := Lib.hid hk
  have h0 := Lib.hid (PLs.nil apT w)
  clear h
  go_enter Try.func76, Try.ntmps76
  go_wp2_with fail
  go_loopw [12, 5] (fun vi v3 wr => ∃ i : Nat, vi = .int .i64 (i : Nat) ∧ i ≤ n ∧ Hid (PLs apT w v3 (l.take i) wr)) (fun vi _ _ => (n - intOf vi).toNat)
  case atStart => exact ⟨0, rfl, by omega, h0⟩
  case round =>
    clear h0
    obtain ⟨i, rfl, hi, hP⟩ := hrel
    by_cases hlt : i < n
    · have hlt2 : (i : Int) < (n : Int) := by omega
      have hlt3 : i < l.length := by rw [hl.out]; exact hlt
      obtain ⟨p, a3, n3, c3, rfl, q1, q2, q3⟩ := prs_row H.out hlt
      have B := hP.out.below_
      have q1 := (B.cell (cell_lt q1)).trans q1
      have q2 := (B.cell (p := ⟨(p.add (i * 2)).block, (p.add (i * 2)).off + 1, none⟩) (cell_lt q2)).trans q2
      have hv := H.out.val (l.getD i ([], 0)) (mem_getD hlt3)
      have e1 : l.take i ++ [((l.getD i ([], 0)).1, (l.getD i ([], 0)).2)] = l.take (i + 1) := by rw [List.take_succ_eq_append_getElem hlt3, getD_of_lt]
      have e2 : (l.take i).length = i := by rw [List.length_take]; omega
      have hask := fun o1 o2 => hP.out.ask (y := (l.getD i ([], 0)).2) q3 hv 68 ((wr.alloc o1).alloc o2) (((Below.refl _ wr).alloc (Nat.le_refl _) _).alloc (by simp) _)
      rw [e1, e2] at hask
      generalize (l.getD i ([], 0)).2 = y at *
      obtain ⟨es, bo, ho, hfin⟩ := hask (.cells #[.slice a3 n3 c3, .int .u64 y] kpT) (.cells #[.slice a3 n3 c3, .int .u64 y] apT)
      have hfin := Lib.hid hfin
      have ho := Lib.hid ho
      have hnews := pair_news (wr.alloc (.cells #[.slice a3 n3 c3, .int .u64 y] kpT)) (.slice a3 n3 c3) y apT
      rw [World.size_alloc] at hnews
      have hnews := Lib.hid hnews
      have hb1 : Hid (i + 1 ≤ maxLen) := by show _ ≤ _; unfold maxLen; omega
      have hb2 : Hid ((i + 1) * 32 ≤ 140737488355328) := by show _ ≤ _; omega
      have h1 := Lib.hid (oneP (a := a3) (n := n3) (c := c3) (y := y))
      have hw9 : IntKind.i64.wrap (((i : Nat) : Int) + 1) = ((i + 1 : Nat) : Int) := by rw [show ((i : Nat) : Int) + 1 = ((i + 1 : Nat) : Int) by omega]; exact IntWalk.i64_in _ (by omega)
      clear q3 hv B e1 e2 hask
      go_wp2_with (at_builtin; go_loud (refine wpList_append_s rfl (.tmp 16) (.tmp 18) 68 rfl apT _ 2 32 Try.underlying68 apInfo rfl (by omega) u5 rfl i (flat es) bo ho.out ⟨wr.heap.size + 1, 0, none⟩ 1 1 [.slice a3 n3 c3, .int .u64 y] rfl rfl hnews.out h1.out hb1.out hb2.out ?_); intro v1 w1 bo1 HO HM HN)
      have hP2 := Lib.hid (hfin.out v1 w1 bo1 HO.out HM.out HN.out)
      go_roundw
      case rel => exact ⟨i + 1, (by first | rfl | go_num), by omega, hP2⟩
      case measure => (simp [intOf]) <;> omega
    · have hlt2 : ¬ (i : Int) < (n : Int) := by omega
      obtain rfl : i = n := by omega
      have hP2 := hP.out
      rw [List.take_of_length_le (by rw [hl.out]; exact Nat.le_refl _)] at hP2
      obtain ⟨a4, c4, e4, hq⟩ := hP2.prs
      have hBB := Lib.hid hP2.below_
      have hBld := Lib.hid (canon_build 1 (by omega) wr a4 l.length c4 l hq hs.out hk.out)
      obtain rfl := e4
      clear hP2 hq hP
      go_wp2_with (go_at_call 105; refine hBld.out.mono ?_; rintro e w2 ⟨t, a2, Q, rfl, q1, q2⟩; have q1 := Lib.hid q1; have q2 := Lib.hid q2)
      go_ret
      exact ⟨t, a2, Q, rfl, q1.out.rebase hBB.out, q2.out⟩
end Go.Proofs.Ytkonbldjmcccmaa
/- How many bytes a canonical tree is at most. No program. -/
namespace Go.Proofs.Ytkonbldjmcccmaa
def wL (l : PL) : Nat := (l.map fun p => p.1.length + 46).sum
theorem wL_append (l m : PL) : wL (l ++ m) = wL l + wL m := by simp [wL]
theorem wL_pre (p : List Nat) (l : PL) : wL (pre p l) = wL l + p.length * l.length := by
  induction l with
  | nil => simp [wL]
  | cons x l ih =>
    have e : wL (pre p (x :: l)) = (p.length + x.1.length + 46) + wL (pre p l) := by simp [wL, pre]
    have e2 : wL (x :: l) = (x.1.length + 46) + wL l := by simp [wL]
    rw [e, e2, ih, List.length_cons, Nat.mul_succ]
    omega
theorem wL_le : ∀ {l : PL} {m : Nat}, (∀ p ∈ l, p.1.length ≤ m) → wL l ≤ l.length * (m + 46)
  | [], m, _ => by simp [wL]
  | x :: l, m, h => by
    have e2 : wL (x :: l) = (x.1.length + 46) + wL l := by simp [wL]
    have h1 := h x (by simp)
    have h2 := wL_le (l := l) (m := m) fun p hp => h p (by simp [hp])
    rw [e2, List.length_cons, Nat.succ_mul]
    omega
theorem layT_le : ∀ (t : Tr), TOk t → Can t → (∀ p ∈ tl t, p.1.length ≤ 65535) → (IsN t → (layT t).length + 23 ≤ wL (tl t)) ∧ (IsK t → (layT t).length + 23 * (chain t).length ≤ wL (tl t))
  | .nil, _, _, _ => ⟨fun h => h.elim, fun _ => by simp [layT, chain, wL, tl]⟩
  | .kid b t r, ⟨h1, h2, h3, h4, h5, h6⟩, ⟨c1, c2⟩, h => ⟨fun h => h.elim, fun _ => by
    have a1 := (layT_le t h3 c1 fun p hp => by
      have := h (b :: p.1, p.2) (List.mem_append.2 (Or.inl (List.mem_map.2 ⟨p, hp, rfl⟩)))
      rw [List.length_cons] at this; omega).1 h2
    have a2 := (layT_le r h5 c2 fun p hp => h p (List.mem_append.2 (Or.inr hp))).2 h4
    have hp : 0 < (tl t).length := List.length_pos_iff.2 (tl_ne t h2 h3 c1)
    have e : (layT (.kid b t r)).length = 1 + (layT t).length + (layT r).length := by simp [layT]; omega
    have e2 : wL (tl (.kid b t r)) = wL (tl t) + (tl t).length + wL (tl r) := by
      simp only [tl]
      rw [wL_append, wL_pre]
      simp
    have e3 : (chain (.kid b t r)).length = (chain r).length + 1 := by simp [chain]
    rw [e, e2, e3]
    omega⟩
  | .node bs v has leaf ks, ⟨h1, h2, h3, h4, h5, h6, h7⟩, ⟨c1, c2⟩, h => ⟨fun _ => by
    have hbs : bs.length ≤ 65535 := by
      obtain ⟨x, hx⟩ := List.exists_mem_of_ne_nil _ (tl_ne (.node bs v has leaf ks) trivial ⟨h1, h2, h3, h4, h5, h6, h7⟩ ⟨c1, c2⟩)
      have := h x hx
      have hp := tl_begins x hx
      have := hp.length_le
      omega
    have a := (layT_le ks h7 c1 fun p hp => by
      have := h (bs ++ p.1, p.2) (List.mem_append.2 (Or.inr (List.mem_map.2 ⟨p, hp, rfl⟩)))
      rw [List.length_append] at this
      omega).2 h6
    have n1 : (numL bs.length).length ≤ 10 := numL_ten (by omega)
    have n2 : (numL v.toNat).length ≤ 10 := numL_ten (by omega)
    have e2 : wL (tl (.node bs v has leaf ks)) = (if has then bs.length + 46 else 0) + (wL (tl ks) + bs.length * (tl ks).length) := by
      simp only [tl]
      rw [wL_append, wL_pre]
      cases has <;> simp [wL]
    cases leaf with
    | true =>
      obtain ⟨e, e'⟩ := h5 rfl
      subst e; subst e'
      have e : (layT (.node bs v true true .nil)).length = 1 + (numL bs.length).length + bs.length + (numL v.toNat).length := by simp [layT]; omega
      rw [e, e2]
      simp only [if_true]
      omega
    | false =>
      have hc := c2 rfl
      have e : (layT (.node bs v has false ks)).length = 1 + (numL bs.length).length + bs.length + (if has then (numL v.toNat).length else 0) + 1 + (layT ks).length := by
        cases has <;> simp [layT] <;> omega
      have hpos : 0 < (tl ks).length := by
        refine List.length_pos_iff.2 ?_
        cases ks with
        | nil => cases has <;> simp [chain] at hc
        | node => exact h6.elim
        | kid b x r =>
          have := tl_ne x h7.2.1 h7.2.2.1 c1.1
          simp only [tl]
          intro e
          obtain ⟨e1, _⟩ := List.append_eq_nil_iff.1 e
          exact this (List.map_eq_nil_iff.1 e1)
      have hm : bs.length ≤ bs.length * (tl ks).length := Nat.le_mul_of_pos_right _ hpos
      rw [e, e2]
      generalize bs.length * (tl ks).length = B at *
      cases has
      · simp only [Bool.false_eq_true, if_false] at *
        omega
      · simp only [if_true] at *
        omega, fun h => h.elim⟩
theorem layT_bound {t : Tr} (hN : t = .nil ∨ IsN t) (hO : TOk t) (hC : Can t) {m n : Nat} (hk : ∀ p ∈ tl t, p.1.length ≤ m) (hm : m ≤ 65535) (hn : (tl t).length ≤ n) : (layT t).length ≤ n * (m + 46) := by
  rcases hN with rfl | hN
  · simp [layT]
  · have h1 := (layT_le t hO hC fun p hp => Nat.le_trans (hk p hp) hm).1 hN
    have h2 := wL_le hk
    have h3 := Nat.mul_le_mul_right (m + 46) hn
    omega
end Go.Proofs.Ytkonbldjmcccmaa
