/- Slices of pairs that came in, or were made; whether they are too many or too long. -/
import Derived.Test.YthifjldmhfpkhaaTPlain
import Derived.Test.YthifjldmhfpkhaaNFrz
set_option linter.unusedVariables false
set_option linter.unusedSimpArgs false
namespace Go.Proofs.Ythifjldmhfpkhaa
open Go.RowKit
/-- a slice of bytes, with what is known of its room -/
structure Sl (w : World) (a : Option Addr) (n c : Nat) (bs : List Nat) : Prop where
  len : bs.length = n
  at_ : BytesAt w a bs
  cap : n ≤ c
  capm : c ≤ maxLen
  nil : a = none → n = 0 ∧ c = 0
section
variable {w w' : World} {a : Option Addr} {n c : Nat} {bs : List Nat}
theorem Sl.below (h : Sl w a n c bs) (hb : Below w.heap.size w w') : Sl w' a n c bs := ⟨h.len, h.at_.below hb, h.cap, h.capm, h.nil⟩
theorem Sl.drewN (h : Sl w a n c bs) (k : Nat) : Sl (w.drewN k) a n c bs := ⟨h.len, h.at_.drewN k, h.cap, h.capm, h.nil⟩
theorem sl_nil (w : World) : Sl w none 0 0 [] := ⟨rfl, ⟨by simp, fun i hi => by simp at hi⟩, Nat.le_refl _, Nat.zero_le _, fun _ => ⟨rfl, rfl⟩⟩
end
/-- a pair at a place -/
def PrC (w : World) (p : Addr) (i : Nat) (x : List Nat × Int) : Prop :=
  (p.add (i * 2)).block < w.heap.size ∧ ∃ a n c, w.cell? (p.add (i * 2)) = some (.slice a n c) ∧ w.cell? ⟨(p.add (i * 2)).block, (p.add (i * 2)).off + 1, none⟩ = some (.int .u64 x.2) ∧ Sl w a n c x.1
/-- a slice of pairs -/
structure Prs (w : World) (a : Option Addr) (n c : Nat) (l : PL) : Prop where
  len : l.length = n
  cap : n ≤ c
  capm : c ≤ maxLen
  nil : a = none → n = 0 ∧ c = 0
  val : ∀ x ∈ l, 0 ≤ x.2 ∧ x.2 < 18446744073709551616
  at_ : ∀ i, i < l.length → ∃ p, a = some p ∧ PrC w p i (l.getD i ([], 0))
theorem add_block (a : Addr) (n : Nat) : (a.add n).block = a.block := by unfold Addr.add; split <;> rfl
section
variable {w w' : World} {a : Option Addr} {n c i : Nat} {l : PL} {p : Addr} {x : List Nat × Int}
theorem PrC.below (h : PrC w p i x) (hb : Below w.heap.size w w') : PrC w' p i x := by
  obtain ⟨h0, a, n, c, h1, h2, h3⟩ := h
  refine ⟨Nat.lt_of_lt_of_le h0 hb.size, a, n, c, (hb.cell h0).trans h1, (hb.cell (p := ⟨(p.add (i * 2)).block, _, none⟩) h0).trans h2, h3.below hb⟩
theorem Prs.below (h : Prs w a n c l) (hb : Below w.heap.size w w') : Prs w' a n c l :=
  ⟨h.len, h.cap, h.capm, h.nil, h.val, fun i hi => by obtain ⟨p, e, q⟩ := h.at_ i hi; exact ⟨p, e, q.below hb⟩⟩
theorem Prs.drewN (h : Prs w a n c l) (k : Nat) : Prs (w.drewN k) a n c l := h.below (below_drewN (Below.refl _ w) k)
theorem Prs.alloc (h : Prs w a n c l) (o : Obj) : Prs (w.alloc o) a n c l := h.below ((Below.refl _ w).alloc (Nat.le_refl _) o)
theorem prs_nil (w : World) : Prs w none 0 0 [] := ⟨rfl, Nat.le_refl _, Nat.zero_le _, fun _ => ⟨rfl, rfl⟩, by simp, fun i hi => by simp at hi⟩
end
theorem PrC.cells {w : World} {p : Addr} {i : Nat} {x : List Nat × Int} (h : PrC w p i x) : ∃ a n c, w.cell? (p.add (i * 2)) = some (.slice a n c) ∧ w.cell? ⟨(p.add (i * 2)).block, (p.add (i * 2)).off + 1, none⟩ = some (.int .u64 x.2) ∧ Sl w a n c x.1 := h.2
def farL (m : Nat) (l : PL) : Bool := l.any fun x => decide (m < x.1.length)
theorem farL_at {m : Nat} {l : PL} {i : Nat} (hi : i < l.length) (h : m < (l.getD i ([], 0)).1.length) : farL m l = true := by
  unfold farL
  rw [List.any_eq_true]
  refine ⟨l.getD i ([], 0), ?_, by simpa using h⟩
  rw [List.getD, List.getElem?_eq_getElem hi]
  exact List.getElem_mem _
theorem farL_no {m : Nat} {l : PL} (h : ∀ i, i < l.length → (l.getD i ([], 0)).1.length ≤ m) : farL m l = false := by
  unfold farL
  rw [List.any_eq_false]
  intro x hx
  obtain ⟨i, hi, rfl⟩ := List.getElem_of_mem hx
  have := h i hi
  rw [List.getD, List.getElem?_eq_getElem hi] at this
  simp at this ⊢
  omega
def farPost (b : Bool) (w : World) (e : Ending) (w' : World) : Prop := e = .returned (.bool b) ∧ Below w.heap.size w w'
set_option maxHeartbeats 1000000 in
theorem far_any (w : World) (a : Option Addr) (n c : Nat) (l : PL) (h : Prs w a n c l) (a2 : Option Addr) (n2 c2 : Nat) : Calls Try.prog 48 #[.slice a n c, .slice a2 n2 c2] w (farPost (decide (300 < n) || decide (600 < n2) || farL 300 l) w) := by
  have hB0 : Hid (Below w.heap.size w w) := Below.refl _ _
  by_cases h1 : 300 < n
  · have e : (decide (300 < n) || decide (600 < n2) || farL 300 l) = true := by simp [h1]
    have h2 : (300 : Int) < (n : Int) := by omega
    rw [e]
    clear h e
    go_enter Try.func48, Try.ntmps48
    go_wp2_with fail
    go_ret
    exact ⟨rfl, hB0.out⟩
  · have h2 : ¬ (300 : Int) < (n : Int) := by omega
    by_cases h3 : 600 < n2
    · have e : (decide (300 < n) || decide (600 < n2) || farL 300 l) = true := by simp [h3]
      have h4 : (600 : Int) < (n2 : Int) := by omega
      rw [e]
      clear h e
      go_enter Try.func48, Try.ntmps48
      go_wp2_with fail
      go_ret
      exact ⟨rfl, hB0.out⟩
    · have h4 : ¬ (600 : Int) < (n2 : Int) := by omega
      have e : (decide (300 < n) || decide (600 < n2) || farL 300 l) = farL 300 l := by simp [h1, h3]
      rw [e]
      have H := Lib.hid h
      obtain ⟨V, hV⟩ : ∃ V, V = farL 300 l := ⟨_, rfl⟩
      have HV := Lib.hid hV
      have hl := Lib.hid h.len
      have hn : n ≤ 300 := by omega
      rw [← hV]
      clear h e hV h1 h3
      go_enter Try.func48, Try.ntmps48
      go_wp2_with fail
      go_loopw [17] (fun vi wr => ∃ i : Nat, vi = .int .i64 (i : Nat) ∧ i ≤ n ∧ Hid (∀ j, j < i → (l.getD j ([], 0)).1.length ≤ 300) ∧ Hid (Below w.heap.size w wr)) (fun vi _ => (n - intOf vi).toNat)
      case atStart => exact ⟨0, rfl, by omega, fun j hj => absurd hj (by omega), hB0⟩
      case round =>
        clear hB0
        obtain ⟨i, rfl, hi, hA, hB⟩ := hrel
        by_cases hlt : i < n
        · have hlt2 : (i : Int) < (n : Int) := by omega
          obtain ⟨p, rfl, q⟩ := (H.out.below hB.out).at_ i (by rw [hl.out]; exact hlt)
          obtain ⟨a3, n3, c3, q1, q2, q3⟩ := q.cells
          have hl3 := Lib.hid q3.len
          generalize (l.getD i ([], 0)).2 = v at *
          clear q q3
          by_cases hx : 300 < n3
          · have hx2 : (300 : Int) < (n3 : Int) := by omega
            have hR : Hid (true = V) := by show _ = _; rw [HV.out, farL_at (i := i) (by rw [hl.out]; exact hlt) (by rw [hl3.out]; exact hx)]
            clear hl3 hx
            go_wp2_with fail
            go_ret
            rw [← hR.out]
            exact ⟨rfl, (hB.out.alloc hB.out.size _)⟩
          · have hx2 : ¬ (300 : Int) < (n3 : Int) := by omega
            have hA2 : Hid (∀ j, j < i + 1 → (l.getD j ([], 0)).1.length ≤ 300) := fun j hj => by
              by_cases e : j = i
              · rw [e, hl3.out]; omega
              · exact hA.out j (by omega)
            clear hl3 hx hA
            go_wp2_with fail
            go_roundw
            case rel => exact ⟨i + 1, (by first | rfl | go_num), by omega, hA2, hB.out.alloc hB.out.size _⟩
            case measure => (simp [intOf]) <;> omega
        · have hlt2 : ¬ (i : Int) < (n : Int) := by omega
          obtain rfl : i = n := by omega
          have hR : Hid (false = V) := by show _ = _; rw [HV.out, farL_no (fun j hj => hA.out j (by rw [← hl.out]; exact hj))]
          clear hA
          go_wp2_with fail
          go_ret
          rw [← hR.out]
          exact ⟨rfl, hB.out⟩
end Go.Proofs.Ythifjldmhfpkhaa
