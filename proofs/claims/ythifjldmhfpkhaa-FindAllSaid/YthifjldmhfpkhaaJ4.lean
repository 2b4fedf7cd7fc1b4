/- The law FindGets. -/
import Derived.Test.YthifjldmhfpkhaaJ3
set_option linter.unusedVariables false
set_option linter.unusedSimpArgs false
/- The law FindGets. -/
namespace Go.Proofs.Ythifjldmhfpkhaa
open Go.RowKit
/-- what a law of 14 finds -/
def truePost (w : World) (e : Ending) (w' : World) : Prop := e = .returned (.bool true) ∧ Below w.heap.size w w'
theorem far_no {n n2 : Nat} {l : PL} (h : (decide (300 < n) || decide (600 < n2) || farL 300 l) = false) : n ≤ 300 ∧ n2 ≤ 600 ∧ ∀ x ∈ l, x.1.length ≤ 300 := by
  simp only [Bool.or_eq_false_iff, decide_eq_false_iff_not] at h
  refine ⟨by omega, by omega, fun x hx => ?_⟩
  have := h.2
  unfold farL at this
  rw [List.any_eq_false] at this
  have := this x hx
  simp at this
  exact this
theorem SrtI.short {l l0 : PL} {i m : Nat} (h : SrtI l i l0) (hk : ∀ x ∈ l, x.1.length ≤ m) : ∀ x ∈ l0, x.1.length ≤ m := fun x hx => by
  obtain ⟨z, hz, e⟩ := h.keys x hx
  rw [← e]; exact hk z hz
/-- sorted pairs, and their tree -/
theorem sort_says {w : World} {a : Option Addr} {n c : Nat} {l : PL} (h : Prs w a n c l) (hn : n ≤ 300) (hk : ∀ x ∈ l, x.1.length ≤ 300) : Calls Try.prog 50 #[.slice a n c] w fun e w1 => ∃ a1 m c1 l0, e = .returned (.slice a1 m c1) ∧ Prs w1 a1 m c1 l0 ∧ m ≤ n ∧ PSrt l0 ∧ Below w.heap.size w w1 ∧ Calls Try.prog 51 #[.slice a1 m c1] w1 (saysPost l0 w1) := by
  refine (ref_sort w a n c l h (by omega)).mono ?_
  rintro e w1 ⟨v, l0, rfl, hP, hS⟩
  obtain ⟨a1, c1, rfl, hp⟩ := hP.prs
  have hl : l0.length ≤ n := by have := hS.len; rw [h.len] at this; exact this
  exact ⟨a1, l0.length, c1, l0, rfl, hp, hl, hS.srt, hP.below_, law_tree_says w1 a1 l0.length c1 l0 hp (by omega) hS.srt (fun x hx => by have := hS.short hk x hx; omega)⟩
/-- a pair in a cell of its own -/
structure PairC (w0 w : World) (b : Nat) (x : List Nat) (a : Option Addr) (n c : Nat) (y : Int) : Prop where
  k : ∀ w', Below w.heap.size w w' → w'.cell? ⟨b, 0, none⟩ = some (.slice a n c) ∧ w'.cell? ⟨b, 1, none⟩ = some (.int .u64 y) ∧ Sl w' a n c x
theorem PairC.new {w0 w : World} {a : Option Addr} {n c : Nat} {x : List Nat} {y : Int} (t : TypeId) (h : Sl w a n c x) : PairC w0 (w.alloc (.cells #[.slice a n c, .int .u64 y] t)) w.heap.size x a n c y := ⟨fun w' hb => by
  have hk : (w.alloc (.cells #[.slice a n c, .int .u64 y] t)).heap[w.heap.size]? = some (.cells [.slice a n c, .int .u64 y].toArray t (0, 0)) := heap_alloc_new w _
  have hk' := (hb.block w.heap.size (by simp)).trans hk
  exact ⟨by rw [cell_of_blk hk']; rfl, by rw [cell_of_blk hk']; rfl, (h.below ((Below.refl _ w).alloc (Nat.le_refl _) _)).below hb⟩⟩
/-- what both sides answer, in every later world -/
structure Asks (w : World) (v : Option Addr) (a : Option Addr) (n c : Nat) (ka : Option Addr) (kn kc : Nat) (r0 : Int) (r1 : Bool) (x : List Nat) (y : Int) (z : Bool) (B : PL) : Prop where
  get : ∀ w', Below w.heap.size w w' → Calls Try.prog 52 #[.pointer v, .slice ka kn kc] w' (belowPost (.tuple #[.int .u64 r0, .bool r1]) w')
  dget : ∀ w', Below w.heap.size w w' → Calls Try.prog 53 #[.slice a n c, .slice ka kn kc] w' (belowPost (.tuple #[.int .u64 r0, .bool r1]) w')
  has : ∀ w', Below w.heap.size w w' → Calls Try.prog 58 #[.pointer v, .slice ka kn kc] w' (belowPost (.bool r1) w')
  long : ∀ w', Below w.heap.size w w' → Calls Try.prog 54 #[.pointer v, .slice ka kn kc] w' (pairPost x y z w')
  dlong : ∀ w', Below w.heap.size w w' → Calls Try.prog 55 #[.slice a n c, .slice ka kn kc] w' (pairPost x y z w')
  begs : ∀ w', Below w.heap.size w w' → Calls Try.prog 56 #[.pointer v, .slice ka kn kc] w' (prsPost B w')
  dbegs : ∀ w', Below w.heap.size w w' → Calls Try.prog 57 #[.slice a n c, .slice ka kn kc] w' (prsPost B w')
theorem asks_of {w0 w : World} {v a : Option Addr} {n c : Nat} {l : PL} {ka : Option Addr} {kn kc : Nat} {k : List Nat} (hS : Says w0 w v l) (hP : Prs w a n c l) (hK : Sl w ka kn kc k) (hn : n ≤ 300) (hk : kn ≤ 600) : ∃ r0 r1 x y z B, B.length ≤ 300 ∧ Asks w v a n c ka kn kc r0 r1 x y z B :=
  ⟨_, _, _, _, _, begF k l, by have := List.length_filter_le (fun p : List Nat × Int => decide (p.1 <+: k)) l; rw [hP.len] at this; unfold begF; omega,
    { get := fun w' hb => hS.get w' hb _ _ _ k (hK.below hb) (by omega)
      dget := fun w' hb => (doc_get w' a n c l (hP.below hb) (by omega) (hK.below hb)).mono fun e w2 ⟨h1, q, h2⟩ => ⟨h1, by rw [h2]; exact below_drewN (Below.refl _ _) q⟩
      has := fun w' hb => hS.has w' hb _ _ _ k (hK.below hb) (by omega)
      long := fun w' hb => hS.longest w' hb _ _ _ k (hK.below hb) (by omega)
      dlong := fun w' hb => doc_longest w' a n c l (hP.below hb) (by omega) (hK.below hb)
      begs := fun w' hb => hS.begs w' hb _ _ _ k (hK.below hb) (by omega)
      dbegs := fun w' hb => (doc_beginnings w' a n c l (hP.below hb) (by omega) (hK.below hb)).mono fun e w2 ⟨v, h1, h2⟩ => by
        obtain ⟨b, d, rfl, h3⟩ := h2.prs
        exact ⟨b, d, h1, h3, h2.below_⟩ }⟩
theorem same_true {w : World} {a b : Option Addr} {n c m d : Nat} {s : List Nat} (h : Sl w a n c s) (k : Sl w b m d s) : Calls Try.prog 42 #[.slice a n c, .slice b m d] w (belowPost (.bool true) w) := by
  have := quiet_same h k 0
  rw [decide_eq_true rfl] at this
  exact this.mono fun e w2 ⟨h1, q, h2⟩ => ⟨h1, by rw [h2]; exact below_drewN (Below.refl _ _) _⟩
/-- two pairs at one place of two slices -/
theorem rows_two {w wr : World} {a b : Option Addr} {n c d : Nat} {B : PL} (hA : Prs w a n c B) (hB : Prs w b n d B) (hb : Below w.heap.size w wr) {i : Nat} (hi : i < n) : ∃ p q a3 n3 c3 a4 n4 c4 y, a = some p ∧ b = some q ∧ wr.cell? (p.add (i * 2)) = some (.slice a3 n3 c3) ∧ wr.cell? ⟨(p.add (i * 2)).block, (p.add (i * 2)).off + 1, none⟩ = some (.int .u64 y) ∧ wr.cell? (q.add (i * 2)) = some (.slice a4 n4 c4) ∧ wr.cell? ⟨(q.add (i * 2)).block, (q.add (i * 2)).off + 1, none⟩ = some (.int .u64 y) ∧
    ∀ q, Calls Try.prog 42 #[.slice a3 n3 c3, .slice a4 n4 c4] (wr.drewN q) fun e w' => e = .returned (.bool true) ∧ ∃ p, w' = (wr.drewN q).drewN p := by
  obtain ⟨p, a3, n3, c3, e1, q1, q2, q3⟩ := prs_row (hA.below hb) hi
  obtain ⟨q, a4, n4, c4, e2, q4, q5, q6⟩ := prs_row (hB.below hb) hi
  exact ⟨p, q, a3, n3, c3, a4, n4, c4, _, e1, e2, q1, q2, q4, q5, fun j => by have := quiet_same q3 q6 j; rw [decide_eq_true rfl] at this; exact this⟩
set_option maxHeartbeats 4000000 in
set_option maxRecDepth 100000 in
theorem FindGets_any (w : World) (a : Option Addr) (n c : Nat) (l : PL) (h : Prs w a n c l) (ka : Option Addr) (kn kc : Nat) (k : List Nat) (hK : Sl w ka kn kc k) : Calls Try.prog 9 #[.slice a n c, .slice ka kn kc] w (truePost w) := by
  have hF := Lib.hid (far_any w a n c l h ka kn kc)
  have hal := Lib.hid (fun w => aliveF_any w)
  cases hb : (decide (300 < n) || decide (600 < kn) || farL 300 l) with
  | true =>
    rw [hb] at hF
    clear h hK hb
    go_enter Try.func9, Try.ntmps9
    go_wp2_with (first
      | (go_at_call 48; refine hF.out.mono ?_; rintro e w1 ⟨rfl, z1⟩; have B1 := Lib.hid z1; clear z1)
      | (go_at_call 49; refine (hal.out _).mono ?_; rintro e w2 ⟨rfl, z1⟩; have B2 := Lib.hid (B1.out.trans (z1.mono B1.out.size)); clear z1))
    go_ret
    exact ⟨rfl, B2.out⟩
  | false =>
    obtain ⟨h1, h2, h3⟩ := far_no hb
    rw [hb] at hF
    have HK := Lib.hid hK
    have hso := Lib.hid (fun w1 (b1 : Below w.heap.size w w1) => sort_says (h.below b1) h1 h3)
    clear h hK hb h3
    go_enter Try.func9, Try.ntmps9
    go_wp2_with (first
      | (go_at_call 58; refine (hX.out.has _ B9.out).mono ?_; rintro e w10 ⟨rfl, z1⟩
         have B10 := Lib.hid (B9.out.trans (z1.mono B9.out.size))
         have BA := Lib.hid (Below.refl w10.heap.size w10)
         obtain ⟨x1, x2, x3⟩ := hp.out w10 (D9.out.trans (z1.mono D9.out.size))
         obtain ⟨x4, x5, x6⟩ := hq.out w10 (E9.out.trans (z1.mono E9.out.size))
         have hsm := Lib.hid (same_true x3 x6)
         have hA := Lib.hid (hA9.out.below z1)
         have hB := Lib.hid (hB9.out.below z1)
         clear z1 x3 x6 hA9 hB9 D9 E9)
      | (go_at_call 57; refine (hX.out.dbegs _ B8.out).mono ?_; rintro e w9 ⟨a9, c9, rfl, z1, z2⟩; have hB9 := Lib.hid z1; have B9 := Lib.hid (B8.out.trans (z2.mono B8.out.size)); have hA9 := Lib.hid (hA.out.below z2); have E9 := Lib.hid (E8.out.trans (z2.mono E8.out.size)); have D9 := Lib.hid (D8.out.trans (z2.mono D8.out.size)); clear z1 z2 hA D8 E8)
      | (go_at_call 56; refine (hX.out.begs _ B7.out).mono ?_; rintro e w8 ⟨a8, c8, rfl, z1, z2⟩; have hA := Lib.hid z1; have B8 := Lib.hid (B7.out.trans (z2.mono B7.out.size)); have E8 := Lib.hid z2; have D8 := Lib.hid (D7.out.trans (z2.mono D7.out.size)); clear z1 z2 D7)
      | (go_at_call 55; refine (hX.out.dlong _ B6.out).mono ?_; rintro e w7 ⟨a7, n7, c7, rfl, z1, z2⟩
         have hq := Lib.hid (PairC.new (w0 := w7) (y := y) kpT z1).k
         have B7 : Hid (Below w3.heap.size w3 (w7.alloc (.cells #[.slice a7 n7 c7, .int .u64 y] kpT))) := (B6.out.trans (z2.mono B6.out.size)).alloc (B6.out.trans (z2.mono B6.out.size)).size _
         have D7 : Hid (Below (w6.alloc (.cells #[.slice a6 n6 c6, .int .u64 y] apT)).heap.size (w6.alloc (.cells #[.slice a6 n6 c6, .int .u64 y] apT)) (w7.alloc (.cells #[.slice a7 n7 c7, .int .u64 y] kpT))) := z2.alloc z2.size _
         clear z1 z2)
      | (go_at_call 54; refine (hX.out.long _ B5.out).mono ?_; rintro e w6 ⟨a6, n6, c6, rfl, z1, z2⟩
         have hp := Lib.hid (PairC.new (w0 := w6) (y := y) apT z1).k
         have B6 : Hid (Below w3.heap.size w3 (w6.alloc (.cells #[.slice a6 n6 c6, .int .u64 y] apT))) := (B5.out.trans (z2.mono B5.out.size)).alloc (B5.out.trans (z2.mono B5.out.size)).size _
         clear z1 z2)
      | (go_at_call 53; refine (hX.out.dget w4 B4.out).mono ?_; rintro e w5 ⟨rfl, z1⟩; have B5 := Lib.hid (B4.out.trans (z1.mono B4.out.size)); clear z1)
      | (go_at_call 52; refine (hX.out.get w3 (Below.refl _ _)).mono ?_; rintro e w4 ⟨rfl, z1⟩; have B4 := Lib.hid z1; clear z1)
      | (go_at_call 51; refine hT.out.mono ?_; rintro e w3 ⟨at_, rfl, z1⟩
         have BX := Lib.hid (B2.out.trans (z1.below.mono B2.out.size))
         obtain ⟨r0, r1, x, y, z, B, hBl, hX0⟩ := asks_of z1 (hP.out.below z1.below) (HK.out.below BX.out) (by omega) h2
         have hX := Lib.hid hX0
         clear z1 hP hT hX0)
      | (go_at_call 50; refine (hso.out _ B1.out).mono ?_; rintro e w2 ⟨a2, m, c2, l0, rfl, z1, z2, z3, z4, z5⟩; have hP := Lib.hid z1; have hm := z2; have B2 := Lib.hid (B1.out.trans (z4.mono B1.out.size)); have hT := Lib.hid z5; clear z1 z2 z3 z4 z5)
      | (go_at_call 48; refine hF.out.mono ?_; rintro e w1 ⟨rfl, z1⟩; have B1 := Lib.hid z1; clear z1)
      | (go_at_call 42; refine hsm.out.mono ?_; rintro e w11 ⟨rfl, z1⟩
         have BB := Lib.hid (BX.out.trans ((B10.out.trans (z1.mono B10.out.size)).mono BX.out.size))
         have hA := Lib.hid (hA.out.below z1)
         have hB := Lib.hid (hB.out.below z1)
         clear z1 hsm x1 x2 x4 x5 B10 BA hp hq hX B4 B5 B6 B7 B8 B9 BX))
    have hw0 := Lib.hid (Below.refl w11.heap.size w11)
    generalize hM : List.length B = M at *
    clear hM
    go_loopw [99] (fun vi wr => ∃ i : Nat, vi = .int .i64 (i : Nat) ∧ i ≤ M ∧ Hid (Below w11.heap.size w11 wr)) (fun vi _ => (M - intOf vi).toNat)
    case atStart => exact ⟨0, rfl, by omega, hw0⟩
    case round =>
      clear hw0
      obtain ⟨i, rfl, hi, hR⟩ := hrel
      by_cases hlt : i < M
      · have hlt2 : (i : Int) < (M : Int) := by omega
        have hlt0 : (0 : Int) ≤ (i : Int) := by omega
        obtain ⟨p, q, a3, n3, c3, a4, n4, c4, y2, rfl, rfl, q1, q2, q3, q4, q5⟩ := rows_two hA.out hB.out hR.out hlt
        have hC := Lib.hid q5
        have hw9 : IntKind.i64.wrap (((i : Nat) : Int) + 1) = ((i + 1 : Nat) : Int) := by rw [show ((i : Nat) : Int) + 1 = ((i + 1 : Nat) : Int) by omega]; exact IntWalk.i64_in _ (by omega)
        clear q5
        go_wp2_with fail
        go_quiet ((go_at_call 42; exact Calls.quiet_of (hC.out _)))
        have hR2 : Hid (Below w11.heap.size w11 (wr.drewN nq)) := hR.out.trans (below_drewN (Below.refl _ _) nq)
        go_wp2_with fail
        go_roundw
        case rel => exact ⟨i + 1, (by first | rfl | go_num), by omega, hR2⟩
        case measure => (simp [intOf]) <;> omega
      · have hlt2 : ¬ (i : Int) < (M : Int) := by omega
        obtain rfl : i = M := by omega
        have hAl := Lib.hid (hal.out wr)
        go_wp2_with (go_at_call 49; refine hAl.out.mono ?_; rintro e w12 ⟨rfl, z1⟩; have BZ := Lib.hid (BB.out.trans ((hR.out.trans (z1.mono hR.out.size)).mono BB.out.size)); clear z1)
        go_ret
        exact ⟨rfl, BZ.out⟩
end Go.Proofs.Ythifjldmhfpkhaa
