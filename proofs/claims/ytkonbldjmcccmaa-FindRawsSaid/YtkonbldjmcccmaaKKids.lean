/- Kids: what they are in memory; the calls that only read. -/
import Derived.Test.YtkonbldjmcccmaaKBoardC
set_option linter.unusedVariables false
set_option linter.unusedSimpArgs false
namespace Go.Proofs.Ytkonbldjmcccmaa
open Go.RowKit
theorem RowAt.lt {w : World} {ty r rm : Nat} {l : KV} (h : RowAt ty w r rm l) : r < w.heap.size := by obtain ⟨B, X, h⟩ := h; exact h.lt
theorem BdAt.keep {w w' : World} {ty tx tf r rm : Nat} {l : KV} {S : Nat → Prop} (h : BdAt ty tx tf w r rm l S) (hk : ∀ j, S j → w'.heap[j]? = w.heap[j]?) : BdAt ty tx tf w' r rm l S := by
  obtain ⟨p, vx, xs, bx, vf, fs, bf, h, rfl⟩ := h
  exact ⟨p, vx, xs, bx, vf, fs, bf, h.keep hk, rfl⟩
theorem BdAt.lt {w : World} {ty tx tf r rm : Nat} {l : KV} {S : Nat → Prop} (h : BdAt ty tx tf w r rm l S) : ∀ j, S j → j < w.heap.size := by
  obtain ⟨p, vx, xs, bx, vf, fs, bf, h, rfl⟩ := h
  intro j hj
  rcases hj with rfl | hj | hj
  · exact h.lt
  · have := h.ownX; rw [hj] at this; exact this.lt
  · have := h.ownF; rw [hj] at this; exact this.lt
theorem BdAt.self {w : World} {ty tx tf r rm : Nat} {l : KV} {S : Nat → Prop} (h : BdAt ty tx tf w r rm l S) : S r := by
  obtain ⟨p, vx, xs, bx, vf, fs, bf, h, rfl⟩ := h
  exact Or.inl rfl
theorem cells2 {w : World} {k : Nat} {a b : Value} {t : Nat} (h : w.heap[k]? = some (.cells #[a, b] t (0, 0))) : w.cell? ⟨k, 0, none⟩ = some a ∧ w.cell? ⟨k, 1, none⟩ = some b := by
  constructor <;> simp [World.cell?, h]
namespace I
abbrev kdT : Nat := 147
/-- kids at block k: few in a row, many on a board -/
def KdAt (w : World) (k rm : Nat) (l : KV) (S : Nat → Prop) : Prop :=
  (∃ r, w.heap[k]? = some (.cells #[.pointer (some ⟨r, 0, none⟩), .pointer none] kdT (0, 0)) ∧ RowAt rowT w r rm l ∧ r ≠ k ∧ S = fun j => j = k ∨ j = r) ∨
  (∃ r S', w.heap[k]? = some (.cells #[.pointer none, .pointer (some ⟨r, 0, none⟩)] kdT (0, 0)) ∧ BdAt bdT elT u16T w r rm l S' ∧ ¬ S' k ∧ S = fun j => j = k ∨ S' j)
def Vals (l : KV) : Prop := ∀ p ∈ l, ∃ v : Int, p.2 = .int .i64 v
variable {w : World} {k rm : Nat} {l : KV} {S : Nat → Prop}
theorem KdAt.self (h : KdAt w k rm l S) : S k := by
  rcases h with ⟨r, _, _, _, rfl⟩ | ⟨r, S', _, _, _, rfl⟩ <;> exact Or.inl rfl
theorem KdAt.lt (h : KdAt w k rm l S) : ∀ j, S j → j < w.heap.size := by
  rcases h with ⟨r, hb, hr, hne, rfl⟩ | ⟨r, S', hb, hr, hne, rfl⟩
  · rintro j (rfl | rfl)
    · exact (Array.getElem?_eq_some_iff.1 hb).1
    · exact hr.lt
  · rintro j (rfl | hj)
    · exact (Array.getElem?_eq_some_iff.1 hb).1
    · exact hr.lt j hj
theorem KdAt.keep {w' : World} (h : KdAt w k rm l S) (hk : ∀ j, S j → w'.heap[j]? = w.heap[j]?) : KdAt w' k rm l S := by
  rcases h with ⟨r, hb, hr, hne, rfl⟩ | ⟨r, S', hb, hr, hne, rfl⟩
  · exact Or.inl ⟨r, (hk k (Or.inl rfl)).trans hb, hr.keep (hk r (Or.inr rfl)), hne, rfl⟩
  · exact Or.inr ⟨r, S', (hk k (Or.inl rfl)).trans hb, hr.keep fun j hj => hk j (Or.inr hj), hne, rfl⟩
theorem KdAt.below {w' : World} (h : KdAt w k rm l S) (hb : Below w.heap.size w w') : KdAt w' k rm l S := h.keep fun j hj => hb.block j (h.lt j hj)
theorem KdAt.drewN (h : KdAt w k rm l S) (n : Nat) : KdAt (w.drewN n) k rm l S := h.keep fun _ _ => rfl
theorem KdAt.srt (h : KdAt w k rm l S) : Srt l ∧ Low l ∧ l.length ≤ rm := by
  rcases h with ⟨r, hb, ⟨B, X, hr⟩, hne, rfl⟩ | ⟨r, S', hb, ⟨p, vx, xs, bx, vf, fs, bf, hr, rfl⟩, hne, rfl⟩
  · exact ⟨hr.srt, hr.low, hr.le⟩
  · exact ⟨hr.pl.srt, hr.pl.low, hr.pl.le⟩
theorem kok_nil (w : World) : Calls Try.prog 133 #[.pointer none] w fun e w' => e = .returned (.bool false) ∧ w = w' := by
  go_enter Try.func133, Try.ntmps133
  go_wp2_with fail
  go_ret
  exact ⟨rfl, rfl⟩
theorem kok_bare (w : World) (k o : Nat) (h0 : w.cell? ⟨k, o, none⟩ = some (.pointer none)) (h1 : w.cell? ⟨k, o + 1, none⟩ = some (.pointer none)) : Calls Try.prog 133 #[.pointer (some ⟨k, o, none⟩)] w fun e w' => e = .returned (.bool false) ∧ w = w' := by
  go_enter Try.func133, Try.ntmps133
  go_wp2_with fail
  go_ret
  exact ⟨rfl, rfl⟩
theorem kok_row (w : World) (k : Nat) (a : Addr) (h0 : w.cell? ⟨k, 0, none⟩ = some (.pointer (some a))) : Calls Try.prog 133 #[.pointer (some ⟨k, 0, none⟩)] w fun e w' => e = .returned (.bool true) ∧ w = w' := by
  go_enter Try.func133, Try.ntmps133
  go_wp2_with fail
  go_ret
  exact ⟨rfl, rfl⟩
theorem kok_board (w : World) (k : Nat) (a : Addr) (h0 : w.cell? ⟨k, 0, none⟩ = some (.pointer none)) (h1 : w.cell? ⟨k, 1, none⟩ = some (.pointer (some a))) : Calls Try.prog 133 #[.pointer (some ⟨k, 0, none⟩)] w fun e w' => e = .returned (.bool true) ∧ w = w' := by
  go_enter Try.func133, Try.ntmps133
  go_wp2_with fail
  go_ret
  exact ⟨rfl, rfl⟩
theorem kd_len (h : KdAt w k rm l S) : Calls Try.prog 86 #[.pointer (some ⟨k, 0, none⟩)] w fun e w' => e = .returned (.int .i64 l.length) ∧ w = w' := by
  rcases h with ⟨r, hb, ⟨B, X, hr⟩, hne, rfl⟩ | ⟨r, S', hb, ⟨p, vx, xs, bx, vf, fs, bf, hr, rfl⟩, hne, rfl⟩
  · obtain ⟨c0, c1⟩ := cells2 hb
    have hx := Lib.hid (row_len hr)
    clear hb hr
    go_enter Try.func86, Try.ntmps86
    go_wp2_with (first | (go_at_call 133; refine (kok_row _ _ _ c0).mono ?_; rintro e w' ⟨rfl, rfl⟩) | (go_at_call 142; refine hx.out.mono ?_; rintro e w' ⟨rfl, rfl⟩))
    go_ret
    exact ⟨rfl, rfl⟩
  · obtain ⟨c0, c1⟩ := cells2 hb
    have hx := Lib.hid (bd_len hr)
    clear hb hr
    go_enter Try.func86, Try.ntmps86
    go_wp2_with (first | (go_at_call 133; refine (kok_board _ _ _ c0 c1).mono ?_; rintro e w' ⟨rfl, rfl⟩) | (go_at_call 143; refine hx.out.mono ?_; rintro e w' ⟨rfl, rfl⟩))
    go_ret
    exact ⟨rfl, rfl⟩
theorem kd_kind (h : KdAt w k rm l S) : Calls Try.prog 82 #[.pointer (some ⟨k, 0, none⟩)] w fun e w' => e = .returned (.int .i64 rm) ∧ w = w' := by
  rcases h with ⟨r, hb, ⟨B, X, hr⟩, hne, rfl⟩ | ⟨r, S', hb, ⟨p, vx, xs, bx, vf, fs, bf, hr, rfl⟩, hne, rfl⟩
  · obtain ⟨c0, c1⟩ := cells2 hb
    have hx := Lib.hid (row_room hr)
    clear hb hr
    go_enter Try.func82, Try.ntmps82
    go_wp2_with (first | (go_at_call 133; refine (kok_row _ _ _ c0).mono ?_; rintro e w' ⟨rfl, rfl⟩) | (go_at_call 134; refine hx.out.mono ?_; rintro e w' ⟨rfl, rfl⟩))
    go_ret
    exact ⟨rfl, rfl⟩
  · obtain ⟨c0, c1⟩ := cells2 hb
    have hx := Lib.hid (bd_room hr)
    clear hb hr
    go_enter Try.func82, Try.ntmps82
    go_wp2_with (first | (go_at_call 133; refine (kok_board _ _ _ c0 c1).mono ?_; rintro e w' ⟨rfl, rfl⟩) | (go_at_call 135; refine hx.out.mono ?_; rintro e w' ⟨rfl, rfl⟩))
    go_ret
    exact ⟨rfl, rfl⟩
def duo (V a b : Value) : Prop := V = .tuple #[a, b]
theorem getV_duo (o : Option Value) : ∃ a b, duo (getV o) a b := by
  cases o with
  | none => exact ⟨_, _, rfl⟩
  | some p => exact ⟨_, _, rfl⟩
theorem kd_get (h : KdAt w k rm l S) (b : Nat) (hbb : b < 256) : Calls Try.prog 84 #[.pointer (some ⟨k, 0, none⟩), .int .u8 b] w fun e w' => e = .returned (getV (kget l b)) ∧ ∃ n, w' = w.drewN n := by
  obtain ⟨a1, a2, ht⟩ := getV_duo (kget l b)
  have Ht := Lib.hid ht
  clear ht
  rcases h with ⟨r, hb, ⟨B, X, hr⟩, hne, rfl⟩ | ⟨r, S', hb, ⟨p, vx, xs, bx, vf, fs, bf, hr, rfl⟩, hne, rfl⟩
  · obtain ⟨c0, c1⟩ := cells2 hb
    have hx := Lib.hid (row_get hr b)
    clear hb hr
    generalize getV (kget l b) = V at *
    go_enter Try.func84, Try.ntmps84
    go_wp2_with (first | (go_at_call 133; refine (kok_row _ _ _ c0).mono ?_; rintro e w' ⟨rfl, rfl⟩) | (go_at_call 138; refine hx.out.mono ?_; rintro e w' ⟨rfl, nd, rfl⟩; rw [Ht.out]))
    go_ret2
    exact ⟨congrArg Ending.returned Ht.out.symm, nd, rfl⟩
  · obtain ⟨c0, c1⟩ := cells2 hb
    have hx := Lib.hid (bd_get hr b hbb)
    clear hb hr
    generalize getV (kget l b) = V at *
    go_enter Try.func84, Try.ntmps84
    go_wp2_with (first | (go_at_call 133; refine (kok_board _ _ _ c0 c1).mono ?_; rintro e w' ⟨rfl, rfl⟩) | (go_at_call 139; refine hx.out.mono ?_; rintro e w' ⟨rfl, nd, rfl⟩; rw [Ht.out]))
    go_ret2
    exact ⟨congrArg Ending.returned Ht.out.symm, nd, rfl⟩
theorem kd_next (h : KdAt w k rm l S) (f : Int) (hlo : -9223372036854775808 ≤ f) (hhi : f ≤ 9223372036854775807) : Calls Try.prog 185 #[.pointer (some ⟨k, 0, none⟩), .int .i64 f] w fun e w' => e = .returned (atV (knxt l f)) ∧ ∃ n, w' = w.drewN n := by
  obtain ⟨a1, a2, a3, ht⟩ := atV_trip (knxt l f)
  have Ht := Lib.hid ht
  clear ht
  rcases h with ⟨r, hb, ⟨B, X, hr⟩, hne, rfl⟩ | ⟨r, S', hb, ⟨p, vx, xs, bx, vf, fs, bf, hr, rfl⟩, hne, rfl⟩
  · obtain ⟨c0, c1⟩ := cells2 hb
    have hx := Lib.hid (row_next hr f hlo hhi)
    clear hb hr hlo hhi
    generalize atV (knxt l f) = V at *
    go_enter Try.func185, Try.ntmps185
    go_wp2_with (first | (go_at_call 133; refine (kok_row _ _ _ c0).mono ?_; rintro e w' ⟨rfl, rfl⟩) | (go_at_call 204; refine hx.out.mono ?_; rintro e w' ⟨rfl, nd, rfl⟩; rw [Ht.out]))
    go_ret3
    exact ⟨congrArg Ending.returned Ht.out.symm, nd, rfl⟩
  · obtain ⟨c0, c1⟩ := cells2 hb
    have hx := Lib.hid (bd_next hr f hlo hhi)
    clear hb hr hlo hhi
    generalize atV (knxt l f) = V at *
    go_enter Try.func185, Try.ntmps185
    go_wp2_with (first | (go_at_call 133; refine (kok_board _ _ _ c0 c1).mono ?_; rintro e w' ⟨rfl, rfl⟩) | (go_at_call 205; refine hx.out.mono ?_; rintro e w' ⟨rfl, nd, rfl⟩; rw [Ht.out]))
    go_ret3
    exact ⟨congrArg Ending.returned Ht.out.symm, nd, rfl⟩
end I

namespace N
abbrev kdT : Nat := 155
/-- kids at block k: few in a row, many on a board -/
def KdAt (w : World) (k rm : Nat) (l : KV) (S : Nat → Prop) : Prop :=
  (∃ r, w.heap[k]? = some (.cells #[.pointer (some ⟨r, 0, none⟩), .pointer none] kdT (0, 0)) ∧ RowAt rowT w r rm l ∧ r ≠ k ∧ S = fun j => j = k ∨ j = r) ∨
  (∃ r S', w.heap[k]? = some (.cells #[.pointer none, .pointer (some ⟨r, 0, none⟩)] kdT (0, 0)) ∧ BdAt bdT elT u16T w r rm l S' ∧ ¬ S' k ∧ S = fun j => j = k ∨ S' j)
def Vals (l : KV) : Prop := ∀ p ∈ l, ∃ v : (Option Addr), p.2 = .pointer v
variable {w : World} {k rm : Nat} {l : KV} {S : Nat → Prop}
theorem KdAt.self (h : KdAt w k rm l S) : S k := by
  rcases h with ⟨r, _, _, _, rfl⟩ | ⟨r, S', _, _, _, rfl⟩ <;> exact Or.inl rfl
theorem KdAt.lt (h : KdAt w k rm l S) : ∀ j, S j → j < w.heap.size := by
  rcases h with ⟨r, hb, hr, hne, rfl⟩ | ⟨r, S', hb, hr, hne, rfl⟩
  · rintro j (rfl | rfl)
    · exact (Array.getElem?_eq_some_iff.1 hb).1
    · exact hr.lt
  · rintro j (rfl | hj)
    · exact (Array.getElem?_eq_some_iff.1 hb).1
    · exact hr.lt j hj
theorem KdAt.keep {w' : World} (h : KdAt w k rm l S) (hk : ∀ j, S j → w'.heap[j]? = w.heap[j]?) : KdAt w' k rm l S := by
  rcases h with ⟨r, hb, hr, hne, rfl⟩ | ⟨r, S', hb, hr, hne, rfl⟩
  · exact Or.inl ⟨r, (hk k (Or.inl rfl)).trans hb, hr.keep (hk r (Or.inr rfl)), hne, rfl⟩
  · exact Or.inr ⟨r, S', (hk k (Or.inl rfl)).trans hb, hr.keep fun j hj => hk j (Or.inr hj), hne, rfl⟩
theorem KdAt.below {w' : World} (h : KdAt w k rm l S) (hb : Below w.heap.size w w') : KdAt w' k rm l S := h.keep fun j hj => hb.block j (h.lt j hj)
theorem KdAt.drewN (h : KdAt w k rm l S) (n : Nat) : KdAt (w.drewN n) k rm l S := h.keep fun _ _ => rfl
theorem KdAt.srt (h : KdAt w k rm l S) : Srt l ∧ Low l ∧ l.length ≤ rm := by
  rcases h with ⟨r, hb, ⟨B, X, hr⟩, hne, rfl⟩ | ⟨r, S', hb, ⟨p, vx, xs, bx, vf, fs, bf, hr, rfl⟩, hne, rfl⟩
  · exact ⟨hr.srt, hr.low, hr.le⟩
  · exact ⟨hr.pl.srt, hr.pl.low, hr.pl.le⟩
theorem kok_nil (w : World) : Calls Try.prog 146 #[.pointer none] w fun e w' => e = .returned (.bool false) ∧ w = w' := by
  go_enter Try.func146, Try.ntmps146
  go_wp2_with fail
  go_ret
  exact ⟨rfl, rfl⟩
theorem kok_bare (w : World) (k o : Nat) (h0 : w.cell? ⟨k, o, none⟩ = some (.pointer none)) (h1 : w.cell? ⟨k, o + 1, none⟩ = some (.pointer none)) : Calls Try.prog 146 #[.pointer (some ⟨k, o, none⟩)] w fun e w' => e = .returned (.bool false) ∧ w = w' := by
  go_enter Try.func146, Try.ntmps146
  go_wp2_with fail
  go_ret
  exact ⟨rfl, rfl⟩
theorem kok_row (w : World) (k : Nat) (a : Addr) (h0 : w.cell? ⟨k, 0, none⟩ = some (.pointer (some a))) : Calls Try.prog 146 #[.pointer (some ⟨k, 0, none⟩)] w fun e w' => e = .returned (.bool true) ∧ w = w' := by
  go_enter Try.func146, Try.ntmps146
  go_wp2_with fail
  go_ret
  exact ⟨rfl, rfl⟩
theorem kok_board (w : World) (k : Nat) (a : Addr) (h0 : w.cell? ⟨k, 0, none⟩ = some (.pointer none)) (h1 : w.cell? ⟨k, 1, none⟩ = some (.pointer (some a))) : Calls Try.prog 146 #[.pointer (some ⟨k, 0, none⟩)] w fun e w' => e = .returned (.bool true) ∧ w = w' := by
  go_enter Try.func146, Try.ntmps146
  go_wp2_with fail
  go_ret
  exact ⟨rfl, rfl⟩
theorem kd_len (h : KdAt w k rm l S) : Calls Try.prog 101 #[.pointer (some ⟨k, 0, none⟩)] w fun e w' => e = .returned (.int .i64 l.length) ∧ w = w' := by
  rcases h with ⟨r, hb, ⟨B, X, hr⟩, hne, rfl⟩ | ⟨r, S', hb, ⟨p, vx, xs, bx, vf, fs, bf, hr, rfl⟩, hne, rfl⟩
  · obtain ⟨c0, c1⟩ := cells2 hb
    have hx := Lib.hid (row_len hr)
    clear hb hr
    go_enter Try.func101, Try.ntmps101
    go_wp2_with (first | (go_at_call 146; refine (kok_row _ _ _ c0).mono ?_; rintro e w' ⟨rfl, rfl⟩) | (go_at_call 163; refine hx.out.mono ?_; rintro e w' ⟨rfl, rfl⟩))
    go_ret
    exact ⟨rfl, rfl⟩
  · obtain ⟨c0, c1⟩ := cells2 hb
    have hx := Lib.hid (bd_len hr)
    clear hb hr
    go_enter Try.func101, Try.ntmps101
    go_wp2_with (first | (go_at_call 146; refine (kok_board _ _ _ c0 c1).mono ?_; rintro e w' ⟨rfl, rfl⟩) | (go_at_call 164; refine hx.out.mono ?_; rintro e w' ⟨rfl, rfl⟩))
    go_ret
    exact ⟨rfl, rfl⟩
theorem kd_kind (h : KdAt w k rm l S) : Calls Try.prog 100 #[.pointer (some ⟨k, 0, none⟩)] w fun e w' => e = .returned (.int .i64 rm) ∧ w = w' := by
  rcases h with ⟨r, hb, ⟨B, X, hr⟩, hne, rfl⟩ | ⟨r, S', hb, ⟨p, vx, xs, bx, vf, fs, bf, hr, rfl⟩, hne, rfl⟩
  · obtain ⟨c0, c1⟩ := cells2 hb
    have hx := Lib.hid (row_room hr)
    clear hb hr
    go_enter Try.func100, Try.ntmps100
    go_wp2_with (first | (go_at_call 146; refine (kok_row _ _ _ c0).mono ?_; rintro e w' ⟨rfl, rfl⟩) | (go_at_call 161; refine hx.out.mono ?_; rintro e w' ⟨rfl, rfl⟩))
    go_ret
    exact ⟨rfl, rfl⟩
  · obtain ⟨c0, c1⟩ := cells2 hb
    have hx := Lib.hid (bd_room hr)
    clear hb hr
    go_enter Try.func100, Try.ntmps100
    go_wp2_with (first | (go_at_call 146; refine (kok_board _ _ _ c0 c1).mono ?_; rintro e w' ⟨rfl, rfl⟩) | (go_at_call 162; refine hx.out.mono ?_; rintro e w' ⟨rfl, rfl⟩))
    go_ret
    exact ⟨rfl, rfl⟩
def duo (V a b : Value) : Prop := V = .tuple #[a, b]
theorem getV_duo (o : Option Value) : ∃ a b, duo (getV o) a b := by
  cases o with
  | none => exact ⟨_, _, rfl⟩
  | some p => exact ⟨_, _, rfl⟩
theorem kd_get (h : KdAt w k rm l S) (b : Nat) (hbb : b < 256) : Calls Try.prog 90 #[.pointer (some ⟨k, 0, none⟩), .int .u8 b] w fun e w' => e = .returned (getV (kget l b)) ∧ ∃ n, w' = w.drewN n := by
  obtain ⟨a1, a2, ht⟩ := getV_duo (kget l b)
  have Ht := Lib.hid ht
  clear ht
  rcases h with ⟨r, hb, ⟨B, X, hr⟩, hne, rfl⟩ | ⟨r, S', hb, ⟨p, vx, xs, bx, vf, fs, bf, hr, rfl⟩, hne, rfl⟩
  · obtain ⟨c0, c1⟩ := cells2 hb
    have hx := Lib.hid (row_get hr b)
    clear hb hr
    generalize getV (kget l b) = V at *
    go_enter Try.func90, Try.ntmps90
    go_wp2_with (first | (go_at_call 146; refine (kok_row _ _ _ c0).mono ?_; rintro e w' ⟨rfl, rfl⟩) | (go_at_call 151; refine hx.out.mono ?_; rintro e w' ⟨rfl, nd, rfl⟩; rw [Ht.out]))
    go_ret2
    exact ⟨congrArg Ending.returned Ht.out.symm, nd, rfl⟩
  · obtain ⟨c0, c1⟩ := cells2 hb
    have hx := Lib.hid (bd_get hr b hbb)
    clear hb hr
    generalize getV (kget l b) = V at *
    go_enter Try.func90, Try.ntmps90
    go_wp2_with (first | (go_at_call 146; refine (kok_board _ _ _ c0 c1).mono ?_; rintro e w' ⟨rfl, rfl⟩) | (go_at_call 152; refine hx.out.mono ?_; rintro e w' ⟨rfl, nd, rfl⟩; rw [Ht.out]))
    go_ret2
    exact ⟨congrArg Ending.returned Ht.out.symm, nd, rfl⟩
theorem kd_next (h : KdAt w k rm l S) (f : Int) (hlo : -9223372036854775808 ≤ f) (hhi : f ≤ 9223372036854775807) : Calls Try.prog 88 #[.pointer (some ⟨k, 0, none⟩), .int .i64 f] w fun e w' => e = .returned (atV (knxt l f)) ∧ ∃ n, w' = w.drewN n := by
  obtain ⟨a1, a2, a3, ht⟩ := atV_trip (knxt l f)
  have Ht := Lib.hid ht
  clear ht
  rcases h with ⟨r, hb, ⟨B, X, hr⟩, hne, rfl⟩ | ⟨r, S', hb, ⟨p, vx, xs, bx, vf, fs, bf, hr, rfl⟩, hne, rfl⟩
  · obtain ⟨c0, c1⟩ := cells2 hb
    have hx := Lib.hid (row_next hr f hlo hhi)
    clear hb hr hlo hhi
    generalize atV (knxt l f) = V at *
    go_enter Try.func88, Try.ntmps88
    go_wp2_with (first | (go_at_call 146; refine (kok_row _ _ _ c0).mono ?_; rintro e w' ⟨rfl, rfl⟩) | (go_at_call 147; refine hx.out.mono ?_; rintro e w' ⟨rfl, nd, rfl⟩; rw [Ht.out]))
    go_ret3
    exact ⟨congrArg Ending.returned Ht.out.symm, nd, rfl⟩
  · obtain ⟨c0, c1⟩ := cells2 hb
    have hx := Lib.hid (bd_next hr f hlo hhi)
    clear hb hr hlo hhi
    generalize atV (knxt l f) = V at *
    go_enter Try.func88, Try.ntmps88
    go_wp2_with (first | (go_at_call 146; refine (kok_board _ _ _ c0 c1).mono ?_; rintro e w' ⟨rfl, rfl⟩) | (go_at_call 148; refine hx.out.mono ?_; rintro e w' ⟨rfl, nd, rfl⟩; rw [Ht.out]))
    go_ret3
    exact ⟨congrArg Ending.returned Ht.out.symm, nd, rfl⟩
theorem kd_prev (h : KdAt w k rm l S) (f : Int) (hlo : -9223372036854775808 ≤ f) (hhi : f ≤ 9223372036854775807) : Calls Try.prog 89 #[.pointer (some ⟨k, 0, none⟩), .int .i64 f] w fun e w' => e = .returned (atV (kprv l f)) ∧ ∃ n, w' = w.drewN n := by
  obtain ⟨a1, a2, a3, ht⟩ := atV_trip (kprv l f)
  have Ht := Lib.hid ht
  clear ht
  rcases h with ⟨r, hb, ⟨B, X, hr⟩, hne, rfl⟩ | ⟨r, S', hb, ⟨p, vx, xs, bx, vf, fs, bf, hr, rfl⟩, hne, rfl⟩
  · obtain ⟨c0, c1⟩ := cells2 hb
    have hx := Lib.hid (row_prev hr f hlo hhi)
    clear hb hr hlo hhi
    generalize atV (kprv l f) = V at *
    go_enter Try.func89, Try.ntmps89
    go_wp2_with (first | (go_at_call 146; refine (kok_row _ _ _ c0).mono ?_; rintro e w' ⟨rfl, rfl⟩) | (go_at_call 149; refine hx.out.mono ?_; rintro e w' ⟨rfl, nd, rfl⟩; rw [Ht.out]))
    go_ret3
    exact ⟨congrArg Ending.returned Ht.out.symm, nd, rfl⟩
  · obtain ⟨c0, c1⟩ := cells2 hb
    have hx := Lib.hid (bd_prev hr f hlo hhi)
    clear hb hr hlo hhi
    generalize atV (kprv l f) = V at *
    go_enter Try.func89, Try.ntmps89
    go_wp2_with (first | (go_at_call 146; refine (kok_board _ _ _ c0 c1).mono ?_; rintro e w' ⟨rfl, rfl⟩) | (go_at_call 150; refine hx.out.mono ?_; rintro e w' ⟨rfl, nd, rfl⟩; rw [Ht.out]))
    go_ret3
    exact ⟨congrArg Ending.returned Ht.out.symm, nd, rfl⟩
end N
end Go.Proofs.Ytkonbldjmcccmaa
