/- Kids: Drop and Copy. -/
import Derived.Test.YtkonbldjmcccmaaKKidsS
set_option linter.unusedVariables false
set_option linter.unusedSimpArgs false
namespace Go.Proofs.Ytkonbldjmcccmaa
open Go.RowKit
namespace I
variable {w : World} {k rm rm' : Nat} {l : KV} {S : Nat → Prop}
/-- what Drop does behind the row's, or the board's, own Drop -/
theorem drop_tail (hs : Srt l) (hl : Low l) (hv : Vals l) (b : Nat) (c : Int) {w1 : World} (q : kPost k rm (kdel l b) S w (.returned (.int .i64 c)) (.returned (.int .i64 c)) w1) :
    ∃ n : Nat, Hid (Calls Try.prog 86 #[.pointer (some ⟨k, 0, none⟩)] w1 fun e w' => e = .returned (.int .i64 n) ∧ w1 = w') ∧
      Hid (Calls Try.prog 82 #[.pointer (some ⟨k, 0, none⟩)] w1 fun e w' => e = .returned (.int .i64 rm) ∧ w1 = w') ∧
      ∃ m : Nat, m = kindOf (kdel l b).length ∧ Hid (Calls Try.prog 14 #[.int .i64 n] w1 fun e w' => e = .returned (.int .i64 (m : Nat)) ∧ w1 = w') ∧
      Hid (Calls Try.prog 136 #[.pointer (some ⟨k, 0, none⟩), .int .i64 (m : Nat)] w1 fun e w' => e = .returned (.tuple #[]) ∧ kPost k m (kdel l b) S w (.returned (.int .i64 c)) (.returned (.int .i64 c)) w') := by
  obtain ⟨_, S', q1, q2, q3⟩ := q
  have h256 := len256 (hs.del b) (hl.del b)
  refine ⟨(kdel l b).length, kd_len q1, kd_kind q1, _, rfl, kindOf_nat _ h256 w1, ?_⟩
  exact (kd_move q1 (Vals.del hv b) (kind_cases _) (kind_ge h256)).mono fun e w' p => ⟨p.1, (kPost.after (rm := 0) (l1 := []) q2 q3 p).ret⟩
set_option maxHeartbeats 1000000 in
set_option maxRecDepth 100000 in
theorem kd_drop (h : KdAt w k rm l S) (hv : Vals l) (b : Nat) (hb : b < 256) : Calls Try.prog 85 #[.pointer (some ⟨k, 0, none⟩), .int .u8 b] w (kPost k (kindOf (kdel l b).length) (kdel l b) S w (.returned (.int .i64 (if has l b then 0 else 6)))) := by
  obtain ⟨hs, hl, _⟩ := h.srt
  have hok := Lib.hid (kok_yes h)
  generalize hc : (if has l b then (0 : Int) else 6) = c
  have tail : Hid (∀ w1, kPost k rm (kdel l b) S w (.returned (.int .i64 c)) (.returned (.int .i64 c)) w1 → ∃ n : Nat, Hid (Calls Try.prog 86 #[.pointer (some ⟨k, 0, none⟩)] w1 fun e w' => e = .returned (.int .i64 n) ∧ w1 = w') ∧
      Hid (Calls Try.prog 82 #[.pointer (some ⟨k, 0, none⟩)] w1 fun e w' => e = .returned (.int .i64 rm) ∧ w1 = w') ∧
      ∃ m : Nat, m = kindOf (kdel l b).length ∧ Hid (Calls Try.prog 14 #[.int .i64 n] w1 fun e w' => e = .returned (.int .i64 (m : Nat)) ∧ w1 = w') ∧
      Hid (Calls Try.prog 136 #[.pointer (some ⟨k, 0, none⟩), .int .i64 (m : Nat)] w1 fun e w' => e = .returned (.tuple #[]) ∧ kPost k m (kdel l b) S w (.returned (.int .i64 c)) (.returned (.int .i64 c)) w')) := fun w1 q => drop_tail hs hl hv b c q
  rcases h with ⟨r, hk, hr, hne, rfl⟩ | ⟨r, S', hk, hr, hne, rfl⟩
  · obtain ⟨c0, c1⟩ := cells2 hk
    have hx : Hid (Calls Try.prog 140 #[.pointer (some ⟨r, 0, none⟩), .int .u8 b] w fun e w' => e = .returned (.int .i64 c) ∧ kPost k rm (kdel l b) (fun j => j = k ∨ j = r) w (.returned (.int .i64 c)) (.returned (.int .i64 c)) w') :=
      (row_drop_at hr b).mono fun e w' q => ⟨by rw [q.1, hc], row_kids hk hne q.2.1 q.2.2 _⟩
    clear hk hr hc hs hl hv
    by_cases he : rm = kindOf (kdel l b).length
    · have He := Lib.hid he
      rw [← He.out]
      clear he
      generalize hq : kdel l b = l' at *
      have Hq := Lib.hid hq
      clear hq
      go_enter Try.func85, Try.ntmps85
      go_wp2_with (first | (go_at_call 133; refine hok.out.mono ?_; rintro e w' ⟨rfl, rfl⟩) | (go_at_call 140; refine hx.out.mono ?_; rintro e w1 ⟨rfl, q⟩; obtain ⟨n, t1, t2, m, hm, t3, t4⟩ := tail.out _ q; have q := Lib.hid q; obtain rfl : m = rm := hm.trans He.out.symm; clear hm) | (go_at_call 86; refine t1.out.mono ?_; rintro e w' ⟨rfl, rfl⟩) | (go_at_call 14; refine t3.out.mono ?_; rintro e w' ⟨rfl, rfl⟩) | (go_at_call 82; refine t2.out.mono ?_; rintro e w' ⟨rfl, rfl⟩))
      go_ret
      exact q.out
    · have He := Lib.hid he
      generalize hmm : kindOf (kdel l b).length = mm at *
      have hne2 : ¬ ((mm : Nat) : Int) = (rm : Nat) := by omega
      clear he hmm
      generalize hq : kdel l b = l' at *
      have Hq := Lib.hid hq
      clear hq
      go_enter Try.func85, Try.ntmps85
      go_wp2_with (first | (go_at_call 133; refine hok.out.mono ?_; rintro e w' ⟨rfl, rfl⟩) | (go_at_call 140; refine hx.out.mono ?_; rintro e w1 ⟨rfl, q⟩; obtain ⟨n, t1, t2, m, rfl, t3, t4⟩ := tail.out _ q; clear q) | (go_at_call 86; refine t1.out.mono ?_; rintro e w' ⟨rfl, rfl⟩) | (go_at_call 14; refine t3.out.mono ?_; rintro e w' ⟨rfl, rfl⟩) | (go_at_call 82; refine t2.out.mono ?_; rintro e w' ⟨rfl, rfl⟩) | (go_at_call 136; refine t4.out.mono ?_; rintro e w2 ⟨rfl, q⟩; have q := Lib.hid q))
      go_ret
      exact q.out
  · obtain ⟨c0, c1⟩ := cells2 hk
    have hx : Hid (Calls Try.prog 141 #[.pointer (some ⟨r, 0, none⟩), .int .u8 b] w fun e w' => e = .returned (.int .i64 c) ∧ kPost k rm (kdel l b) (fun j => j = k ∨ S' j) w (.returned (.int .i64 c)) (.returned (.int .i64 c)) w') :=
      (bd_drop_at hr b hb).mono fun e w' q => ⟨by rw [q.1, hc], bd_kids hk hne q.2 _⟩
    clear hk hr hc hs hl hv
    by_cases he : rm = kindOf (kdel l b).length
    · have He := Lib.hid he
      rw [← He.out]
      clear he
      generalize hq : kdel l b = l' at *
      have Hq := Lib.hid hq
      clear hq
      go_enter Try.func85, Try.ntmps85
      go_wp2_with (first | (go_at_call 133; refine hok.out.mono ?_; rintro e w' ⟨rfl, rfl⟩) | (go_at_call 141; refine hx.out.mono ?_; rintro e w1 ⟨rfl, q⟩; obtain ⟨n, t1, t2, m, hm, t3, t4⟩ := tail.out _ q; have q := Lib.hid q; obtain rfl : m = rm := hm.trans He.out.symm; clear hm) | (go_at_call 86; refine t1.out.mono ?_; rintro e w' ⟨rfl, rfl⟩) | (go_at_call 14; refine t3.out.mono ?_; rintro e w' ⟨rfl, rfl⟩) | (go_at_call 82; refine t2.out.mono ?_; rintro e w' ⟨rfl, rfl⟩))
      go_ret
      exact q.out
    · have He := Lib.hid he
      generalize hmm : kindOf (kdel l b).length = mm at *
      have hne2 : ¬ ((mm : Nat) : Int) = (rm : Nat) := by omega
      clear he hmm
      generalize hq : kdel l b = l' at *
      have Hq := Lib.hid hq
      clear hq
      go_enter Try.func85, Try.ntmps85
      go_wp2_with (first | (go_at_call 133; refine hok.out.mono ?_; rintro e w' ⟨rfl, rfl⟩) | (go_at_call 141; refine hx.out.mono ?_; rintro e w1 ⟨rfl, q⟩; obtain ⟨n, t1, t2, m, rfl, t3, t4⟩ := tail.out _ q; clear q) | (go_at_call 86; refine t1.out.mono ?_; rintro e w' ⟨rfl, rfl⟩) | (go_at_call 14; refine t3.out.mono ?_; rintro e w' ⟨rfl, rfl⟩) | (go_at_call 82; refine t2.out.mono ?_; rintro e w' ⟨rfl, rfl⟩) | (go_at_call 136; refine t4.out.mono ?_; rintro e w2 ⟨rfl, q⟩; have q := Lib.hid q))
      go_ret
      exact q.out
end I

namespace N
variable {w : World} {k rm rm' : Nat} {l : KV} {S : Nat → Prop}
/-- what Drop does behind the row's, or the board's, own Drop -/
theorem drop_tail (hs : Srt l) (hl : Low l) (hv : Vals l) (b : Nat) (c : Int) {w1 : World} (q : kPost k rm (kdel l b) S w (.returned (.int .i64 c)) (.returned (.int .i64 c)) w1) :
    ∃ n : Nat, Hid (Calls Try.prog 101 #[.pointer (some ⟨k, 0, none⟩)] w1 fun e w' => e = .returned (.int .i64 n) ∧ w1 = w') ∧
      Hid (Calls Try.prog 100 #[.pointer (some ⟨k, 0, none⟩)] w1 fun e w' => e = .returned (.int .i64 rm) ∧ w1 = w') ∧
      ∃ m : Nat, m = kindOf (kdel l b).length ∧ Hid (Calls Try.prog 14 #[.int .i64 n] w1 fun e w' => e = .returned (.int .i64 (m : Nat)) ∧ w1 = w') ∧
      Hid (Calls Try.prog 157 #[.pointer (some ⟨k, 0, none⟩), .int .i64 (m : Nat)] w1 fun e w' => e = .returned (.tuple #[]) ∧ kPost k m (kdel l b) S w (.returned (.int .i64 c)) (.returned (.int .i64 c)) w') := by
  obtain ⟨_, S', q1, q2, q3⟩ := q
  have h256 := len256 (hs.del b) (hl.del b)
  refine ⟨(kdel l b).length, kd_len q1, kd_kind q1, _, rfl, kindOf_nat _ h256 w1, ?_⟩
  exact (kd_move q1 (Vals.del hv b) (kind_cases _) (kind_ge h256)).mono fun e w' p => ⟨p.1, (kPost.after (rm := 0) (l1 := []) q2 q3 p).ret⟩
set_option maxHeartbeats 1000000 in
set_option maxRecDepth 100000 in
theorem kd_drop (h : KdAt w k rm l S) (hv : Vals l) (b : Nat) (hb : b < 256) : Calls Try.prog 98 #[.pointer (some ⟨k, 0, none⟩), .int .u8 b] w (kPost k (kindOf (kdel l b).length) (kdel l b) S w (.returned (.int .i64 (if has l b then 0 else 6)))) := by
  obtain ⟨hs, hl, _⟩ := h.srt
  have hok := Lib.hid (kok_yes h)
  generalize hc : (if has l b then (0 : Int) else 6) = c
  have tail : Hid (∀ w1, kPost k rm (kdel l b) S w (.returned (.int .i64 c)) (.returned (.int .i64 c)) w1 → ∃ n : Nat, Hid (Calls Try.prog 101 #[.pointer (some ⟨k, 0, none⟩)] w1 fun e w' => e = .returned (.int .i64 n) ∧ w1 = w') ∧
      Hid (Calls Try.prog 100 #[.pointer (some ⟨k, 0, none⟩)] w1 fun e w' => e = .returned (.int .i64 rm) ∧ w1 = w') ∧
      ∃ m : Nat, m = kindOf (kdel l b).length ∧ Hid (Calls Try.prog 14 #[.int .i64 n] w1 fun e w' => e = .returned (.int .i64 (m : Nat)) ∧ w1 = w') ∧
      Hid (Calls Try.prog 157 #[.pointer (some ⟨k, 0, none⟩), .int .i64 (m : Nat)] w1 fun e w' => e = .returned (.tuple #[]) ∧ kPost k m (kdel l b) S w (.returned (.int .i64 c)) (.returned (.int .i64 c)) w')) := fun w1 q => drop_tail hs hl hv b c q
  rcases h with ⟨r, hk, hr, hne, rfl⟩ | ⟨r, S', hk, hr, hne, rfl⟩
  · obtain ⟨c0, c1⟩ := cells2 hk
    have hx : Hid (Calls Try.prog 159 #[.pointer (some ⟨r, 0, none⟩), .int .u8 b] w fun e w' => e = .returned (.int .i64 c) ∧ kPost k rm (kdel l b) (fun j => j = k ∨ j = r) w (.returned (.int .i64 c)) (.returned (.int .i64 c)) w') :=
      (row_drop_at hr b).mono fun e w' q => ⟨by rw [q.1, hc], row_kids hk hne q.2.1 q.2.2 _⟩
    clear hk hr hc hs hl hv
    by_cases he : rm = kindOf (kdel l b).length
    · have He := Lib.hid he
      rw [← He.out]
      clear he
      generalize hq : kdel l b = l' at *
      have Hq := Lib.hid hq
      clear hq
      go_enter Try.func98, Try.ntmps98
      go_wp2_with (first | (go_at_call 146; refine hok.out.mono ?_; rintro e w' ⟨rfl, rfl⟩) | (go_at_call 159; refine hx.out.mono ?_; rintro e w1 ⟨rfl, q⟩; obtain ⟨n, t1, t2, m, hm, t3, t4⟩ := tail.out _ q; have q := Lib.hid q; obtain rfl : m = rm := hm.trans He.out.symm; clear hm) | (go_at_call 101; refine t1.out.mono ?_; rintro e w' ⟨rfl, rfl⟩) | (go_at_call 14; refine t3.out.mono ?_; rintro e w' ⟨rfl, rfl⟩) | (go_at_call 100; refine t2.out.mono ?_; rintro e w' ⟨rfl, rfl⟩))
      go_ret
      exact q.out
    · have He := Lib.hid he
      generalize hmm : kindOf (kdel l b).length = mm at *
      have hne2 : ¬ ((mm : Nat) : Int) = (rm : Nat) := by omega
      clear he hmm
      generalize hq : kdel l b = l' at *
      have Hq := Lib.hid hq
      clear hq
      go_enter Try.func98, Try.ntmps98
      go_wp2_with (first | (go_at_call 146; refine hok.out.mono ?_; rintro e w' ⟨rfl, rfl⟩) | (go_at_call 159; refine hx.out.mono ?_; rintro e w1 ⟨rfl, q⟩; obtain ⟨n, t1, t2, m, rfl, t3, t4⟩ := tail.out _ q; clear q) | (go_at_call 101; refine t1.out.mono ?_; rintro e w' ⟨rfl, rfl⟩) | (go_at_call 14; refine t3.out.mono ?_; rintro e w' ⟨rfl, rfl⟩) | (go_at_call 100; refine t2.out.mono ?_; rintro e w' ⟨rfl, rfl⟩) | (go_at_call 157; refine t4.out.mono ?_; rintro e w2 ⟨rfl, q⟩; have q := Lib.hid q))
      go_ret
      exact q.out
  · obtain ⟨c0, c1⟩ := cells2 hk
    have hx : Hid (Calls Try.prog 160 #[.pointer (some ⟨r, 0, none⟩), .int .u8 b] w fun e w' => e = .returned (.int .i64 c) ∧ kPost k rm (kdel l b) (fun j => j = k ∨ S' j) w (.returned (.int .i64 c)) (.returned (.int .i64 c)) w') :=
      (bd_drop_at hr b hb).mono fun e w' q => ⟨by rw [q.1, hc], bd_kids hk hne q.2 _⟩
    clear hk hr hc hs hl hv
    by_cases he : rm = kindOf (kdel l b).length
    · have He := Lib.hid he
      rw [← He.out]
      clear he
      generalize hq : kdel l b = l' at *
      have Hq := Lib.hid hq
      clear hq
      go_enter Try.func98, Try.ntmps98
      go_wp2_with (first | (go_at_call 146; refine hok.out.mono ?_; rintro e w' ⟨rfl, rfl⟩) | (go_at_call 160; refine hx.out.mono ?_; rintro e w1 ⟨rfl, q⟩; obtain ⟨n, t1, t2, m, hm, t3, t4⟩ := tail.out _ q; have q := Lib.hid q; obtain rfl : m = rm := hm.trans He.out.symm; clear hm) | (go_at_call 101; refine t1.out.mono ?_; rintro e w' ⟨rfl, rfl⟩) | (go_at_call 14; refine t3.out.mono ?_; rintro e w' ⟨rfl, rfl⟩) | (go_at_call 100; refine t2.out.mono ?_; rintro e w' ⟨rfl, rfl⟩))
      go_ret
      exact q.out
    · have He := Lib.hid he
      generalize hmm : kindOf (kdel l b).length = mm at *
      have hne2 : ¬ ((mm : Nat) : Int) = (rm : Nat) := by omega
      clear he hmm
      generalize hq : kdel l b = l' at *
      have Hq := Lib.hid hq
      clear hq
      go_enter Try.func98, Try.ntmps98
      go_wp2_with (first | (go_at_call 146; refine hok.out.mono ?_; rintro e w' ⟨rfl, rfl⟩) | (go_at_call 160; refine hx.out.mono ?_; rintro e w1 ⟨rfl, q⟩; obtain ⟨n, t1, t2, m, rfl, t3, t4⟩ := tail.out _ q; clear q) | (go_at_call 101; refine t1.out.mono ?_; rintro e w' ⟨rfl, rfl⟩) | (go_at_call 14; refine t3.out.mono ?_; rintro e w' ⟨rfl, rfl⟩) | (go_at_call 100; refine t2.out.mono ?_; rintro e w' ⟨rfl, rfl⟩) | (go_at_call 157; refine t4.out.mono ?_; rintro e w2 ⟨rfl, q⟩; have q := Lib.hid q))
      go_ret
      exact q.out
end N
end Go.Proofs.Ytkonbldjmcccmaa
