/- Kids: Set and Drop. -/
import Derived.Test.YtkonbldjmcccmaaKKidsM
set_option linter.unusedVariables false
set_option linter.unusedSimpArgs false
namespace Go.Proofs.Ytkonbldjmcccmaa
open Go.RowKit
theorem kindOf_nat (n : Nat) (h : n ≤ 256) (w : World) : Calls Try.prog 14 #[.int .i64 (n : Nat)] w fun e w' => e = .returned (.int .i64 (kindOf n : Nat)) ∧ w = w' := by
  have := kindOf_any (n : Int) w
  rw [kindZ_nat n h] at this
  exact this
namespace I
variable {w : World} {k rm rm' : Nat} {l : KV} {S : Nat → Prop}
theorem kok_yes (h : KdAt w k rm l S) : Calls Try.prog 133 #[.pointer (some ⟨k, 0, none⟩)] w fun e w' => e = .returned (.bool true) ∧ w = w' := by
  rcases h with ⟨r, hb, _⟩ | ⟨r, S', hb, _⟩
  · exact kok_row _ _ _ (cells2 hb).1
  · exact kok_board _ _ _ (cells2 hb).1 (cells2 hb).2
theorem Vals.ins (hv : Vals l) (b : Nat) (x : Int) : Vals (kins l b (.int .i64 x)) := by
  intro p hp
  simp only [kins, List.mem_append, List.mem_cons, List.mem_filter] at hp
  rcases hp with ⟨hp, _⟩ | rfl | ⟨hp, _⟩
  · exact hv p hp
  · exact ⟨x, rfl⟩
  · exact hv p hp
theorem Vals.del (hv : Vals l) (b : Nat) : Vals (kdel l b) := fun p hp => hv p (List.mem_filter.1 hp).1
theorem Vals.klt (hv : Vals l) (t : Nat) : Vals (klt l t) := fun p hp => hv p (List.mem_filter.1 hp).1
theorem kPost.ret {k rm : Nat} {l' : KV} {E E' e : Ending} {w' : World} (h : kPost k rm l' S w E e w') : kPost k rm l' S w E' E' w' := ⟨rfl, h.2⟩
theorem kPost.drewN {k rm : Nat} {l' : KV} {E e : Ending} {w' : World} (h : kPost k rm l' S w E e w') (n : Nat) : kPost k rm l' S w E e (w'.drewN n) := by
  obtain ⟨h1, S', h2, h3, h4⟩ := h
  exact ⟨h1, S', h2.drewN n, h3.drewN n, h4⟩
theorem kPost.from {k rm : Nat} {l' : KV} {E e : Ending} {n : Nat} {w' : World} (h : kPost k rm l' S (w.drewN n) E e w') : kPost k rm l' S w E e w' := by
  obtain ⟨h1, S', h2, h3, h4⟩ := h
  exact ⟨h1, S', h2, ⟨h3.os, h3.tape, h3.output, h3.size, h3.same⟩, h4⟩
/-- one after the other one -/
theorem kPost.after {k rm rm2 : Nat} {l1 l2 : KV} {S' : Nat → Prop} {w1 w2 : World} {E e : Ending} (h2 : Mod S w w1) (h3 : ∀ j, S' j → S j ∨ w.heap.size ≤ j) (h : kPost k rm2 l2 S' w1 E e w2) : kPost k rm2 l2 S w E e w2 := by
  obtain ⟨e1, S2, p1, p2, p3⟩ := h
  refine ⟨e1, S2, p1, h2.then p2 (fun i hi hs => ?_), fun j hj => ?_⟩
  · rcases h3 i hs with e | e
    · exact e
    · omega
  · rcases p3 j hj with e | e
    · exact h3 j e
    · exact Or.inr (Nat.le_trans h2.size e)
set_option maxHeartbeats 1000000 in
set_option maxRecDepth 100000 in
theorem kd_set (h : KdAt w k (kindOf l.length) l S) (hv : Vals l) (b : Nat) (hb : b < 256) (x : Int) : Calls Try.prog 83 #[.pointer (some ⟨k, 0, none⟩), .int .u8 b, .int .i64 x] w (kPost k (kindOf (kins l b (.int .i64 x)).length) (kins l b (.int .i64 x)) S w (.returned (.int .i64 0))) := by
  obtain ⟨hs, hl, _⟩ := h.srt
  have hlen := ins_len3 hs b (.int .i64 x)
  have h256 := len256 (hs.ins b (.int .i64 x)) (hl.ins hb (.int .i64 x))
  have hok := Lib.hid (kok_yes h)
  have hget := Lib.hid (kd_get h b hb)
  have hcnt := Lib.hid (fun n => kd_len (h.drewN n))
  have hknd := Lib.hid (fun n => kd_kind (h.drewN n))
  cases hh : has l b with
  | true =>
    rw [hh, if_pos rfl] at hlen
    have hput := Lib.hid (fun n => kd_put (h.drewN n) b hb (Or.inl hh) x)
    rw [hlen]
    have hgv : Hid (∃ v, getV (kget l b) = .tuple #[v, .bool true]) := ⟨_, by rw [get_yes hs hh (0, undef)]; rfl⟩
    obtain ⟨v, hgv⟩ := hgv.out
    have HG := Lib.hid hgv
    clear hgv
    generalize kindOf l.length = m at *
    clear h hs hl hlen h256 hh hcnt hknd
    go_enter Try.func83, Try.ntmps83
    go_wp2_with (first | (go_at_call 133; refine hok.out.mono ?_; rintro e w' ⟨rfl, rfl⟩) | (go_at_call 84; refine hget.out.mono ?_; rintro e w' ⟨rfl, nd, rfl⟩; rw [HG.out]) | (go_at_call 137; refine (hput.out _).mono ?_; rintro e w' ⟨rfl, q⟩; have q := Lib.hid q))
    go_ret
    exact kPost.from (n := nd) ⟨rfl, q.out⟩
  | false =>
    rw [hh, if_neg (by simp)] at hlen
    have hle : l.length ≤ kindOf l.length := kind_ge (by omega)
    have hgv : Hid (getV (kget l b) = .tuple #[(.int .i64 0), .bool false]) := by show _ = _; rw [get_no hs hh]; rfl
    have hw1 : IntKind.i64.wrap ((l.length : Nat) + 1 : Int) = (l.length : Nat) + 1 := IntWalk.i64_in _ (by omega)
    by_cases hlt : l.length < kindOf l.length
    · have hput := Lib.hid (fun n => kd_put (h.drewN n) b hb (Or.inr hlt) x)
      rw [hlen, kind_step hlt]
      have hne : ¬ ((l.length : Nat) : Int) = (kindOf l.length : Nat) := by omega
      generalize kindOf l.length = m at *
      clear h hs hl hlen h256 hh hlt hle hw1
      generalize hq : kins l b (.int .i64 x) = l' at *
      have Hq := Lib.hid hq
      clear hq
      generalize l.length = n at *
      go_enter Try.func83, Try.ntmps83
      go_wp2_with (first | (go_at_call 133; refine hok.out.mono ?_; rintro e w' ⟨rfl, rfl⟩) | (go_at_call 84; refine hget.out.mono ?_; rintro e w' ⟨rfl, nd, rfl⟩; rw [hgv.out]) | (go_at_call 86; refine (hcnt.out _).mono ?_; rintro e w' ⟨rfl, rfl⟩) | (go_at_call 82; refine (hknd.out _).mono ?_; rintro e w' ⟨rfl, rfl⟩) | (go_at_call 137; refine (hput.out _).mono ?_; rintro e w' ⟨rfl, q⟩; have q := Lib.hid q))
      go_ret
      exact kPost.from (n := nd) ⟨rfl, q.out⟩
    · have heq : ((kindOf l.length : Nat) : Int) = (l.length : Nat) := by omega
      have hkd : Hid (∀ w, Calls Try.prog 14 #[.int .i64 ((l.length : Nat) + 1 : Int)] w fun e w' => e = .returned (.int .i64 (kindOf (l.length + 1) : Nat)) ∧ w = w') := fun w => kindOf_nat (l.length + 1) (by omega) w
      have hge : l.length + 1 ≤ kindOf (l.length + 1) := kind_ge (by omega)
      have hmv := Lib.hid (fun n => kd_move (h.drewN n) hv (kind_cases (l.length + 1)) (by omega))
      have hput : Hid (∀ w1, (∃ n, kPost k (kindOf (l.length + 1)) l S (w.drewN n) (.returned (.tuple #[])) (.returned (.tuple #[])) w1) → Calls Try.prog 137 #[.pointer (some ⟨k, 0, none⟩), .int .u8 b, .int .i64 x] w1 fun e w' => e = .returned (.tuple #[]) ∧ kPost k (kindOf (l.length + 1)) (kins l b (.int .i64 x)) S w (.returned (.tuple #[])) e w') := fun w1 q => by
        obtain ⟨n, q⟩ := q
        obtain ⟨_, S', q1, q2, q3⟩ := q.from
        refine (kd_put q1 b hb (Or.inr (by omega)) x).mono fun e w' p => ⟨p.1, kPost.after (rm := 0) (l1 := []) q2 q3 p⟩
      rw [hlen]
      clear hh hge hle hlt
      generalize kins l b (.int .i64 x) = l' at *
      have hknd2 : Hid (∀ n, Calls Try.prog 82 #[.pointer (some ⟨k, 0, none⟩)] (w.drewN n) fun e w' => e = .returned (.int .i64 (l.length : Nat)) ∧ w.drewN n = w') := by
        intro n; have := hknd.out n; rw [heq] at this; exact this
      generalize kindOf (l.length + 1) = m at *
      clear h hs hl hlen h256 hknd heq
      generalize l.length = n at *
      go_enter Try.func83, Try.ntmps83
      go_wp2_with (first | (go_at_call 133; refine hok.out.mono ?_; rintro e w' ⟨rfl, rfl⟩) | (go_at_call 84; refine hget.out.mono ?_; rintro e w' ⟨rfl, nd, rfl⟩; rw [hgv.out]) | (go_at_call 86; refine (hcnt.out _).mono ?_; rintro e w' ⟨rfl, rfl⟩) | (go_at_call 82; refine (hknd2.out _).mono ?_; rintro e w' ⟨rfl, rfl⟩) | (go_at_call 14; refine (hkd.out _).mono ?_; rintro e w' ⟨rfl, rfl⟩) | (go_at_call 136; refine (hmv.out _).mono ?_; rintro e w1 ⟨rfl, q⟩; have q := Lib.hid (hput.out w1 ⟨nd, rfl, q⟩)) | (go_at_call 137; refine q.out.mono ?_; rintro e w' ⟨rfl, q'⟩; have q' := Lib.hid q'))
      go_ret
      exact q'.out.ret
end I

namespace N
variable {w : World} {k rm rm' : Nat} {l : KV} {S : Nat → Prop}
theorem kok_yes (h : KdAt w k rm l S) : Calls Try.prog 146 #[.pointer (some ⟨k, 0, none⟩)] w fun e w' => e = .returned (.bool true) ∧ w = w' := by
  rcases h with ⟨r, hb, _⟩ | ⟨r, S', hb, _⟩
  · exact kok_row _ _ _ (cells2 hb).1
  · exact kok_board _ _ _ (cells2 hb).1 (cells2 hb).2
theorem Vals.ins (hv : Vals l) (b : Nat) (x : (Option Addr)) : Vals (kins l b (.pointer x)) := by
  intro p hp
  simp only [kins, List.mem_append, List.mem_cons, List.mem_filter] at hp
  rcases hp with ⟨hp, _⟩ | rfl | ⟨hp, _⟩
  · exact hv p hp
  · exact ⟨x, rfl⟩
  · exact hv p hp
theorem Vals.del (hv : Vals l) (b : Nat) : Vals (kdel l b) := fun p hp => hv p (List.mem_filter.1 hp).1
theorem Vals.klt (hv : Vals l) (t : Nat) : Vals (klt l t) := fun p hp => hv p (List.mem_filter.1 hp).1
theorem kPost.ret {k rm : Nat} {l' : KV} {E E' e : Ending} {w' : World} (h : kPost k rm l' S w E e w') : kPost k rm l' S w E' E' w' := ⟨rfl, h.2⟩
theorem kPost.drewN {k rm : Nat} {l' : KV} {E e : Ending} {w' : World} (h : kPost k rm l' S w E e w') (n : Nat) : kPost k rm l' S w E e (w'.drewN n) := by
  obtain ⟨h1, S', h2, h3, h4⟩ := h
  exact ⟨h1, S', h2.drewN n, h3.drewN n, h4⟩
theorem kPost.from {k rm : Nat} {l' : KV} {E e : Ending} {n : Nat} {w' : World} (h : kPost k rm l' S (w.drewN n) E e w') : kPost k rm l' S w E e w' := by
  obtain ⟨h1, S', h2, h3, h4⟩ := h
  exact ⟨h1, S', h2, ⟨h3.os, h3.tape, h3.output, h3.size, h3.same⟩, h4⟩
/-- one after the other one -/
theorem kPost.after {k rm rm2 : Nat} {l1 l2 : KV} {S' : Nat → Prop} {w1 w2 : World} {E e : Ending} (h2 : Mod S w w1) (h3 : ∀ j, S' j → S j ∨ w.heap.size ≤ j) (h : kPost k rm2 l2 S' w1 E e w2) : kPost k rm2 l2 S w E e w2 := by
  obtain ⟨e1, S2, p1, p2, p3⟩ := h
  refine ⟨e1, S2, p1, h2.then p2 (fun i hi hs => ?_), fun j hj => ?_⟩
  · rcases h3 i hs with e | e
    · exact e
    · omega
  · rcases p3 j hj with e | e
    · exact h3 j e
    · exact Or.inr (Nat.le_trans h2.size e)
set_option maxHeartbeats 1000000 in
set_option maxRecDepth 100000 in
theorem kd_set (h : KdAt w k (kindOf l.length) l S) (hv : Vals l) (b : Nat) (hb : b < 256) (x : (Option Addr)) : Calls Try.prog 97 #[.pointer (some ⟨k, 0, none⟩), .int .u8 b, .pointer x] w (kPost k (kindOf (kins l b (.pointer x)).length) (kins l b (.pointer x)) S w (.returned (.int .i64 0))) := by
  obtain ⟨hs, hl, _⟩ := h.srt
  have hlen := ins_len3 hs b (.pointer x)
  have h256 := len256 (hs.ins b (.pointer x)) (hl.ins hb (.pointer x))
  have hok := Lib.hid (kok_yes h)
  have hget := Lib.hid (kd_get h b hb)
  have hcnt := Lib.hid (fun n => kd_len (h.drewN n))
  have hknd := Lib.hid (fun n => kd_kind (h.drewN n))
  cases hh : has l b with
  | true =>
    rw [hh, if_pos rfl] at hlen
    have hput := Lib.hid (fun n => kd_put (h.drewN n) b hb (Or.inl hh) x)
    rw [hlen]
    have hgv : Hid (∃ v, getV (kget l b) = .tuple #[v, .bool true]) := ⟨_, by rw [get_yes hs hh (0, undef)]; rfl⟩
    obtain ⟨v, hgv⟩ := hgv.out
    have HG := Lib.hid hgv
    clear hgv
    generalize kindOf l.length = m at *
    clear h hs hl hlen h256 hh hcnt hknd
    go_enter Try.func97, Try.ntmps97
    go_wp2_with (first | (go_at_call 146; refine hok.out.mono ?_; rintro e w' ⟨rfl, rfl⟩) | (go_at_call 90; refine hget.out.mono ?_; rintro e w' ⟨rfl, nd, rfl⟩; rw [HG.out]) | (go_at_call 158; refine (hput.out _).mono ?_; rintro e w' ⟨rfl, q⟩; have q := Lib.hid q))
    go_ret
    exact kPost.from (n := nd) ⟨rfl, q.out⟩
  | false =>
    rw [hh, if_neg (by simp)] at hlen
    have hle : l.length ≤ kindOf l.length := kind_ge (by omega)
    have hgv : Hid (getV (kget l b) = .tuple #[(.pointer none), .bool false]) := by show _ = _; rw [get_no hs hh]; rfl
    have hw1 : IntKind.i64.wrap ((l.length : Nat) + 1 : Int) = (l.length : Nat) + 1 := IntWalk.i64_in _ (by omega)
    by_cases hlt : l.length < kindOf l.length
    · have hput := Lib.hid (fun n => kd_put (h.drewN n) b hb (Or.inr hlt) x)
      rw [hlen, kind_step hlt]
      have hne : ¬ ((l.length : Nat) : Int) = (kindOf l.length : Nat) := by omega
      generalize kindOf l.length = m at *
      clear h hs hl hlen h256 hh hlt hle hw1
      generalize hq : kins l b (.pointer x) = l' at *
      have Hq := Lib.hid hq
      clear hq
      generalize l.length = n at *
      go_enter Try.func97, Try.ntmps97
      go_wp2_with (first | (go_at_call 146; refine hok.out.mono ?_; rintro e w' ⟨rfl, rfl⟩) | (go_at_call 90; refine hget.out.mono ?_; rintro e w' ⟨rfl, nd, rfl⟩; rw [hgv.out]) | (go_at_call 101; refine (hcnt.out _).mono ?_; rintro e w' ⟨rfl, rfl⟩) | (go_at_call 100; refine (hknd.out _).mono ?_; rintro e w' ⟨rfl, rfl⟩) | (go_at_call 158; refine (hput.out _).mono ?_; rintro e w' ⟨rfl, q⟩; have q := Lib.hid q))
      go_ret
      exact kPost.from (n := nd) ⟨rfl, q.out⟩
    · have heq : ((kindOf l.length : Nat) : Int) = (l.length : Nat) := by omega
      have hkd : Hid (∀ w, Calls Try.prog 14 #[.int .i64 ((l.length : Nat) + 1 : Int)] w fun e w' => e = .returned (.int .i64 (kindOf (l.length + 1) : Nat)) ∧ w = w') := fun w => kindOf_nat (l.length + 1) (by omega) w
      have hge : l.length + 1 ≤ kindOf (l.length + 1) := kind_ge (by omega)
      have hmv := Lib.hid (fun n => kd_move (h.drewN n) hv (kind_cases (l.length + 1)) (by omega))
      have hput : Hid (∀ w1, (∃ n, kPost k (kindOf (l.length + 1)) l S (w.drewN n) (.returned (.tuple #[])) (.returned (.tuple #[])) w1) → Calls Try.prog 158 #[.pointer (some ⟨k, 0, none⟩), .int .u8 b, .pointer x] w1 fun e w' => e = .returned (.tuple #[]) ∧ kPost k (kindOf (l.length + 1)) (kins l b (.pointer x)) S w (.returned (.tuple #[])) e w') := fun w1 q => by
        obtain ⟨n, q⟩ := q
        obtain ⟨_, S', q1, q2, q3⟩ := q.from
        refine (kd_put q1 b hb (Or.inr (by omega)) x).mono fun e w' p => ⟨p.1, kPost.after (rm := 0) (l1 := []) q2 q3 p⟩
      rw [hlen]
      clear hh hge hle hlt
      generalize kins l b (.pointer x) = l' at *
      have hknd2 : Hid (∀ n, Calls Try.prog 100 #[.pointer (some ⟨k, 0, none⟩)] (w.drewN n) fun e w' => e = .returned (.int .i64 (l.length : Nat)) ∧ w.drewN n = w') := by
        intro n; have := hknd.out n; rw [heq] at this; exact this
      generalize kindOf (l.length + 1) = m at *
      clear h hs hl hlen h256 hknd heq
      generalize l.length = n at *
      go_enter Try.func97, Try.ntmps97
      go_wp2_with (first | (go_at_call 146; refine hok.out.mono ?_; rintro e w' ⟨rfl, rfl⟩) | (go_at_call 90; refine hget.out.mono ?_; rintro e w' ⟨rfl, nd, rfl⟩; rw [hgv.out]) | (go_at_call 101; refine (hcnt.out _).mono ?_; rintro e w' ⟨rfl, rfl⟩) | (go_at_call 100; refine (hknd2.out _).mono ?_; rintro e w' ⟨rfl, rfl⟩) | (go_at_call 14; refine (hkd.out _).mono ?_; rintro e w' ⟨rfl, rfl⟩) | (go_at_call 157; refine (hmv.out _).mono ?_; rintro e w1 ⟨rfl, q⟩; have q := Lib.hid (hput.out w1 ⟨nd, rfl, q⟩)) | (go_at_call 158; refine q.out.mono ?_; rintro e w' ⟨rfl, q'⟩; have q' := Lib.hid q'))
      go_ret
      exact q'.out.ret
end N
end Go.Proofs.Ytkonbldjmcccmaa
