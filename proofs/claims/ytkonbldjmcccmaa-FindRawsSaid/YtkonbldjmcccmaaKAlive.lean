/- Kids: alive (spunyarnlaw11): five, and four again. -/
import Derived.Test.YtkonbldjmcccmaaKKidsC
import Derived.Test.YtkonbldjmcccmaaKKidsB
set_option linter.unusedVariables false
set_option linter.unusedSimpArgs false
namespace Go.Proofs.Ytkonbldjmcccmaa
open Go.RowKit
/-- kids that were made since w0 -/
def KidsIn (w0 w : World) (k : Nat) (l : KV) (S : Nat → Prop) : Prop := I.KdAt w k (kindOf l.length) l S ∧ I.Vals l ∧ ∀ j, S j → w0.heap.size ≤ j
theorem KidsIn.other {w0 w w' : World} {k : Nat} {l : KV} {S T : Nat → Prop} (h : KidsIn w0 w k l S) (hm : Mod T w w') (hd : ∀ j, S j → ¬ T j) : KidsIn w0 w' k l S :=
  ⟨h.1.keep fun j hj => hm.same j (h.1.lt j hj) (hd j hj), h.2⟩
theorem KidsIn.drewN {w0 w : World} {k : Nat} {l : KV} {S : Nat → Prop} (h : KidsIn w0 w k l S) (n : Nat) : KidsIn w0 (w.drewN n) k l S := ⟨h.1.drewN n, h.2⟩
/-- what a call does that turns kids k into l' -/
def TurnsTo (w0 w : World) (k : Nat) (l' : KV) (S : Nat → Prop) (w' : World) : Prop := ∃ S', KidsIn w0 w' k l' S' ∧ Mod S w w' ∧ ∀ j, S' j → S j ∨ w.heap.size ≤ j
theorem TurnsTo.of {w0 w w' : World} {k : Nat} {l' : KV} {S : Nat → Prop} {E e : Ending} (hw : w0.heap.size ≤ w.heap.size) (hS : ∀ j, S j → w0.heap.size ≤ j) (hv : I.Vals l') (h : I.kPost k (kindOf l'.length) l' S w E e w') : TurnsTo w0 w k l' S w' := by
  obtain ⟨_, S', h1, h2, h3⟩ := h
  refine ⟨S', ⟨h1, hv, fun j hj => ?_⟩, h2, h3⟩
  rcases h3 j hj with e | e
  · exact hS j e
  · omega
section
variable {w0 w : World} {k : Nat} {l : KV} {S : Nat → Prop}
theorem ki_set (h : KidsIn w0 w k l S) (hw : w0.heap.size ≤ w.heap.size) (b : Nat) (hb : b < 256) (x : Int) : Calls Try.prog 83 #[.pointer (some ⟨k, 0, none⟩), .int .u8 b, .int .i64 x] w fun e w' => e = .returned (.int .i64 0) ∧ TurnsTo w0 w k (kins l b (.int .i64 x)) S w' :=
  (I.kd_set h.1 h.2.1 b hb x).mono fun e w' q => ⟨q.1, TurnsTo.of hw h.2.2 (I.Vals.ins h.2.1 b x) q⟩
theorem ki_drop (h : KidsIn w0 w k l S) (hw : w0.heap.size ≤ w.heap.size) (b : Nat) (hb : b < 256) : Calls Try.prog 85 #[.pointer (some ⟨k, 0, none⟩), .int .u8 b] w fun e w' => e = .returned (.int .i64 (if has l b then 0 else 6)) ∧ TurnsTo w0 w k (kdel l b) S w' :=
  (I.kd_drop h.1 h.2.1 b hb).mono fun e w' q => ⟨q.1, TurnsTo.of hw h.2.2 (I.Vals.del h.2.1 b) q⟩
theorem ki_new (w0 w : World) (hw : w0.heap.size ≤ w.heap.size) : Calls Try.prog 81 #[] w fun e w' => ∃ k S, e = .returned (.pointer (some ⟨k, 0, none⟩)) ∧ KidsIn w0 w' k [] S ∧ Below w.heap.size w w' ∧ ∀ j, S j → w.heap.size ≤ j := by
  refine (I.kd_new w).mono ?_
  rintro e w' ⟨rfl, S, h1, h2, h3⟩
  exact ⟨_, S, rfl, ⟨h1, (fun p hp => by simp at hp), fun j hj => Nat.le_trans hw (h3 j hj)⟩, h2, h3⟩
theorem ki_copy (h : KidsIn w0 w k l S) (hw : w0.heap.size ≤ w.heap.size) : Calls Try.prog 87 #[.pointer (some ⟨k, 0, none⟩)] w fun e w' => ∃ k' S', e = .returned (.pointer (some ⟨k', 0, none⟩)) ∧ KidsIn w0 w' k' l S' ∧ Below w.heap.size w w' ∧ ∀ j, S' j → w.heap.size ≤ j := by
  refine (I.kd_copy h.1).mono ?_
  rintro e w' ⟨k', S', rfl, h1, h2, h3⟩
  exact ⟨k', S', rfl, ⟨h1, h.2.1, fun j hj => Nat.le_trans hw (h3 j hj)⟩, h2, h3⟩
end
/-- one kids, made since w0, and nothing of what was before has changed -/
def Solo (w0 w : World) (k : Nat) (l : KV) : Prop := ∃ S, KidsIn w0 w k l S ∧ Below w0.heap.size w0 w
theorem Solo.drewN {w0 w : World} {k : Nat} {l : KV} (h : Solo w0 w k l) (n : Nat) : Solo w0 (w.drewN n) k l := by
  obtain ⟨S, h1, h2⟩ := h
  exact ⟨S, h1.drewN n, ⟨h2.os, h2.tape, h2.output, h2.size, h2.block⟩⟩
theorem below_mod {w0 w w' : World} {S : Nat → Prop} (h : Below w0.heap.size w0 w) (hm : Mod S w w') (hS : ∀ j, S j → w0.heap.size ≤ j) : Below w0.heap.size w0 w' := by
  refine h.trans (?_ : Below w0.heap.size w w')
  have := h.size
  exact ⟨hm.os, hm.tape, hm.output, hm.size, fun j hj => hm.same j (by omega) (fun e => by have := hS j e; omega)⟩
theorem Solo.turn {w0 w w' : World} {k : Nat} {l' : KV} {S : Nat → Prop} (hB : Below w0.heap.size w0 w) (hS : ∀ j, S j → w0.heap.size ≤ j) (h : TurnsTo w0 w k l' S w') : Solo w0 w' k l' := by
  obtain ⟨S', h1, h2, h3⟩ := h
  exact ⟨S', h1, below_mod hB h2 hS⟩
section
variable {w0 w : World} {k : Nat} {l : KV}
theorem so_new (w0 w : World) (hw : Below w0.heap.size w0 w) : Calls Try.prog 81 #[] w fun e w' => ∃ k, e = .returned (.pointer (some ⟨k, 0, none⟩)) ∧ Solo w0 w' k [] := by
  refine (ki_new w0 w hw.size).mono ?_
  rintro e w' ⟨k, S, rfl, h1, h2, h3⟩
  exact ⟨k, rfl, S, h1, hw.trans (h2.mono hw.size)⟩
theorem so_set (h : Solo w0 w k l) (b : Nat) (hb : b < 256) (x : Int) : Calls Try.prog 83 #[.pointer (some ⟨k, 0, none⟩), .int .u8 b, .int .i64 x] w fun e w' => e = .returned (.int .i64 0) ∧ Solo w0 w' k (kins l b (.int .i64 x)) := by
  obtain ⟨S, h1, h2⟩ := h
  exact (ki_set h1 h2.size b hb x).mono fun e w' q => ⟨q.1, Solo.turn h2 h1.2.2 q.2⟩
theorem so_drop (h : Solo w0 w k l) (b : Nat) (hb : b < 256) : Calls Try.prog 85 #[.pointer (some ⟨k, 0, none⟩), .int .u8 b] w fun e w' => e = .returned (.int .i64 (if has l b then 0 else 6)) ∧ Solo w0 w' k (kdel l b) := by
  obtain ⟨S, h1, h2⟩ := h
  exact (ki_drop h1 h2.size b hb).mono fun e w' q => ⟨q.1, Solo.turn h2 h1.2.2 q.2⟩
theorem so_copy (h : Solo w0 w k l) : Calls Try.prog 87 #[.pointer (some ⟨k, 0, none⟩)] w fun e w' => ∃ k', e = .returned (.pointer (some ⟨k', 0, none⟩)) ∧ Solo w0 w' k' l := by
  obtain ⟨S, h1, h2⟩ := h
  refine (ki_copy h1 h2.size).mono ?_
  rintro e w' ⟨k', S', rfl, q1, q2, q3⟩
  exact ⟨k', rfl, S', q1, h2.trans (q2.mono h2.size)⟩
theorem so_len (h : Solo w0 w k l) : Calls Try.prog 86 #[.pointer (some ⟨k, 0, none⟩)] w fun e w' => e = .returned (.int .i64 l.length) ∧ w = w' := by
  obtain ⟨S, h1, h2⟩ := h; exact I.kd_len h1.1
theorem so_kind (h : Solo w0 w k l) : Calls Try.prog 82 #[.pointer (some ⟨k, 0, none⟩)] w fun e w' => e = .returned (.int .i64 (kindOf l.length : Nat)) ∧ w = w' := by
  obtain ⟨S, h1, h2⟩ := h; exact I.kd_kind h1.1
theorem so_get (h : Solo w0 w k l) (b : Nat) (hb : b < 256) : Calls Try.prog 84 #[.pointer (some ⟨k, 0, none⟩), .int .u8 b] w fun e w' => e = .returned (I.getV (kget l b)) ∧ ∃ n, w' = w.drewN n := by
  obtain ⟨S, h1, h2⟩ := h; exact I.kd_get h1.1 b hb
end
def aliveL (i : Nat) : KV := (List.range i).map fun b => (b, .int .i64 (b : Nat))
theorem aliveL_next {i : Nat} (h : i < 5) : kins (aliveL i) i (.int .i64 (i : Nat)) = aliveL (i + 1) := by
  have : i = 0 ∨ i = 1 ∨ i = 2 ∨ i = 3 ∨ i = 4 := by omega
  rcases this with rfl | rfl | rfl | rfl | rfl <;> rfl
/-- what a statement's walk ends with -/
def LawPost (w : World) (e : Ending) (w' : World) : Prop := e = .returned (.bool true) ∧ Below w.heap.size w w'
set_option maxHeartbeats 1000000 in
theorem alive_any (w : World) : Calls Try.prog 16 #[] w (LawPost w) := by
  have hnew := Lib.hid (so_new w w (Below.refl _ w))
  have hset : Hid (∀ k i wr, i < 5 → Solo w wr k (aliveL i) → Calls Try.prog 83 #[.pointer (some ⟨k, 0, none⟩), .int .u8 (i : Nat), .int .i64 (i : Nat)] wr fun e w' => e = .returned (.int .i64 0) ∧ Solo w w' k (aliveL (i + 1))) := fun k i wr hi q => by
    have := so_set q i (by omega) (i : Nat)
    rw [aliveL_next hi] at this
    exact this
  have hkind : Hid (∀ k wr, Solo w wr k [] → Calls Try.prog 82 #[.pointer (some ⟨k, 0, none⟩)] wr fun e w' => e = .returned (.int .i64 4) ∧ wr = w') := fun k wr q => so_kind q
  have hkind5 : Hid (∀ k wr, Solo w wr k (aliveL 5) → Calls Try.prog 82 #[.pointer (some ⟨k, 0, none⟩)] wr fun e w' => e = .returned (.int .i64 16) ∧ wr = w') := fun k wr q => so_kind q
  have hkind4 : Hid (∀ k wr, Solo w wr k (aliveL 4) → Calls Try.prog 82 #[.pointer (some ⟨k, 0, none⟩)] wr fun e w' => e = .returned (.int .i64 4) ∧ wr = w') := fun k wr q => so_kind q
  have hlen4 : Hid (∀ k wr, Solo w wr k (aliveL 4) → Calls Try.prog 86 #[.pointer (some ⟨k, 0, none⟩)] wr fun e w' => e = .returned (.int .i64 4) ∧ wr = w') := fun k wr q => so_len q
  have hget : Hid (∀ k wr, Solo w wr k (aliveL 5) → Calls Try.prog 84 #[.pointer (some ⟨k, 0, none⟩), .int .u8 4] wr fun e w' => e = .returned (.tuple #[.int .i64 4, .bool true]) ∧ ∃ n, w' = wr.drewN n) := fun k wr q => so_get q 4 (by omega)
  have hdrop : Hid (∀ k wr, Solo w wr k (aliveL 5) → Calls Try.prog 85 #[.pointer (some ⟨k, 0, none⟩), .int .u8 4] wr fun e w' => e = .returned (.int .i64 0) ∧ Solo w w' k (aliveL 4)) := fun k wr q => so_drop q 4 (by omega)
  have hcopy : Hid (∀ k wr, Solo w wr k (aliveL 4) → Calls Try.prog 87 #[.pointer (some ⟨k, 0, none⟩)] wr fun e w' => ∃ k', e = .returned (.pointer (some ⟨k', 0, none⟩)) ∧ Solo w w' k' (aliveL 4)) := fun k wr q => so_copy q
  have hk17 : Hid (∀ w, Calls Try.prog 14 #[.int .i64 17] w fun e w' => e = .returned (.int .i64 48) ∧ w = w') := fun w => kindOf_nat 17 (by omega) w
  have hend : Hid (∀ k wr l, Solo w wr k l → Below w.heap.size w wr) := fun k wr l q => by obtain ⟨S, _, q⟩ := q; exact q
  go_enter Try.func16, Try.ntmps16
  go_wp2_with (first | (go_at_call 81; refine hnew.out.mono ?_; rintro e w1 ⟨k, rfl, q⟩; have q := Lib.hid q) | (go_at_call 82; refine (hkind.out _ _ q.out).mono ?_; rintro e w' ⟨rfl, rfl⟩))
  go_loopw [13] (fun vi wr => ∃ i : Nat, vi = .int .i64 (i : Nat) ∧ i ≤ 5 ∧ Hid (Solo w wr k (aliveL i))) (fun vi _ => (5 - intOf vi).toNat)
  case atStart => exact ⟨0, rfl, by omega, q⟩
  case round =>
    obtain ⟨i, rfl, hi, hs⟩ := hrel
    by_cases hlt : i < 5
    · have hlt2 : (i : Int) < 5 := by omega
      have hset1 := Lib.hid (hset.out k i wr hlt hs.out)
      have hw8 : IntKind.u8.wrap ((i : Nat) : Int) = (i : Nat) := IntWalk.u8_in _ (by omega)
      have hw9 : IntKind.i64.wrap (((i : Nat) : Int) + 1) = ((i : Nat) : Int) + 1 := IntWalk.i64_in _ (by omega)
      clear hlt
      go_wp2_with (go_at_call 83; refine hset1.out.mono ?_; rintro e w' ⟨rfl, q2⟩; have q2 := Lib.hid q2)
      go_roundw
      case rel => exact ⟨i + 1, (by first | rfl | go_num), by omega, q2⟩
      case measure => (simp [intOf]) <;> omega
    · obtain rfl : i = 5 := by omega
      clear hlt
      go_wp2_with (first | (go_at_call 84; refine (hget.out _ _ hs.out).mono ?_; rintro e w' ⟨rfl, nd, rfl⟩; have hs2 := Lib.hid (hs.out.drewN nd)) | (go_at_call 82; refine (hkind4.out _ _ hs3.out).mono ?_; rintro e w' ⟨rfl, rfl⟩) | (go_at_call 82; refine (hkind5.out _ _ hs2.out).mono ?_; rintro e w' ⟨rfl, rfl⟩) | (go_at_call 85; refine (hdrop.out _ _ hs2.out).mono ?_; rintro e w' ⟨rfl, hs3⟩; have hs3 := Lib.hid hs3) | (go_at_call 86; refine (hlen4.out _ _ hs4.out).mono ?_; rintro e w' ⟨rfl, rfl⟩) | (go_at_call 86; refine (hlen4.out _ _ hs3.out).mono ?_; rintro e w' ⟨rfl, rfl⟩) | (go_at_call 87; refine (hcopy.out _ _ hs3.out).mono ?_; rintro e w' ⟨k2, rfl, hs4⟩; have hs4 := Lib.hid hs4) | (go_at_call 14; refine (hk17.out _).mono ?_; rintro e w' ⟨rfl, rfl⟩))
      go_ret
      exact ⟨rfl, hend.out _ _ _ hs4.out⟩
end Go.Proofs.Ytkonbldjmcccmaa
