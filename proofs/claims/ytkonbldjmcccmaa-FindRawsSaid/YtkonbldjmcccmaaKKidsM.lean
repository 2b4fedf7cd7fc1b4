/- Kids: move. -/
import Derived.Test.YtkonbldjmcccmaaKKidsX
import Derived.Deep.WholeRow
set_option linter.unusedVariables false
set_option linter.unusedSimpArgs false
namespace Go.Proofs.Ytkonbldjmcccmaa
open Go.RowKit
namespace I
variable {w : World} {k rm rm' : Nat} {l : KV} {S : Nat → Prop}
theorem kd_info : (Try.prog.info? kdT).map (·.size) = some 2 := by kernel_rfl
/-- what of the things has been moved, those below t -/
def mvInv (rm' : Nat) (l : KV) (w : World) (t : Nat) (wr : World) : Prop :=
  ∃ S1, KdAt wr w.heap.size rm' (klt l t) S1 ∧ Below w.heap.size w wr ∧ ∀ j, S1 j → w.heap.size ≤ j
theorem mvInv.drewN {t : Nat} {wr : World} (h : mvInv rm' l w t wr) (n : Nat) : mvInv rm' l w t (wr.drewN n) := by
  obtain ⟨S1, h1, h2, h3⟩ := h
  exact ⟨S1, h1.drewN n, ⟨h2.os, h2.tape, h2.output, h2.size, h2.block⟩, h3⟩
/-- the kids' own two cells are put where the first ones were -/
def mvEnd (k rm' : Nat) (l : KV) (S : Nat → Prop) (w wr : World) : Prop :=
  ∃ a b o0 o1, wr.cell? ⟨w.heap.size, 0, none⟩ = some (.pointer a) ∧ wr.cell? ⟨w.heap.size, 1, none⟩ = some (.pointer b) ∧ wr.cell? ⟨k, 0, none⟩ = some o0 ∧ wr.cell? ⟨k, 1, none⟩ = some o1 ∧ (∀ j, wr.frozen? ⟨k, j, none⟩ = false) ∧ Hid (kPost k rm' l S w (.returned (.tuple #[])) (.returned (.tuple #[])) ((wr.setCell ⟨k, 0, none⟩ (.pointer a)).setCell ⟨k, 1, none⟩ (.pointer b)))
theorem mv_end (h : KdAt w k rm l S) {t : Nat} {wr : World} (hi : mvInv rm' l w t wr) (ht : klt l t = l) : mvEnd k rm' l S w wr := by
  obtain ⟨S1, h1, h2, h3⟩ := hi
  rw [ht] at h1
  have hk : k < w.heap.size := h.lt k h.self
  have ho : ∃ o0 o1, w.heap[k]? = some (.cells [o0, o1].toArray kdT (0, 0)) := by
    rcases h with ⟨r, hb, _⟩ | ⟨r, S', hb, _⟩ <;> exact ⟨_, _, hb⟩
  obtain ⟨o0, o1, ho⟩ := ho
  have ho' := (h2.block k hk).trans ho
  have e1 : ∀ a, (wr.setCell ⟨k, 0, none⟩ a).heap[k]? = some (.cells [a, o1].toArray kdT (0, 0)) := fun a => by
    rw [setCell_list wr k 0 _ kdT _ ho', setRow_heap wr _ _ _ _ _ ho']; rfl
  have e2 : ∀ a b, ((wr.setCell ⟨k, 0, none⟩ a).setCell ⟨k, 1, none⟩ b).heap[k]? = some (.cells #[a, b] kdT (0, 0)) := fun a b => by
    rw [setCell_list (wr.setCell ⟨k, 0, none⟩ a) k 1 _ kdT _ (e1 a), setRow_heap (wr.setCell ⟨k, 0, none⟩ a) _ _ _ _ _ (e1 a)]; rfl
  have e3 : ∀ a b j, j ≠ k → ((wr.setCell ⟨k, 0, none⟩ a).setCell ⟨k, 1, none⟩ b).heap[j]? = wr.heap[j]? := fun a b j hj =>
    (Below.heap_setCell _ _ _ _ hj).trans (Below.heap_setCell _ _ _ _ hj)
  have hM : ∀ a b, Mod S w ((wr.setCell ⟨k, 0, none⟩ a).setCell ⟨k, 1, none⟩ b) := fun a b =>
    ((Mod.of_below h2).setCell ⟨k, 0, none⟩ a (fun _ => h.self)).setCell ⟨k, 1, none⟩ b (fun _ => h.self)
  have q0 : wr.cell? ⟨k, 0, none⟩ = some o0 := by rw [cell_of_blk ho']; rfl
  have q1 : wr.cell? ⟨k, 1, none⟩ = some o1 := by rw [cell_of_blk ho']; rfl
  have q2 : ∀ j, wr.frozen? ⟨k, j, none⟩ = false := fun j => frozen_of_blk ho' j
  rcases h1 with ⟨r, hb, hr, hne, rfl⟩ | ⟨r, S', hb, hr, hne, rfl⟩
  · have hr1 := h3 r (Or.inr rfl)
    obtain ⟨c0, c1⟩ := cells2 hb
    refine ⟨_, _, _, _, c0, c1, q0, q1, q2, rfl, fun j => j = k ∨ j = r, Or.inl ⟨r, e2 _ _, hr.keep (e3 _ _ _ (by omega)), by omega, rfl⟩, hM _ _, ?_⟩
    rintro j (rfl | rfl)
    · exact Or.inl h.self
    · exact Or.inr hr1
  · obtain ⟨c0, c1⟩ := cells2 hb
    refine ⟨_, _, _, _, c0, c1, q0, q1, q2, rfl, fun j => j = k ∨ S' j, Or.inr ⟨r, S', e2 _ _, hr.keep (fun j hj => e3 _ _ _ (by have := h3 j (Or.inr hj); omega)), fun e => by have := h3 k (Or.inr e); omega, rfl⟩, hM _ _, ?_⟩
    rintro j (rfl | hj)
    · exact Or.inl h.self
    · exact Or.inr (h3 j (Or.inr hj))
theorem knxt_val (hv : Vals l) {t : Int} {b : Nat} {v : Value} (h : knxt l t = some (b, v)) : ∃ x : Int, v = .int .i64 x := hv _ (List.mem_of_find?_eq_some h)
set_option maxHeartbeats 1000000 in
set_option maxRecDepth 100000 in
theorem kd_move (h : KdAt w k rm l S) (hv : Vals l) (hrm : rm' = 4 ∨ rm' = 16 ∨ rm' = 48 ∨ rm' = 256) (hle : l.length ≤ rm') : Calls Try.prog 136 #[.pointer (some ⟨k, 0, none⟩), .int .i64 rm'] w (kPost k rm' l S w (.returned (.tuple #[]))) := by
  obtain ⟨hs, hl, _⟩ := h.srt
  have hroom := Lib.hid (kd_room rm' hrm w)
  have H := Lib.hid h
  have HS := Lib.hid hs
  have HL := Lib.hid hl
  have HV := Lib.hid hv
  have HE := Lib.hid hle
  have start : Hid (∀ w1, (∃ S1, KdAt w1 w.heap.size rm' [] S1 ∧ Below w.heap.size w w1 ∧ ∀ j, S1 j → w.heap.size ≤ j) → mvInv rm' l w 0 w1) := fun w1 q => by
    obtain ⟨S1, q1, q2, q3⟩ := q
    exact ⟨S1, by rw [klt_zero]; exact q1, q2, q3⟩
  have nx : Hid (∀ t wr, t < 256 → mvInv rm' l w t wr → Calls Try.prog 185 #[.pointer (some ⟨k, 0, none⟩), .int .i64 (t : Nat)] wr fun e w' => e = .returned (atV (knxt l (t : Nat))) ∧ ∃ n, w' = wr.drewN n) := fun t wr ht q => by
    obtain ⟨S1, q1, q2, q3⟩ := q
    exact kd_next (h.below q2) (t : Nat) (by omega) (by omega)
  have pt : Hid (∀ t wr b x, mvInv rm' l w t wr → knxt l (t : Nat) = some (b, .int .i64 x) → Calls Try.prog 137 #[.pointer (some ⟨w.heap.size, 0, none⟩), .int .u8 (b : Nat), .int .i64 x] wr fun e w' => e = .returned (.tuple #[]) ∧ mvInv rm' l w (b + 1) w') := fun t wr b x q hk => by
    obtain ⟨S1, q1, q2, q3⟩ := q
    obtain ⟨h1, h2, h3⟩ := klt_ins hs hk
    refine (kd_put q1 b (hl _ (nxt_some hs hk).1) (Or.inr (by omega)) x).mono ?_
    rintro e w' ⟨rfl, S2, p1, p2, p3⟩
    refine ⟨rfl, S2, by rw [← h1]; exact p1, ?_, ?_⟩
    · refine q2.trans (?_ : Below w.heap.size wr w'); exact ⟨p2.os, p2.tape, p2.output, p2.size, fun j hj => p2.same j (Nat.lt_of_lt_of_le hj q2.size) (fun e => by have := q3 j e; omega)⟩
    · intro j hj
      rcases p3 j hj with e | e
      · exact q3 j e
      · have h9 := q2.size; exact Nat.le_trans h9 e
  have fin : Hid (∀ t wr, mvInv rm' l w t wr → klt l t = l → mvEnd k rm' l S w wr) := fun t wr q e => mv_end h q e
  clear h hs hl hv hle hrm
  go_enter Try.func136, Try.ntmps136
  go_wp2_with (go_at_call 132; refine hroom.out.mono ?_; rintro e w1 ⟨rfl, q⟩; have q := Lib.hid (start.out _ q))
  go_loopw [5] (fun vt wr => ∃ t : Nat, vt = .int .i64 (t : Nat) ∧ t ≤ 256 ∧ Hid (mvInv rm' l w t wr)) (fun vt _ => (256 - intOf vt).toNat)
  case atStart => exact ⟨0, rfl, by omega, q⟩
  case round =>
    obtain ⟨t, rfl, ht, hi⟩ := hrel
    by_cases hlt : t < 256
    · have hlt2 : (t : Int) < 256 := by omega
      have nx1 := Lib.hid (nx.out t wr hlt hi.out)
      cases hk : knxt l (t : Nat) with
      | none =>
        have hK : Hid (atV (knxt l (t : Nat)) = .tuple #[.int .u8 0, (.int .i64 0), .bool false]) := by show _ = _; rw [hk]; rfl
        have hf := fun n => fin.out t (wr.drewN n) (hi.out.drewN n) (klt_all hk)
        have HF := Lib.hid hf
        clear hk hlt hf
        go_wp2_with (go_at_call 185; refine nx1.out.mono ?_; rintro e w' ⟨rfl, nd, rfl⟩; rw [hK.out]; obtain ⟨a, b, o0, o1, g1, g2, g3, g4, g5, f4⟩ := HF.out nd)
        go_end0
        exact f4.out
      | some p =>
        obtain ⟨b, v⟩ := p
        obtain ⟨x, rfl⟩ := knxt_val HV.out hk
        have hK : Hid (atV (knxt l (t : Nat)) = .tuple #[.int .u8 (b : Nat), .int .i64 x, .bool true]) := by show _ = _; rw [hk]; rfl
        have hb : b < 256 := HL.out _ (nxt_some HS.out hk).1
        have htb : t ≤ b := by have := (nxt_some HS.out hk).2.1; omega
        have pt1 := Lib.hid (fun n => pt.out t (wr.drewN n) b x (hi.out.drewN n) hk)
        have hw8 : IntKind.i64.wrap ((b : Nat) : Int) = (b : Nat) := IntWalk.i64_in _ (by omega)
        have hw9 : IntKind.i64.wrap (((b : Nat) : Int) + 1) = ((b : Nat) : Int) + 1 := IntWalk.i64_in _ (by omega)
        clear hk hlt
        go_wp2_with (first | (go_at_call 185; refine nx1.out.mono ?_; rintro e w' ⟨rfl, nd, rfl⟩; rw [hK.out]) | (go_at_call 137; refine (pt1.out _).mono ?_; rintro e w' ⟨rfl, hi2⟩; have hi2 := Lib.hid hi2))
        go_roundw
        case rel => exact ⟨b + 1, (by first | rfl | go_num), by omega, hi2⟩
        case measure => (simp [intOf]) <;> omega
    · have hlt2 : ¬ (t : Int) < 256 := by omega
      have hf := fin.out t wr hi.out (by
        unfold klt; rw [List.filter_eq_self]; intro p hp; have := HL.out p hp; simp; omega)
      obtain ⟨a, b, o0, o1, g1, g2, g3, g4, g5, f4⟩ := hf
      go_wp2_with fail
      go_end0
      exact f4.out
end I

namespace N
variable {w : World} {k rm rm' : Nat} {l : KV} {S : Nat → Prop}
theorem kd_info : (Try.prog.info? kdT).map (·.size) = some 2 := by kernel_rfl
/-- what of the things has been moved, those below t -/
def mvInv (rm' : Nat) (l : KV) (w : World) (t : Nat) (wr : World) : Prop :=
  ∃ S1, KdAt wr w.heap.size rm' (klt l t) S1 ∧ Below w.heap.size w wr ∧ ∀ j, S1 j → w.heap.size ≤ j
theorem mvInv.drewN {t : Nat} {wr : World} (h : mvInv rm' l w t wr) (n : Nat) : mvInv rm' l w t (wr.drewN n) := by
  obtain ⟨S1, h1, h2, h3⟩ := h
  exact ⟨S1, h1.drewN n, ⟨h2.os, h2.tape, h2.output, h2.size, h2.block⟩, h3⟩
/-- the kids' own two cells are put where the first ones were -/
def mvEnd (k rm' : Nat) (l : KV) (S : Nat → Prop) (w wr : World) : Prop :=
  ∃ a b o0 o1, wr.cell? ⟨w.heap.size, 0, none⟩ = some (.pointer a) ∧ wr.cell? ⟨w.heap.size, 1, none⟩ = some (.pointer b) ∧ wr.cell? ⟨k, 0, none⟩ = some o0 ∧ wr.cell? ⟨k, 1, none⟩ = some o1 ∧ (∀ j, wr.frozen? ⟨k, j, none⟩ = false) ∧ Hid (kPost k rm' l S w (.returned (.tuple #[])) (.returned (.tuple #[])) ((wr.setCell ⟨k, 0, none⟩ (.pointer a)).setCell ⟨k, 1, none⟩ (.pointer b)))
theorem mv_end (h : KdAt w k rm l S) {t : Nat} {wr : World} (hi : mvInv rm' l w t wr) (ht : klt l t = l) : mvEnd k rm' l S w wr := by
  obtain ⟨S1, h1, h2, h3⟩ := hi
  rw [ht] at h1
  have hk : k < w.heap.size := h.lt k h.self
  have ho : ∃ o0 o1, w.heap[k]? = some (.cells [o0, o1].toArray kdT (0, 0)) := by
    rcases h with ⟨r, hb, _⟩ | ⟨r, S', hb, _⟩ <;> exact ⟨_, _, hb⟩
  obtain ⟨o0, o1, ho⟩ := ho
  have ho' := (h2.block k hk).trans ho
  have e1 : ∀ a, (wr.setCell ⟨k, 0, none⟩ a).heap[k]? = some (.cells [a, o1].toArray kdT (0, 0)) := fun a => by
    rw [setCell_list wr k 0 _ kdT _ ho', setRow_heap wr _ _ _ _ _ ho']; rfl
  have e2 : ∀ a b, ((wr.setCell ⟨k, 0, none⟩ a).setCell ⟨k, 1, none⟩ b).heap[k]? = some (.cells #[a, b] kdT (0, 0)) := fun a b => by
    rw [setCell_list (wr.setCell ⟨k, 0, none⟩ a) k 1 _ kdT _ (e1 a), setRow_heap (wr.setCell ⟨k, 0, none⟩ a) _ _ _ _ _ (e1 a)]; rfl
  have e3 : ∀ a b j, j ≠ k → ((wr.setCell ⟨k, 0, none⟩ a).setCell ⟨k, 1, none⟩ b).heap[j]? = wr.heap[j]? := fun a b j hj =>
    (Below.heap_setCell _ _ _ _ hj).trans (Below.heap_setCell _ _ _ _ hj)
  have hM : ∀ a b, Mod S w ((wr.setCell ⟨k, 0, none⟩ a).setCell ⟨k, 1, none⟩ b) := fun a b =>
    ((Mod.of_below h2).setCell ⟨k, 0, none⟩ a (fun _ => h.self)).setCell ⟨k, 1, none⟩ b (fun _ => h.self)
  have q0 : wr.cell? ⟨k, 0, none⟩ = some o0 := by rw [cell_of_blk ho']; rfl
  have q1 : wr.cell? ⟨k, 1, none⟩ = some o1 := by rw [cell_of_blk ho']; rfl
  have q2 : ∀ j, wr.frozen? ⟨k, j, none⟩ = false := fun j => frozen_of_blk ho' j
  rcases h1 with ⟨r, hb, hr, hne, rfl⟩ | ⟨r, S', hb, hr, hne, rfl⟩
  · have hr1 := h3 r (Or.inr rfl)
    obtain ⟨c0, c1⟩ := cells2 hb
    refine ⟨_, _, _, _, c0, c1, q0, q1, q2, rfl, fun j => j = k ∨ j = r, Or.inl ⟨r, e2 _ _, hr.keep (e3 _ _ _ (by omega)), by omega, rfl⟩, hM _ _, ?_⟩
    rintro j (rfl | rfl)
    · exact Or.inl h.self
    · exact Or.inr hr1
  · obtain ⟨c0, c1⟩ := cells2 hb
    refine ⟨_, _, _, _, c0, c1, q0, q1, q2, rfl, fun j => j = k ∨ S' j, Or.inr ⟨r, S', e2 _ _, hr.keep (fun j hj => e3 _ _ _ (by have := h3 j (Or.inr hj); omega)), fun e => by have := h3 k (Or.inr e); omega, rfl⟩, hM _ _, ?_⟩
    rintro j (rfl | hj)
    · exact Or.inl h.self
    · exact Or.inr (h3 j (Or.inr hj))
theorem knxt_val (hv : Vals l) {t : Int} {b : Nat} {v : Value} (h : knxt l t = some (b, v)) : ∃ x : (Option Addr), v = .pointer x := hv _ (List.mem_of_find?_eq_some h)
set_option maxHeartbeats 1000000 in
set_option maxRecDepth 100000 in
theorem kd_move (h : KdAt w k rm l S) (hv : Vals l) (hrm : rm' = 4 ∨ rm' = 16 ∨ rm' = 48 ∨ rm' = 256) (hle : l.length ≤ rm') : Calls Try.prog 157 #[.pointer (some ⟨k, 0, none⟩), .int .i64 rm'] w (kPost k rm' l S w (.returned (.tuple #[]))) := by
  obtain ⟨hs, hl, _⟩ := h.srt
  have hroom := Lib.hid (kd_room rm' hrm w)
  have H := Lib.hid h
  have HS := Lib.hid hs
  have HL := Lib.hid hl
  have HV := Lib.hid hv
  have HE := Lib.hid hle
  have start : Hid (∀ w1, (∃ S1, KdAt w1 w.heap.size rm' [] S1 ∧ Below w.heap.size w w1 ∧ ∀ j, S1 j → w.heap.size ≤ j) → mvInv rm' l w 0 w1) := fun w1 q => by
    obtain ⟨S1, q1, q2, q3⟩ := q
    exact ⟨S1, by rw [klt_zero]; exact q1, q2, q3⟩
  have nx : Hid (∀ t wr, t < 256 → mvInv rm' l w t wr → Calls Try.prog 88 #[.pointer (some ⟨k, 0, none⟩), .int .i64 (t : Nat)] wr fun e w' => e = .returned (atV (knxt l (t : Nat))) ∧ ∃ n, w' = wr.drewN n) := fun t wr ht q => by
    obtain ⟨S1, q1, q2, q3⟩ := q
    exact kd_next (h.below q2) (t : Nat) (by omega) (by omega)
  have pt : Hid (∀ t wr b x, mvInv rm' l w t wr → knxt l (t : Nat) = some (b, .pointer x) → Calls Try.prog 158 #[.pointer (some ⟨w.heap.size, 0, none⟩), .int .u8 (b : Nat), .pointer x] wr fun e w' => e = .returned (.tuple #[]) ∧ mvInv rm' l w (b + 1) w') := fun t wr b x q hk => by
    obtain ⟨S1, q1, q2, q3⟩ := q
    obtain ⟨h1, h2, h3⟩ := klt_ins hs hk
    refine (kd_put q1 b (hl _ (nxt_some hs hk).1) (Or.inr (by omega)) x).mono ?_
    rintro e w' ⟨rfl, S2, p1, p2, p3⟩
    refine ⟨rfl, S2, by rw [← h1]; exact p1, ?_, ?_⟩
    · refine q2.trans (?_ : Below w.heap.size wr w'); exact ⟨p2.os, p2.tape, p2.output, p2.size, fun j hj => p2.same j (Nat.lt_of_lt_of_le hj q2.size) (fun e => by have := q3 j e; omega)⟩
    · intro j hj
      rcases p3 j hj with e | e
      · exact q3 j e
      · have h9 := q2.size; exact Nat.le_trans h9 e
  have fin : Hid (∀ t wr, mvInv rm' l w t wr → klt l t = l → mvEnd k rm' l S w wr) := fun t wr q e => mv_end h q e
  clear h hs hl hv hle hrm
  go_enter Try.func157, Try.ntmps157
  go_wp2_with (go_at_call 170; refine hroom.out.mono ?_; rintro e w1 ⟨rfl, q⟩; have q := Lib.hid (start.out _ q))
  go_loopw [5] (fun vt wr => ∃ t : Nat, vt = .int .i64 (t : Nat) ∧ t ≤ 256 ∧ Hid (mvInv rm' l w t wr)) (fun vt _ => (256 - intOf vt).toNat)
  case atStart => exact ⟨0, rfl, by omega, q⟩
  case round =>
    obtain ⟨t, rfl, ht, hi⟩ := hrel
    by_cases hlt : t < 256
    · have hlt2 : (t : Int) < 256 := by omega
      have nx1 := Lib.hid (nx.out t wr hlt hi.out)
      cases hk : knxt l (t : Nat) with
      | none =>
        have hK : Hid (atV (knxt l (t : Nat)) = .tuple #[.int .u8 0, (.pointer none), .bool false]) := by show _ = _; rw [hk]; rfl
        have hf := fun n => fin.out t (wr.drewN n) (hi.out.drewN n) (klt_all hk)
        have HF := Lib.hid hf
        clear hk hlt hf
        go_wp2_with (go_at_call 88; refine nx1.out.mono ?_; rintro e w' ⟨rfl, nd, rfl⟩; rw [hK.out]; obtain ⟨a, b, o0, o1, g1, g2, g3, g4, g5, f4⟩ := HF.out nd)
        go_end0
        exact f4.out
      | some p =>
        obtain ⟨b, v⟩ := p
        obtain ⟨x, rfl⟩ := knxt_val HV.out hk
        have hK : Hid (atV (knxt l (t : Nat)) = .tuple #[.int .u8 (b : Nat), .pointer x, .bool true]) := by show _ = _; rw [hk]; rfl
        have hb : b < 256 := HL.out _ (nxt_some HS.out hk).1
        have htb : t ≤ b := by have := (nxt_some HS.out hk).2.1; omega
        have pt1 := Lib.hid (fun n => pt.out t (wr.drewN n) b x (hi.out.drewN n) hk)
        have hw8 : IntKind.i64.wrap ((b : Nat) : Int) = (b : Nat) := IntWalk.i64_in _ (by omega)
        have hw9 : IntKind.i64.wrap (((b : Nat) : Int) + 1) = ((b : Nat) : Int) + 1 := IntWalk.i64_in _ (by omega)
        clear hk hlt
        go_wp2_with (first | (go_at_call 88; refine nx1.out.mono ?_; rintro e w' ⟨rfl, nd, rfl⟩; rw [hK.out]) | (go_at_call 158; refine (pt1.out _).mono ?_; rintro e w' ⟨rfl, hi2⟩; have hi2 := Lib.hid hi2))
        go_roundw
        case rel => exact ⟨b + 1, (by first | rfl | go_num), by omega, hi2⟩
        case measure => (simp [intOf]) <;> omega
    · have hlt2 : ¬ (t : Int) < 256 := by omega
      have hf := fin.out t wr hi.out (by
        unfold klt; rw [List.filter_eq_self]; intro p hp; have := HL.out p hp; simp; omega)
      obtain ⟨a, b, o0, o1, g1, g2, g3, g4, g5, f4⟩ := hf
      go_wp2_with fail
      go_end0
      exact f4.out
end N
end Go.Proofs.Ytkonbldjmcccmaa
