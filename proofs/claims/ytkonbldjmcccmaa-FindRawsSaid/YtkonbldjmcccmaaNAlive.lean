/- Nodes and a meter beside them; alive (spunyarnlaw12): a leaf that is another one's kid. -/
import Derived.Test.YtkonbldjmcccmaaNStore
import Derived.Test.YtkonbldjmcccmaaNPart
import Derived.Lib.SmallJoins
set_option linter.unusedVariables false
set_option linter.unusedSimpArgs false
namespace Go.Proofs.Ytkonbldjmcccmaa
open Go.RowKit
/-- a meter that has counted x -/
def Met (w : World) (b : Nat) (x : Int) : Prop := w.heap[b]? = some (.cells #[.int .i64 x] 35 (0, 0))
theorem Met.cell {w : World} {b : Nat} {x : Int} (h : Met w b x) : w.cell? ⟨b, 0, none⟩ = some (.int .i64 x) := by
  have := cell_of_blk (c := [.int .i64 x]) h 0
  rw [this]; rfl
theorem Met.fz {w : World} {b : Nat} {x : Int} (h : Met w b x) : w.frozen? ⟨b, 0, none⟩ = false := frozen_of_blk h 0
theorem Met.set {w : World} {b : Nat} {x : Int} (h : Met w b x) (y : Int) : Met (w.setCell ⟨b, 0, none⟩ (.int .i64 y)) b y := by
  have h' : w.heap[b]? = some (.cells [.int .i64 x].toArray 35 (0, 0)) := h
  unfold Met
  rw [setCell_list w b 0 _ _ _ h', setRow_heap w _ _ _ _ _ h']; rfl
/-- nodes, made since w0, and a meter of before -/
def NM (mb : Nat) (w0 w : World) (P : List NP) (x : Int) : Prop := mb < w0.heap.size ∧ StoreP (· = mb) w0 w P ∧ Met w mb x
section
variable {mb : Nat} {w0 w w' : World} {P : List NP} {x : Int}
theorem NM.turn {P' : List NP} (h : NM mb w0 w P x) (t : TurnsP (· = mb) w0 w P' w') : NM mb w0 w' P' x :=
  ⟨h.1, t.1, (t.2.block mb h.1).trans h.2.2⟩
theorem NM.below (h : NM mb w0 w P x) (t : Below w.heap.size w w') : NM mb w0 w' P x :=
  ⟨h.1, h.2.1.below t, (t.block mb (Nat.lt_of_lt_of_le h.1 h.2.1.size)).trans h.2.2⟩
theorem NM.alloc (h : NM mb w0 w P x) (o : Obj) : NM mb w0 (w.alloc o) P x := h.below ((Below.refl _ w).alloc (Nat.le_refl _) o)
theorem NM.drewN (h : NM mb w0 w P x) (n : Nat) : NM mb w0 (w.drewN n) P x := ⟨h.1, h.2.1.drewN n, h.2.2⟩
theorem NM.count (h : NM mb w0 w P x) (y : Int) : NM mb w0 (w.setCell ⟨mb, 0, none⟩ (.int .i64 y)) P y :=
  ⟨h.1, h.2.1.old (T := (· = mb)) ((Mod.refl _ w).setCell ⟨mb, 0, none⟩ _ (fun _ => rfl)) (fun j e => by rw [e]; exact h.1) (fun j e => e), h.2.2.set y⟩
theorem NM.start (w : World) (m : Nat) (h : Met w m 0) (hm : m < w.heap.size) : NM m w w [] 0 := ⟨hm, StoreP.nil _ (Mod.refl _ _), h⟩
/-- bytes over the meter's turn -/
theorem bytes_keep {a : Option Addr} {bs : List Nat} (h : BytesAt w a bs) {T : Nat → Prop} (hm : Mod T w w') (hT : ∀ p : Addr, a = some p → ¬ T p.block) : BytesAt w' a bs :=
  ⟨h.1, fun i hi => by
    obtain ⟨p, rfl, h1, h2⟩ := h.2 i hi
    have hb : (p.add i).block = p.block := by unfold Addr.add; split <;> rfl
    have := hm.same p.block (by rw [← hb]; exact h1) (hT p rfl)
    refine ⟨p, rfl, Nat.lt_of_lt_of_le h1 hm.size, ?_⟩
    rw [← h2]
    unfold World.cell?
    rw [hb, this]⟩
theorem nm_inner (h : NM mb w0 w P x) (hx : IntKind.i64.wrap (x + 1) = x + 1) (o : Int) (a : Option Addr) (n c : Nat) (bs : List Nat) (hn : bs.length = n) (hb : BytesAt w a bs) (hT : ∀ p : Addr, a = some p → p.block ≠ mb) (hl : n ≤ 140737488355328) (hnil : a = none → n = 0) : Calls Try.prog 44 #[.pointer (some ⟨mb, 0, none⟩), .int .u64 o, .slice a n c] w fun e w' => ∃ k, e = .returned (.pointer (some ⟨k, 0, none⟩)) ∧ w.heap.size ≤ k ∧ NM mb w0 w' (P ++ [⟨k, o, bs, 0, false, some []⟩]) (x + 1) := by
  have hq := h.count (x + 1)
  have hb' := bytes_keep hb ((Mod.refl (· = mb) w).setCell ⟨mb, 0, none⟩ (.int .i64 (x + 1)) (fun _ => rfl)) hT
  refine (nd_inner_made w _ _ o a n c bs (made_one w mb 0 x h.2.2.cell h.2.2.fz hx) hn hb' hl hnil).mono ?_
  intro e w' q
  obtain ⟨k, rfl, h1, h2⟩ := hq.2.1.made ⟨hb.1, by rw [hn]; exact hl⟩ q
  exact ⟨k, rfl, by simpa [World.setCell] using h1, hq.turn h2⟩
theorem nm_leaf (h : NM mb w0 w P x) (hx : IntKind.i64.wrap (x + 1) = x + 1) (o v : Int) (a : Option Addr) (n c : Nat) (bs : List Nat) (hn : bs.length = n) (hb : BytesAt w a bs) (hT : ∀ p : Addr, a = some p → p.block ≠ mb) (hl : n ≤ 140737488355328) (hnil : a = none → n = 0) : Calls Try.prog 43 #[.pointer (some ⟨mb, 0, none⟩), .int .u64 o, .slice a n c, .int .u64 v] w fun e w' => ∃ k, e = .returned (.pointer (some ⟨k, 0, none⟩)) ∧ w.heap.size ≤ k ∧ NM mb w0 w' (P ++ [⟨k, o, bs, v, true, none⟩]) (x + 1) := by
  have hq := h.count (x + 1)
  have hb' := bytes_keep hb ((Mod.refl (· = mb) w).setCell ⟨mb, 0, none⟩ (.int .i64 (x + 1)) (fun _ => rfl)) hT
  refine (nd_leaf_made w _ _ o v a n c bs (made_one w mb 0 x h.2.2.cell h.2.2.fz hx) hn hb' hl hnil).mono ?_
  intro e w' q
  obtain ⟨k, rfl, h1, h2⟩ := hq.2.1.made ⟨hb.1, by rw [hn]; exact hl⟩ q
  exact ⟨k, rfl, by simpa [World.setCell] using h1, hq.turn h2⟩
end
/-- one byte that the walk has just laid -/
theorem byte_new (w : World) (b : Nat) (hb : b < 256) (t : TypeId) (fr : Nat × Nat) : BytesAt (w.alloc (.cells #[.int .u8 (b : Nat)] t fr)) (some ⟨w.heap.size, 0, none⟩) [b] := by
  refine ⟨by simp; exact hb, fun i hi => ⟨_, rfl, ?_, ?_⟩⟩
  · rw [add0]; simp
  · obtain rfl : i = 0 := by simpa using hi
    rw [add0]
    have := Joins.cell_of_block (heap_alloc_new w (.cells #[.int .u8 (b : Nat)] t fr)) 0
    rw [this]; rfl
section
variable {w0 w : World} {P : List NP} {i : Nat} {p : NP} {X : Nat → Prop}
theorem sp_val (h : StoreP X w0 w P) (hi : P[i]? = some p) : Calls Try.prog 17 #[.pointer (some ⟨p.n, 0, none⟩)] w fun e w' => e = .returned (if p.has then .tuple #[.int .u64 p.val, .bool true] else .tuple #[.int .u64 0, .bool false]) ∧ w = w' := by
  obtain ⟨pv, bo, kp, Sk, q⟩ := h.is hi
  exact nd_val q
theorem sp_kid (h : StoreP X w0 w P) (hi : P[i]? = some p) (b : Nat) (hb : b < 256) : Calls Try.prog 20 #[.pointer (some ⟨p.n, 0, none⟩), .int .u8 b] w fun e w' => e = .returned ((kget (p.kk.getD []) b).getD (.pointer none)) ∧ ∃ n, w' = w.drewN n := by
  obtain ⟨pv, bo, kp, Sk, q⟩ := h.is hi
  exact nd_kid q b hb
theorem sp_kind (h : StoreP X w0 w P) (hi : P[i]? = some p) : Calls Try.prog 29 #[.pointer (some ⟨p.n, 0, none⟩)] w fun e w' => e = .returned (.int .i64 (ndKind p.kk : Nat)) ∧ w = w' := by
  obtain ⟨pv, bo, kp, Sk, q⟩ := h.is hi
  exact nd_kind q
theorem sp_occ (h : StoreP X w0 w P) (hi : P[i]? = some p) : Calls Try.prog 31 #[.pointer (some ⟨p.n, 0, none⟩)] w fun e w' => e = .returned (.int .i64 (if p.has then (klen p.kk + 1 : Nat) else (klen p.kk : Nat))) ∧ w = w' := by
  obtain ⟨pv, bo, kp, Sk, q⟩ := h.is hi
  exact nd_occ q
theorem sp_len (h : StoreP X w0 w P) (hi : P[i]? = some p) : Calls Try.prog 30 #[.pointer (some ⟨p.n, 0, none⟩)] w fun e w' => e = .returned (.int .i64 (klen p.kk : Nat)) ∧ w = w' := by
  obtain ⟨pv, bo, kp, Sk, q⟩ := h.is hi
  exact nd_len q
theorem sp_owner (h : StoreP X w0 w P) (hi : P[i]? = some p) : Calls Try.prog 33 #[.pointer (some ⟨p.n, 0, none⟩)] w fun e w' => e = .returned (.int .u64 p.o) ∧ w = w' := by
  obtain ⟨pv, bo, kp, Sk, q⟩ := h.is hi
  exact nd_owner q
theorem sp_part (h : StoreP X w0 w P) (hi : P[i]? = some p) : Calls Try.prog 32 #[.pointer (some ⟨p.n, 0, none⟩)] w (gotPost p.bs w) := by
  obtain ⟨pv, bo, kp, Sk, q⟩ := h.is hi
  exact nd_part q (h.fit hi).1 (h.fit hi).2
theorem sp_setval_no (h : StoreP X w0 w P) (hi : P[i]? = some p) (x v : Int) (h0 : x = 0 ∨ x ≠ p.o) : Calls Try.prog 25 #[.pointer (some ⟨p.n, 0, none⟩), .int .u64 x, .int .u64 v] w fun e w' => e = .returned (.int .i64 11) ∧ w = w' := by
  obtain ⟨pv, bo, kp, Sk, q⟩ := h.is hi
  exact nd_setval_no q x v h0
end
/-- alive's nodes -/
def aN (n k : Nat) : NP := ⟨n, 3, [97], 0, false, some [(7, .pointer (some ⟨k, 0, none⟩))]⟩
def aK (k : Nat) : NP := ⟨k, 3, [98], 5, true, none⟩
set_option maxHeartbeats 1000000 in
set_option maxRecDepth 100000 in
theorem aliveN_any (w : World) : Calls Try.prog 34 #[] w (LawPost w) := by
  obtain ⟨w0, hw0⟩ : ∃ w0, Hid (w0 = w.alloc (.cells #[.int .i64 0] 35)) := ⟨_, rfl⟩
  have hs0 : Hid (w0.heap.size = w.heap.size + 1) := by show _ = _; rw [hw0.out]; simp
  have hst : Hid (NM w.heap.size w0 w0 [] 0) := by
    refine NM.start _ _ ?_ (by rw [hs0.out]; omega)
    unfold Met
    rw [hw0.out, heap_alloc_new]
  have hlaw : Hid (∀ w' P x, NM w.heap.size w0 w' P x → Below w.heap.size w w') := fun w' P x q => by
    have m := q.2.1.mod
    refine ⟨m.os.trans ?_, m.tape.trans ?_, m.output.trans ?_, ?_, fun j hj => (m.same j (by rw [hs0.out]; omega) (fun e => by omega)).trans ?_⟩
    · rw [hw0.out]; rfl
    · rw [hw0.out]; rfl
    · rw [hw0.out]; rfl
    · have := m.size; rw [hs0.out] at this; omega
    · rw [hw0.out]; exact Below.heap_alloc _ _ _ hj
  have hin : Hid (∀ w1 wb sz, wb = w1.alloc (.cells #[.int .u8 97] 5 (1, 2)) → sz = w1.heap.size → NM w.heap.size w0 w1 [] 0 → Calls Try.prog 44 #[.pointer (some ⟨w.heap.size, 0, none⟩), .int .u64 3, .slice (some ⟨sz, 0, none⟩) 1 1] wb fun e w' => ∃ k, e = .returned (.pointer (some ⟨k, 0, none⟩)) ∧ NM w.heap.size w0 w' [⟨k, 3, [97], 0, false, some []⟩] 1) := fun w1 wb sz e1 e2 q => by
    subst e1 e2
    refine (nm_inner (q.alloc (.cells #[.int .u8 97] 5 (1, 2))) rfl 3 _ 1 1 [97] rfl (byte_new w1 97 (by omega) _ _) (fun p e => ?_) (by omega) (fun e => by cases e)).mono ?_
    · have := q.1; have := q.2.1.size; cases e; show w1.heap.size ≠ _; omega
    · rintro e w' ⟨k, rfl, _, h⟩; exact ⟨k, rfl, h⟩
  have hlf : Hid (∀ w1 n, NM w.heap.size w0 w1 [⟨n, 3, [97], 0, false, some []⟩] 1 → Calls Try.prog 43 #[.pointer (some ⟨w.heap.size, 0, none⟩), .int .u64 3, .slice (some ⟨w1.heap.size, 0, none⟩) 1 1, .int .u64 5] (w1.alloc (.cells #[.int .u8 98] 5 (1, 2))) fun e w' => ∃ k, e = .returned (.pointer (some ⟨k, 0, none⟩)) ∧ NM w.heap.size w0 w' [⟨n, 3, [97], 0, false, some []⟩, aK k] 2) := fun w1 n q => by
    refine (nm_leaf (q.alloc (.cells #[.int .u8 98] 5 (1, 2))) rfl 3 5 _ 1 1 [98] rfl (byte_new w1 98 (by omega) _ _) (fun p e => ?_) (by omega) (fun e => by cases e)).mono ?_
    · have := q.1; have := q.2.1.size; cases e; show w1.heap.size ≠ _; omega
    · rintro e w' ⟨k, rfl, _, h⟩; exact ⟨k, rfl, h⟩
  have hsk : Hid (∀ w1 n k, NM w.heap.size w0 w1 [⟨n, 3, [97], 0, false, some []⟩, aK k] 2 → Calls Try.prog 27 #[.pointer (some ⟨n, 0, none⟩), .int .u64 3, .int .u8 7, .pointer (some ⟨k, 0, none⟩)] w1 fun e w' => e = .returned (.int .i64 0) ∧ NM w.heap.size w0 w' [aN n k, aK k] 2) := fun w1 n k q => by
    refine (sp_setkid (i := 0) q.2.1 rfl (l := []) rfl 3 (by simp) 7 (by omega) ⟨k, 0, none⟩).mono ?_
    rintro e w' ⟨rfl, h⟩; exact ⟨rfl, q.turn h⟩
  have hsv : Hid (∀ w1 n k, NM w.heap.size w0 w1 [aN n k, aK k] 2 → Calls Try.prog 25 #[.pointer (some ⟨n, 0, none⟩), .int .u64 4, .int .u64 1] w1 fun e w' => e = .returned (.int .i64 11) ∧ w1 = w') := fun w1 n k q => sp_setval_no (i := 0) q.2.1 rfl 4 1 (Or.inr (by show (4 : Int) ≠ 3; decide))
  have hkid : Hid (∀ w1 n k, NM w.heap.size w0 w1 [aN n k, aK k] 2 → Calls Try.prog 20 #[.pointer (some ⟨n, 0, none⟩), .int .u8 7] w1 fun e w' => e = .returned (.pointer (some ⟨k, 0, none⟩)) ∧ ∃ n, w' = w1.drewN n) := fun w1 n k q => sp_kid (i := 0) q.2.1 rfl 7 (by omega)
  have hval : Hid (∀ w1 n k, NM w.heap.size w0 w1 [aN n k, aK k] 2 → Calls Try.prog 17 #[.pointer (some ⟨k, 0, none⟩)] w1 fun e w' => e = .returned (.tuple #[.int .u64 5, .bool true]) ∧ w1 = w') := fun w1 n k q => sp_val (i := 1) q.2.1 rfl
  have hcnt : Hid (∀ w1 P, NM w.heap.size w0 w1 P 2 → Calls Try.prog 23 #[.pointer (some ⟨w.heap.size, 0, none⟩)] w1 fun e w' => e = .returned (.int .i64 2) ∧ w1 = w') := fun w1 P q => count_is w1 _ 0 2 q.2.2.cell
  have hkn : Hid (∀ w1 n k, NM w.heap.size w0 w1 [aN n k, aK k] 2 → Calls Try.prog 29 #[.pointer (some ⟨n, 0, none⟩)] w1 fun e w' => e = .returned (.int .i64 4) ∧ w1 = w') := fun w1 n k q => sp_kind (i := 0) q.2.1 rfl
  have hkk : Hid (∀ w1 n k, NM w.heap.size w0 w1 [aN n k, aK k] 2 → Calls Try.prog 29 #[.pointer (some ⟨k, 0, none⟩)] w1 fun e w' => e = .returned (.int .i64 1) ∧ w1 = w') := fun w1 n k q => sp_kind (i := 1) q.2.1 rfl
  have hoc : Hid (∀ w1 n k, NM w.heap.size w0 w1 [aN n k, aK k] 2 → Calls Try.prog 31 #[.pointer (some ⟨n, 0, none⟩)] w1 fun e w' => e = .returned (.int .i64 1) ∧ w1 = w') := fun w1 n k q => sp_occ (i := 0) q.2.1 rfl
  have ku : Try.prog.underlying 5 = some (.int .u8) := by kernel_rfl
  have kc1 : (Go.convert 27 27 (.slice (some ⟨w.heap.size + 1, 0, none⟩) 1 1)).run Try.prog ((w.alloc (.cells #[.int .i64 0] 35)).alloc (.cells #[.int .u8 97] 5)) = .ok (.slice (some ⟨w.heap.size + 1, 0, none⟩) 1 1) ((w.alloc (.cells #[.int .i64 0] 35)).alloc (.cells #[.int .u8 97] 5 (1, 2))) := Joins.run_convert_bytes_const_at _ _ _ _ _ _ _ (by simp) cloneB_under ku
  have kc2 : ∀ w : World, (Go.convert 27 27 (.slice (some ⟨w.heap.size, 0, none⟩) 1 1)).run Try.prog (w.alloc (.cells #[.int .u8 98] 5)) = .ok (.slice (some ⟨w.heap.size, 0, none⟩) 1 1) (w.alloc (.cells #[.int .u8 98] 5 (1, 2))) := fun w => Lib.run_convert_bytes_const w _ _ _ _ _ cloneB_under ku
  go_enter Try.func34, Try.ntmps34
  go_wp2_with (first | (go_at_call 44; refine (hin.out w0 _ _ (by rw [hw0.out]) hs0.out.symm hst.out).mono ?_; rintro e w2 ⟨n, rfl, q⟩; have q := Lib.hid q) | (go_at_call 43; refine (hlf.out _ _ q.out).mono ?_; rintro e w3 ⟨k, rfl, q3⟩; have q3 := Lib.hid q3) | (go_at_call 27; refine (hsk.out _ _ _ q3.out).mono ?_; rintro e w4 ⟨rfl, q4⟩; have q4 := Lib.hid q4) | (go_at_call 25; refine (hsv.out _ _ _ q4.out).mono ?_; rintro e w' ⟨rfl, rfl⟩) | (go_at_call 20; refine (hkid.out _ _ _ q4.out).mono ?_; rintro e w' ⟨rfl, nd, rfl⟩; have q5 := Lib.hid (q4.out.drewN nd)) | (go_at_call 17; refine (hval.out _ _ _ q5.out).mono ?_; rintro e w' ⟨rfl, rfl⟩) | (go_at_call 23; refine (hcnt.out _ _ q5.out).mono ?_; rintro e w' ⟨rfl, rfl⟩) | (go_at_call 29; refine (hkk.out _ _ _ kdone.out).mono ?_; rintro e w' ⟨rfl, rfl⟩) | (go_at_call 29; refine (hkn.out _ _ _ q5.out).mono ?_; rintro e w' ⟨rfl, rfl⟩; have kdone := Lib.hid q5.out) | (go_at_call 31; refine (hoc.out _ _ _ q5.out).mono ?_; rintro e w' ⟨rfl, rfl⟩))
  go_ret
  exact ⟨rfl, hlaw.out _ _ _ q5.out⟩
end Go.Proofs.Ytkonbldjmcccmaa
