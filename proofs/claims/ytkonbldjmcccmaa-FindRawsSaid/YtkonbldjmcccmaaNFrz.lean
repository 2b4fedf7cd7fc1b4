/- A node whom nobody changes: what is asked of it, told by what it answers. -/
import Derived.Test.YtkonbldjmcccmaaNAlive
import Derived.Test.YtkonbldjmcccmaaKSame
import Derived.LaidEqlPtr
import Derived.Lib.Builder
set_option linter.unusedVariables false
set_option linter.unusedSimpArgs false
namespace Go.Proofs.Ytkonbldjmcccmaa
open Go.RowKit
theorem BytesAt.below {w w' : World} {a : Option Addr} {bs : List Nat} (h : BytesAt w a bs) (hb : Below w.heap.size w w') : BytesAt w' a bs := bytes_keep h (Mod.of_below (S := fun _ => False) hb) (fun _ _ e => e)
theorem BytesAt.drewN {w : World} {a : Option Addr} {bs : List Nat} (h : BytesAt w a bs) (n : Nat) : BytesAt (w.drewN n) a bs := ⟨h.1, h.2⟩
theorem ptr_under : Try.prog.underlying 28 = some (.pointer ndT) := by kernel_rfl
theorem ptr_info : ∃ j, Try.prog.info? ndT = some j := Option.isSome_iff_exists.1 (by kernel_rfl)
theorem ptr_eq (w : World) (a : Addr) : (binOp .eql 28 (.pointer (some a)) (.pointer (some a))).run Try.prog w = .ok (.bool true) w := by
  obtain ⟨j, hj⟩ := ptr_info
  exact run_eql_ptr_same w a ptr_under hj
theorem ptr_neq (w : World) (a : Addr) : (binOp .neq 28 (.pointer (some a)) (.pointer (some a))).run Try.prog w = .ok (.bool false) w := by
  obtain ⟨j, hj⟩ := ptr_info
  exact Lib.run_neq_ptr_same w a ptr_under hj
def NoX (_ : Nat) : Prop := False
/-- a node at n, by what it answers -/
def Frz (w0 : World) (n : Nat) (o : Int) (bs : List Nat) (val : Int) (has : Bool) (many : Nat) (b : Nat) (kid : Value) (w : World) : Prop :=
  ∃ (P : List NP) (i : Nat) (p : NP), StoreP NoX w0 w P ∧ P[i]? = some p ∧ p.n = n ∧ p.o = o ∧ p.bs = bs ∧ p.val = val ∧ p.has = has ∧ klen p.kk = many ∧ (kget (p.kk.getD []) b).getD (.pointer none) = kid
section
variable {w0 w w' : World} {n : Nat} {o : Int} {bs : List Nat} {val : Int} {has : Bool} {many b : Nat} {kid : Value}
theorem Frz.below (h : Frz w0 n o bs val has many b kid w) (hb : Below w.heap.size w w') : Frz w0 n o bs val has many b kid w' := by
  obtain ⟨P, i, p, h1, h2⟩ := h; exact ⟨P, i, p, h1.below hb, h2⟩
theorem Frz.drewN (h : Frz w0 n o bs val has many b kid w) (k : Nat) : Frz w0 n o bs val has many b kid (w.drewN k) := by
  obtain ⟨P, i, p, h1, h2⟩ := h; exact ⟨P, i, p, h1.drewN k, h2⟩
theorem Frz.old (h : Frz w0 n o bs val has many b kid w) : Below w0.heap.size w0 w := by
  obtain ⟨P, i, p, h1, h2⟩ := h; exact Mod.below h1.mod
theorem fz_val (h : Frz w0 n o bs val has many b kid w) : Calls Try.prog 17 #[.pointer (some ⟨n, 0, none⟩)] w fun e w' => e = .returned (if has then .tuple #[.int .u64 val, .bool true] else .tuple #[.int .u64 0, .bool false]) ∧ w = w' := by
  obtain ⟨P, i, p, h1, h2, rfl, rfl, rfl, rfl, rfl, rfl, rfl⟩ := h; exact sp_val h1 h2
theorem fz_len (h : Frz w0 n o bs val has many b kid w) : Calls Try.prog 30 #[.pointer (some ⟨n, 0, none⟩)] w fun e w' => e = .returned (.int .i64 (many : Nat)) ∧ w = w' := by
  obtain ⟨P, i, p, h1, h2, rfl, rfl, rfl, rfl, rfl, rfl, rfl⟩ := h; exact sp_len h1 h2
theorem fz_owner (h : Frz w0 n o bs val has many b kid w) : Calls Try.prog 33 #[.pointer (some ⟨n, 0, none⟩)] w fun e w' => e = .returned (.int .u64 o) ∧ w = w' := by
  obtain ⟨P, i, p, h1, h2, rfl, rfl, rfl, rfl, rfl, rfl, rfl⟩ := h; exact sp_owner h1 h2
theorem fz_kid (h : Frz w0 n o bs val has many b kid w) (hb : b < 256) : Calls Try.prog 20 #[.pointer (some ⟨n, 0, none⟩), .int .u8 (b : Nat)] w fun e w' => e = .returned kid ∧ ∃ k, w' = w.drewN k := by
  obtain ⟨P, i, p, h1, h2, rfl, rfl, rfl, rfl, rfl, rfl, rfl⟩ := h; exact sp_kid h1 h2 b hb
theorem fz_part (h : Frz w0 n o bs val has many b kid w) : Calls Try.prog 32 #[.pointer (some ⟨n, 0, none⟩)] w (gotPost bs w) := by
  obtain ⟨P, i, p, h1, h2, rfl, rfl, rfl, rfl, rfl, rfl, rfl⟩ := h; exact sp_part h1 h2
theorem fz_setval_no (h : Frz w0 n o bs val has many b kid w) (x v : Int) (h0 : x = 0 ∨ x ≠ o) : Calls Try.prog 25 #[.pointer (some ⟨n, 0, none⟩), .int .u64 x, .int .u64 v] w fun e w' => e = .returned (.int .i64 11) ∧ w = w' := by
  obtain ⟨P, i, p, h1, h2, rfl, rfl, rfl, rfl, rfl, rfl, rfl⟩ := h; exact sp_setval_no h1 h2 x v h0
theorem fz_setpart_no (h : Frz w0 n o bs val has many b kid w) (x : Int) (a : Option Addr) (m c : Nat) (h0 : x = 0 ∨ x ≠ o) : Calls Try.prog 24 #[.pointer (some ⟨n, 0, none⟩), .int .u64 x, .slice a m c] w fun e w' => e = .returned (.int .i64 11) ∧ w = w' := by
  obtain ⟨P, i, p, h1, h2, rfl, rfl, rfl, rfl, rfl, rfl, rfl⟩ := h
  obtain ⟨pv, bo, kp, Sk, q⟩ := h1.is h2
  exact nd_setpart_no q x a m c h0
theorem fz_dropval_no (h : Frz w0 n o bs val has many b kid w) (x : Int) (h0 : x = 0 ∨ x ≠ o) : Calls Try.prog 26 #[.pointer (some ⟨n, 0, none⟩), .int .u64 x] w fun e w' => e = .returned (.int .i64 11) ∧ w = w' := by
  obtain ⟨P, i, p, h1, h2, rfl, rfl, rfl, rfl, rfl, rfl, rfl⟩ := h
  obtain ⟨pv, bo, kp, Sk, q⟩ := h1.is h2
  exact nd_dropval_no q x h0
theorem fz_setkid_no (h : Frz w0 n o bs val has many b kid w) (x : Int) (c : Nat) (k : Option Addr) (h0 : x = 0 ∨ x ≠ o) : Calls Try.prog 27 #[.pointer (some ⟨n, 0, none⟩), .int .u64 x, .int .u8 c, .pointer k] w fun e w' => e = .returned (.int .i64 11) ∧ w = w' := by
  obtain ⟨P, i, p, h1, h2, rfl, rfl, rfl, rfl, rfl, rfl, rfl⟩ := h
  obtain ⟨pv, bo, kp, Sk, q⟩ := h1.is h2
  exact nd_setkid_no q x c k h0
theorem fz_dropkid_no (h : Frz w0 n o bs val has many b kid w) (x : Int) (c : Nat) (h0 : x = 0 ∨ x ≠ o) : Calls Try.prog 28 #[.pointer (some ⟨n, 0, none⟩), .int .u64 x, .int .u8 c] w fun e w' => e = .returned (.int .i64 11) ∧ w = w' := by
  obtain ⟨P, i, p, h1, h2, rfl, rfl, rfl, rfl, rfl, rfl, rfl⟩ := h
  obtain ⟨pv, bo, kp, Sk, q⟩ := h1.is h2
  exact nd_dropkid_no q x c h0
end
/-- a slice that came in: its bytes -/
structure In8 (w : World) (a : Option Addr) (n c : Nat) (bs : List Nat) : Prop where
  len : bs.length = n
  at_ : BytesAt w a bs
  cap : n ≤ 140737488355328
  nil : a = none → n = 0
section
variable {w0 w w' : World} {P : List NP} {a : Option Addr} {n c : Nat} {bs : List Nat} {X : Nat → Prop}
theorem In8.below (h : In8 w a n c bs) (hb : Below w.heap.size w w') : In8 w' a n c bs := ⟨h.len, h.at_.below hb, h.cap, h.nil⟩
theorem In8.drewN (h : In8 w a n c bs) (k : Nat) : In8 (w.drewN k) a n c bs := ⟨h.len, h.at_.drewN k, h.cap, h.nil⟩
theorem sp_inner0 (h : StoreP X w0 w P) (hi : In8 w a n c bs) (o : Int) : Calls Try.prog 44 #[.pointer none, .int .u64 o, .slice a n c] w fun e w' => ∃ k, e = .returned (.pointer (some ⟨k, 0, none⟩)) ∧ TurnsP X w0 w (P ++ [⟨k, o, bs, 0, false, some []⟩]) w' ∧ Below w.heap.size w w' := by
  refine (nd_inner_made w w none o a n c bs ((made_nil 1 w).mono fun e w' q => ⟨q.1, q.2.symm⟩) hi.len hi.at_ hi.cap hi.nil).mono ?_
  intro e w' q
  have hq := q
  obtain ⟨_, _, _, _, _, _, _, q2, _⟩ := hq
  obtain ⟨k, rfl, h1, h2⟩ := h.made ⟨hi.at_.1, by rw [hi.len]; exact hi.cap⟩ q
  exact ⟨k, rfl, h2, q2⟩
theorem sp_leaf0 (h : StoreP X w0 w P) (hi : In8 w a n c bs) (o v : Int) : Calls Try.prog 43 #[.pointer none, .int .u64 o, .slice a n c, .int .u64 v] w fun e w' => ∃ k, e = .returned (.pointer (some ⟨k, 0, none⟩)) ∧ TurnsP X w0 w (P ++ [⟨k, o, bs, v, true, none⟩]) w' ∧ Below w.heap.size w w' := by
  refine (nd_leaf_made w w none o v a n c bs ((made_nil 1 w).mono fun e w' q => ⟨q.1, q.2.symm⟩) hi.len hi.at_ hi.cap hi.nil).mono ?_
  intro e w' q
  have hq := q
  obtain ⟨_, _, _, _, _, _, _, q2, _⟩ := hq
  obtain ⟨k, rfl, h1, h2⟩ := h.made ⟨hi.at_.1, by rw [hi.len]; exact hi.cap⟩ q
  exact ⟨k, rfl, h2, q2⟩
end
end Go.Proofs.Ytkonbldjmcccmaa
