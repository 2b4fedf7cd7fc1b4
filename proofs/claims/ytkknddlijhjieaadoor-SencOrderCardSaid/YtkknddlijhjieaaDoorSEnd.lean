/- senc.End and senc.Take at a text that was put. -/
import Derived.Test.YtkknddlijhjieaaDoorSOther
import Derived.WalkMore
import Derived.ScopeJumps
set_option linter.unusedVariables false
set_option linter.unusedSimpArgs false
namespace Go.Proofs.YtkknddlijhjieaaDoor
open Go.RowKit
theorem idxB_hit : ∀ (a b : List Nat), (∀ x ∈ a, x < 256) → 0 ∉ a → Lib.indexByte (U (a ++ 0 :: b)) 0 = (a.length : Int)
  | [], b, _, _ => by simp [U, Lib.indexByte]
  | x :: a, b, h, h0 => by
    have hx : UInt8.ofNat x ≠ 0 := ofNat_ne (h x (by simp)) (fun e => h0 (by simp [e]))
    have ih := idxB_hit a b (fun y hy => h y (by simp [hy])) (fun e => h0 (by simp [e]))
    have e1 : U (x :: a ++ 0 :: b) = UInt8.ofNat x :: U (a ++ 0 :: b) := by simp [U]
    rw [e1, Lib.indexByte, if_neg (by simpa using hx), ih, if_neg (by simp)]
    simp
theorem lib_indexByte {w : World} (p : Addr) (n c : Nat) (s : List Nat) (h1 : BytesAt w (some p) s) (l1 : s.length = n) : Calls Tryd.prog 20 #[.slice (some p) n c, .int .u8 0] w fun e w' => e = .returned (.int .i64 (Lib.indexByte (U s) 0)) ∧ w' = w := by
  have := Any.bytes_IndexByte_at Tryd.layIndexByte p n c (Zs s) 0 w (by simp [Zs, l1]) (fun i hi => h1.ints i (by omega))
  rw [bytesOf_nat] at this
  exact this
/-- what lies from the place on that the search has come to -/
theorem put_split (u t r : List Nat) : (putL (u ++ t) ++ r).drop (escL u).length = putL t ++ r := by
  rw [putL, escL_app, List.append_assoc, List.append_assoc, List.drop_left]
  simp [putL]
theorem put_len (s : List Nat) : (putL s).length = (escL s).length + 2 := by simp [putL]
/-- a round of the search -/
theorem end_round (u t r : List Nat) (h : ∀ x ∈ t, x < 256) :
    (∃ i : Nat, Lib.indexByte (U ((putL (u ++ t) ++ r).drop (escL u).length)) 0 = (i : Int) ∧ (escL u).length + i + 2 = (putL (u ++ t)).length ∧ (putL (u ++ t) ++ r).getD ((escL u).length + i + 1) 0 = 0) ∨
    (∃ (i : Nat) (a b : List Nat), Lib.indexByte (U ((putL (u ++ t) ++ r).drop (escL u).length)) 0 = (i : Int) ∧ t = a ++ 0 :: b ∧ (escL (u ++ (a ++ [0]))).length = (escL u).length + i + 2 ∧ (escL u).length + i + 2 < (putL (u ++ t)).length ∧ (putL (u ++ t) ++ r).getD ((escL u).length + i + 1) 0 = 255) := by
  rw [put_split]
  rcases split_nought t with h0 | ⟨a, b, rfl, h0⟩
  · left
    refine ⟨t.length, ?_, ?_, ?_⟩
    · rw [putL, escL_none h0, List.append_assoc]
      exact idxB_hit t _ h h0
    · rw [put_len, escL_app, List.length_append, escL_none h0]
    · rw [putL, escL_app, escL_none h0, List.getD, List.append_assoc, List.append_assoc, List.getElem?_append_right (by omega), List.getElem?_append_right (by omega)]
      rw [show (escL u).length + t.length + 1 - (escL u).length - t.length = 1 from by omega]
      rfl
  · right
    have ha : ∀ x ∈ a, x < 256 := fun x hx => h x (by simp [hx])
    refine ⟨a.length, a, b, ?_, rfl, ?_, ?_, ?_⟩
    · rw [putL, escL_app, escL_none h0, escL_cons, esc, if_pos rfl]
      have := idxB_hit a (255 :: (escL b ++ [0, 0] ++ r)) ha h0
      rw [← this]
      congr 2
      simp
    · rw [escL_app, escL_app, escL_none h0, List.length_append, List.length_append]
      simp [escL, esc]; omega
    · rw [put_len, escL_app, escL_app, escL_none h0, escL_cons, esc, if_pos rfl]
      simp
    · rw [putL, escL_app, escL_app, escL_none h0, escL_cons, esc, if_pos rfl, List.getD]
      simp only [List.append_assoc]
      rw [List.getElem?_append_right (by omega), List.getElem?_append_right (by omega)]
      rw [show (escL u).length + a.length + 1 - (escL u).length - a.length = 1 from by omega]
      rfl
set_option maxHeartbeats 1000000 in
set_option maxRecDepth 100000 in
theorem senc_end {w : World} (p : Addr) (n c : Nat) (s r : List Nat) (h1 : Sl w (some p) n c (putL s ++ r)) (hs : ∀ x ∈ s, x < 256) (hn : n ≤ 9000) :
    Calls Tryd.prog 15 #[.slice (some p) n c] w fun e w' => e = .returned (.tuple #[.int .i64 ((putL s).length : Nat), .int .i64 0]) ∧ w' = w := by
  have hl := h1.len
  have hcap := h1.cap
  have hI : Hid (∀ i, i ≤ n → Calls Tryd.prog 20 #[.slice (some (p.add i)) (n - i) (c - i), .int .u8 0] w fun e w' => e = .returned (.int .i64 (Lib.indexByte (U ((putL s ++ r).drop i)) 0)) ∧ w' = w) := fun i hi => lib_indexByte _ _ _ _ (bytes_drop h1.at_ (by omega)) (by rw [List.length_drop]; omega)
  have hB : Hid (∀ i, i < n → w.cell? (p.add i) = some (.int .u8 ((putL s ++ r).getD i 0 : Nat))) := fun i hi => by
    obtain ⟨p', e, _, h⟩ := h1.at_.2 i (by omega)
    cases e
    exact h
  clear h1
  go_enter Tryd.func15, Tryd.ntmps15
  go_wp2_with fail
  refine wp_scope_jumps 0 (fun a' w' => w' = w ∧ ∃ (u t : List Nat) (u5 u6 u7 u8 u9 u10 u11 u12 u13 u14 u15 u16 u17 u18 u19 u20 u21 u22 u23 u24 u25 u26 u27 u28 u29 u30 u31 u32 u33 u34 : Value), a' = { tmps := #[.slice (some p) n c, undef, .int .i64 0, .int .i64 0, .int .i64 ((escL u).length : Nat), u5, u6, u7, u8, u9, u10, u11, u12, u13, u14, u15, u16, u17, u18, u19, u20, u21, u22, u23, u24, u25, u26, u27, u28, u29, u30, u31, u32, u33, u34], defers := [] } ∧ s = u ++ t) (fun a' _ => n - (intOf (a'.tmps.getD 4 undef)).toNat) rfl ?_ ?_
  · go_wp2_with fail
    go_step3
    obtain ⟨u, hu⟩ : ∃ u : List Nat, u = [] := ⟨_, rfl⟩
    obtain ⟨t, ht⟩ : ∃ t : List Nat, t = s := ⟨_, rfl⟩
    have hst : s = u ++ t := by rw [hu, ht]; rfl
    have hA : 0 = (escL u).length := by rw [hu]; rfl
    clear hu ht
    subst hst
    have hR := end_round u t r (fun x hx => hs x (by simp [hx]))
    rw [← hA] at hR
    have hpl : (putL (u ++ t)).length ≤ n := by rw [← hl, List.length_append]; omega
    have q2 : (n : Int) ≤ (c : Int) := by omega
    rcases hR with ⟨i, e1, e2, e3⟩ | ⟨i, a, b, e1, e2, e3, e4, e5⟩
    · have hIx := hI.out 0 (by omega)
      rw [e1] at hIx
      replace hIx := Lib.hid hIx
      obtain ⟨z, hz⟩ : ∃ z : Nat, z = 0 + i + 2 := ⟨_, rfl⟩
      obtain ⟨e, he⟩ : ∃ e : Nat, e = 0 + i + 1 := ⟨_, rfl⟩
      have hb := hB.out e (by omega)
      rw [he, e3, ← he] at hb
      have q3 : ¬ ((i : Int) < 0) := by omega
      have q4 : ((i : Int) + 1 == (n : Int)) = false := beq_eq_false_iff_ne.2 (by omega)
      have qi : (i : Int) ≤ 9000 := by omega
      have hzs : Hid ((i : Int) + 2 = (z : Int)) := by show _ = _; omega
      have q6 : ((z : Int) - 1).toNat = e := by omega
      have q7 : (0 : Int) ≤ (z : Int) - 1 := by omega
      have q8 : (z : Int) - 1 < (n : Int) := by omega
      have qz : (z : Int) ≤ 9000 := by omega
      have HZ : Hid (z = (putL (u ++ t)).length) := by show _ = _; omega
      clear hI hB e1 e2 e3 hl hs hpl hz he hA hn hcap
      go_upto_region 6 with (go_at_call 20; refine hIx.out.mono ?_; rintro e w' ⟨rfl, rfl⟩)
      rw [hzs.out]
      go_wp2_with fail
      simp only [Exit.jump]
      go_ret2
      rw [← HZ.out]
      exact ⟨rfl, rfl⟩
    · have hIx := hI.out 0 (by omega)
      rw [e1] at hIx
      replace hIx := Lib.hid hIx
      obtain ⟨z, hz⟩ : ∃ z : Nat, z = 0 + i + 2 := ⟨_, rfl⟩
      obtain ⟨e, he⟩ : ∃ e : Nat, e = 0 + i + 1 := ⟨_, rfl⟩
      have hb := hB.out e (by omega)
      rw [he, e5, ← he] at hb
      have q3 : ¬ ((i : Int) < 0) := by omega
      have q4 : ((i : Int) + 1 == (n : Int)) = false := beq_eq_false_iff_ne.2 (by omega)
      have qi : (i : Int) ≤ 9000 := by omega
      have hzs : Hid ((i : Int) + 2 = (z : Int)) := by show _ = _; omega
      have q6 : ((z : Int) - 1).toNat = e := by omega
      have q7 : (0 : Int) ≤ (z : Int) - 1 := by omega
      have q8 : (z : Int) - 1 < (n : Int) := by omega
      have qz : (z : Int) ≤ 9000 := by omega
      have HZ : Hid (z = (escL (u ++ (a ++ [0]))).length ∧ 0 < z ∧ z < n) := by refine ⟨?_, ?_, ?_⟩ <;> omega
      have HU : Hid (u ++ t = (u ++ (a ++ [0])) ++ b) := by show _ = _; rw [e2]; simp
      clear hI hB e1 e2 e3 e4 e5 hl hs hpl hz he hA hn hcap
      go_upto_region 6 with (go_at_call 20; refine hIx.out.mono ?_; rintro e w' ⟨rfl, rfl⟩)
      rw [hzs.out]
      go_wp2_with fail
      go_step3
      simp only [Exit.inBlock, Exit.then]
      have hz1 := HZ.out.1
      subst hz1
      exact ⟨rfl, rfl, u ++ (a ++ [0]), b, _, _, _, _, _, _, _, _, _, _, _, _, _, _, _, _, _, _, _, _, _, _, _, _, _, _, _, _, _, _, rfl, HU.out⟩
  · rintro a' w' ⟨rfl, u, t, u5, u6, u7, u8, u9, u10, u11, u12, u13, u14, u15, u16, u17, u18, u19, u20, u21, u22, u23, u24, u25, u26, u27, u28, u29, u30, u31, u32, u33, u34, rfl, hst⟩
    dsimp only
    subst hst
    have hR := end_round u t r (fun x hx => hs x (by simp [hx]))
    obtain ⟨A, hA⟩ : ∃ A, A = (escL u).length := ⟨_, rfl⟩
    rw [← hA] at hR ⊢
    have hpl : (putL (u ++ t)).length ≤ n := by rw [← hl, List.length_append]; omega
    have q2 : (n : Int) ≤ (c : Int) := by omega
    rcases hR with ⟨i, e1, e2, e3⟩ | ⟨i, a, b, e1, e2, e3, e4, e5⟩
    · have hIx := hI.out A (by omega)
      rw [e1] at hIx
      replace hIx := Lib.hid hIx
      obtain ⟨z, hz⟩ : ∃ z : Nat, z = A + i + 2 := ⟨_, rfl⟩
      obtain ⟨e, he⟩ : ∃ e : Nat, e = A + i + 1 := ⟨_, rfl⟩
      have hb := hB.out e (by omega)
      rw [he, e3, ← he] at hb
      have q1 : (A : Int) ≤ (n : Int) := by omega
      have q5 : ¬ c = A := by omega
      have qA : (A : Int) ≤ 9000 := by omega
      have q3 : ¬ ((i : Int) < 0) := by omega
      have q4 : ((A : Int) + (i : Int) + 1 == (n : Int)) = false := beq_eq_false_iff_ne.2 (by omega)
      have qi : (i : Int) ≤ 9000 := by omega
      have hzs : Hid ((A : Int) + ((i : Int) + 2) = (z : Int)) := by show _ = _; omega
      have q6 : ((z : Int) - 1).toNat = e := by omega
      have q7 : (0 : Int) ≤ (z : Int) - 1 := by omega
      have q8 : (z : Int) - 1 < (n : Int) := by omega
      have qz : (z : Int) ≤ 9000 := by omega
      have HZ : Hid (z = (putL (u ++ t)).length) := by show _ = _; omega
      clear hI hB e1 e2 e3 hl hs hpl hz he hA hn hcap
      go_upto_region 6 with (go_at_call 20; refine hIx.out.mono ?_; rintro e w' ⟨rfl, rfl⟩)
      rw [hzs.out]
      go_wp2_with fail
      simp only [Exit.jump]
      go_ret2
      rw [← HZ.out]
      exact ⟨rfl, rfl⟩
    · have hIx := hI.out A (by omega)
      rw [e1] at hIx
      replace hIx := Lib.hid hIx
      obtain ⟨z, hz⟩ : ∃ z : Nat, z = A + i + 2 := ⟨_, rfl⟩
      obtain ⟨e, he⟩ : ∃ e : Nat, e = A + i + 1 := ⟨_, rfl⟩
      have hb := hB.out e (by omega)
      rw [he, e5, ← he] at hb
      have q1 : (A : Int) ≤ (n : Int) := by omega
      have q5 : ¬ c = A := by omega
      have qA : (A : Int) ≤ 9000 := by omega
      have q3 : ¬ ((i : Int) < 0) := by omega
      have q4 : ((A : Int) + (i : Int) + 1 == (n : Int)) = false := beq_eq_false_iff_ne.2 (by omega)
      have qi : (i : Int) ≤ 9000 := by omega
      have hzs : Hid ((A : Int) + ((i : Int) + 2) = (z : Int)) := by show _ = _; omega
      have q6 : ((z : Int) - 1).toNat = e := by omega
      have q7 : (0 : Int) ≤ (z : Int) - 1 := by omega
      have q8 : (z : Int) - 1 < (n : Int) := by omega
      have qz : (z : Int) ≤ 9000 := by omega
      have HZ : Hid (z = (escL (u ++ (a ++ [0]))).length ∧ A < z ∧ z < n) := by refine ⟨?_, ?_, ?_⟩ <;> omega
      have HU : Hid (u ++ t = (u ++ (a ++ [0])) ++ b) := by show _ = _; rw [e2]; simp
      clear hI hB e1 e2 e3 e4 e5 hl hs hpl hz he hA hn hcap
      go_upto_region 6 with (go_at_call 20; refine hIx.out.mono ?_; rintro e w' ⟨rfl, rfl⟩)
      rw [hzs.out]
      go_wp2_with fail
      go_step3
      simp only [Exit.inBlock, Exit.then]
      have hz1 := HZ.out.1
      subst hz1
      refine ⟨rfl, ⟨rfl, u ++ (a ++ [0]), b, _, _, _, _, _, _, _, _, _, _, _, _, _, _, _, _, _, _, _, _, _, _, _, _, _, _, _, _, _, _, rfl, HU.out⟩, ?_⟩
      have := HZ.out
      show n - ((((escL (u ++ (a ++ [0]))).length : Nat) : Int)).toNat < n - (A : Int).toNat
      omega

end Go.Proofs.YtkknddlijhjieaaDoor
