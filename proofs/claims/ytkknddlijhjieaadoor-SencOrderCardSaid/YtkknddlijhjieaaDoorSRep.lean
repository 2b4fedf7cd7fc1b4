/- Replacing of bytes, plain: noughts escaped, and back. No program. -/
import Derived.Test.YtkknddlijhjieaaDoorSPlain
set_option linter.unusedVariables false
set_option linter.unusedSimpArgs false
namespace Go.Proofs.YtkknddlijhjieaaDoor
def U (s : List Nat) : List UInt8 := s.map UInt8.ofNat
theorem U_drop (s : List Nat) (n : Nat) : U (s.drop n) = (U s).drop n := by simp [U, List.map_drop]
theorem U_len (s : List Nat) : (U s).length = s.length := by simp [U]
def nidx (s old : List Nat) : Int := Lib.index (U s) (U old)
def ncnt (s old : List Nat) : Nat := Lib.count (U s) (U old)
/-- the first k instances of old, from the left, replaced -/
def nrep (old new : List Nat) : Nat → List Nat → List Nat
  | 0, s => s
  | k + 1, s => s.take (nidx s old).toNat ++ new ++ nrep old new k (s.drop ((nidx s old).toNat + old.length))
theorem ofNat_ne {x : Nat} (h : x < 256) (h0 : x ≠ 0) : UInt8.ofNat x ≠ 0 := fun e => by
  have := congrArg UInt8.toNat e
  simp at this
  omega
theorem nidx_skip {x : Nat} (hx : x < 256) (h0 : x ≠ 0) (s : List Nat) (o : List Nat) : nidx (x :: s) (0 :: o) = if nidx s (0 :: o) = -1 then -1 else nidx s (0 :: o) + 1 := by
  have h := ofNat_ne hx h0
  have h' : ¬ (0 : UInt8) = UInt8.ofNat x := fun e => h e.symm
  unfold nidx U
  rw [List.map_cons, Lib.index]
  have : (List.map UInt8.ofNat (0 :: o)).isPrefixOf (UInt8.ofNat x :: List.map UInt8.ofNat s) = false := by
    simp [List.isPrefixOf, h']
  rw [this]
  simp
theorem nidx_pre (o : List Nat) : ∀ (a s : List Nat), (∀ x ∈ a, x < 256) → 0 ∉ a → nidx (a ++ s) (0 :: o) = if nidx s (0 :: o) = -1 then -1 else nidx s (0 :: o) + a.length
  | [], s, _, _ => by
    by_cases e : nidx s (0 :: o) = -1
    · simp [e]
    · simp [e]
  | x :: a, s, h, h0 => by
    have ih := nidx_pre o a s (fun y hy => h y (by simp [hy])) (fun e => h0 (by simp [e]))
    rw [List.cons_append, nidx_skip (h x (by simp)) (fun e => h0 (by simp [e])), ih]
    have hge : -1 ≤ nidx s (0 :: o) := Lib.index_ge _ _
    by_cases e : nidx s (0 :: o) = -1
    · simp [e]
    · simp only [e, if_false, List.length_cons]
      rw [if_neg (by omega)]
      omega
theorem nidx_end (o : List Nat) : nidx [] (0 :: o) = -1 := rfl
theorem nidx_none (o : List Nat) {a : List Nat} (h : ∀ x ∈ a, x < 256) (h0 : 0 ∉ a) : nidx a (0 :: o) = -1 := by
  have := nidx_pre o a [] h h0
  rw [List.append_nil, nidx_end] at this
  simpa using this
theorem nidx_at (o s : List Nat) : nidx (0 :: (o ++ s)) (0 :: o) = 0 := by
  unfold nidx U
  rw [List.map_cons, Lib.index]
  have : (List.map UInt8.ofNat (0 :: o)).isPrefixOf (UInt8.ofNat 0 :: List.map UInt8.ofNat (o ++ s)) = true := by
    rw [← List.map_cons, ← List.cons_append, List.map_append]
    exact List.isPrefixOf_iff_prefix.2 (List.prefix_append _ _)
  rw [this]; rfl
theorem nidx_hit (o s : List Nat) {a : List Nat} (h : ∀ x ∈ a, x < 256) (h0 : 0 ∉ a) : nidx (a ++ 0 :: (o ++ s)) (0 :: o) = a.length := by
  rw [nidx_pre o a _ h h0, nidx_at]
  simp
theorem ncnt_miss {s old : List Nat} (h : nidx s old = -1) : ncnt s old = 0 := Lib.count_miss h
theorem ncnt_hit {s old : List Nat} {i : Nat} (ho : old ≠ []) (h : nidx s old = i) : ncnt s old = 1 + ncnt (s.drop (i + old.length)) old := by
  unfold ncnt
  rw [Lib.count_hit (fun e => ho (by simpa [U] using e)) h, U_drop, U_len]
theorem nrep_hit {old new s : List Nat} {i k : Nat} (h : nidx s old = i) : nrep old new (k + 1) s = s.take i ++ new ++ nrep old new k (s.drop (i + old.length)) := by
  rw [nrep, h]; simp
/-- while instances are left, one is found, and there is room for it -/
theorem nidx_of_cnt {s old : List Nat} (h : 0 < ncnt s old) : ∃ i : Nat, nidx s old = i ∧ i + old.length ≤ s.length := by
  have hge : -1 ≤ nidx s old := Lib.index_ge _ _
  by_cases hm : nidx s old = -1
  · rw [ncnt_miss hm] at h; omega
  · have := Lib.index_room (U s) (U old) (by unfold nidx at hge hm; omega)
    rw [U_len, U_len] at this
    exact ⟨(nidx s old).toNat, by omega, by unfold nidx; unfold nidx at hge hm; omega⟩
/-- how long what is replaced is -/
theorem nrep_len {old new : List Nat} (ho : old ≠ []) : ∀ (k : Nat) (s : List Nat), k ≤ ncnt s old → ((nrep old new k s).length : Int) = s.length + k * ((new.length : Int) - old.length)
  | 0, s, _ => by simp [nrep]
  | k + 1, s, h => by
    obtain ⟨i, hi, hr⟩ := nidx_of_cnt (s := s) (old := old) (by omega)
    have hc := ncnt_hit ho hi
    have ih := nrep_len (new := new) ho k (s.drop (i + old.length)) (by omega)
    rw [nrep_hit hi, List.length_append, List.length_append, List.length_take]
    have hm : min i s.length = i := by omega
    rw [List.length_drop] at ih
    rw [hm]
    have e : ((k + 1 : Nat) : Int) * ((new.length : Int) - old.length) = (k : Int) * ((new.length : Int) - old.length) + ((new.length : Int) - old.length) := by
      rw [Int.natCast_add, Int.add_mul]; simp
    rw [e]
    push_cast
    omega
theorem cnt_pos_app (a b : List Nat) (ha : 0 ∉ a) : (a ++ 0 :: b).count 0 = b.count 0 + 1 := by
  rw [List.count_append, List.count_cons_self, List.count_eq_zero.2 ha]; omega
theorem rep_esc : ∀ (n : Nat) (s : List Nat), s.length ≤ n → (∀ x ∈ s, x < 256) → ncnt s [0] = s.count 0 ∧ nrep [0] [0, 255] (s.count 0) s = escL s
  | 0, s, hn, _ => by
    obtain rfl : s = [] := List.eq_nil_of_length_eq_zero (by omega)
    exact ⟨ncnt_miss (nidx_end []), rfl⟩
  | n + 1, s, hn, h => by
    rcases split_nought s with h0 | ⟨a, b, rfl, ha⟩
    · have hc : s.count 0 = 0 := List.count_eq_zero.2 h0
      rw [hc, escL_none h0]
      exact ⟨ncnt_miss (nidx_none [] h h0), rfl⟩
    · have hb := fun x (hx : x ∈ b) => h x (by simp [hx])
      have ha2 := fun x (hx : x ∈ a) => h x (by simp [hx])
      have hi : nidx (a ++ 0 :: b) [0] = a.length := nidx_hit [] b ha2 ha
      have hd : (a ++ 0 :: b).drop (a.length + [0].length) = b := by simp [List.drop_append]
      have ih := rep_esc n b (by simp at hn; omega) hb
      rw [ncnt_hit (by simp) hi, hd, ih.1, cnt_pos_app a b ha, nrep_hit hi, hd, ih.2, escL_app, escL_cons, escL_none ha]
      refine ⟨by omega, ?_⟩
      simp [esc]
theorem rep_unesc : ∀ (n : Nat) (s : List Nat), s.length ≤ n → (∀ x ∈ s, x < 256) → ncnt (escL s) [0, 255] = s.count 0 ∧ nrep [0, 255] [0] (s.count 0) (escL s) = s
  | 0, s, hn, _ => by
    obtain rfl : s = [] := List.eq_nil_of_length_eq_zero (by omega)
    exact ⟨ncnt_miss (nidx_end [255]), rfl⟩
  | n + 1, s, hn, h => by
    rcases split_nought s with h0 | ⟨a, b, rfl, ha⟩
    · have hc : s.count 0 = 0 := List.count_eq_zero.2 h0
      rw [hc, escL_none h0]
      exact ⟨ncnt_miss (nidx_none [255] h h0), rfl⟩
    · have hb := fun x (hx : x ∈ b) => h x (by simp [hx])
      have ha2 := fun x (hx : x ∈ a) => h x (by simp [hx])
      have he : escL (a ++ 0 :: b) = a ++ 0 :: ([255] ++ escL b) := by rw [escL_app, escL_cons, escL_none ha]; simp [esc]
      have hi : nidx (escL (a ++ 0 :: b)) [0, 255] = a.length := by rw [he]; exact nidx_hit [255] (escL b) ha2 ha
      have hd : (escL (a ++ 0 :: b)).drop (a.length + [0, 255].length) = escL b := by rw [he]; simp [List.drop_append]
      have ht : (escL (a ++ 0 :: b)).take a.length = a := by rw [he]; simp
      have ih := rep_unesc n b (by simp at hn; omega) hb
      rw [ncnt_hit (by simp) hi, hd, ih.1, cnt_pos_app a b ha, nrep_hit hi, hd, ht, ih.2]
      exact ⟨by omega, by simp⟩
end Go.Proofs.YtkknddlijhjieaaDoor
