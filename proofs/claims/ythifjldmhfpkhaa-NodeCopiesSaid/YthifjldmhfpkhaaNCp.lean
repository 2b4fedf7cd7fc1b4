/- NodeCopies: what its loops keep. -/
import Derived.Test.YthifjldmhfpkhaaNFrz
set_option linter.unusedVariables false
set_option linter.unusedSimpArgs false
namespace Go.Proofs.Ythifjldmhfpkhaa
open Go.RowKit
theorem mem_take_next {bs : List Nat} {i : Nat} (hi : i < bs.length) (c : Nat) : c ∈ bs.take (i + 1) ↔ c ∈ bs.take i ∨ c = bs.getD i 0 := by
  rw [List.take_add_one, List.getElem?_eq_getElem hi, List.mem_append]
  simp [List.getD, List.getElem?_eq_getElem hi]
theorem kget_none_nil {l : KV} (h : ∀ c, kget l c = none) : l = [] := by
  cases l with
  | nil => rfl
  | cons p t => have := h p.1; simp [kget] at this
abbrev cpN (n : Nat) (ps : List Nat) (l : KV) : NP := ⟨n, 1, ps, 0, false, some l⟩
abbrev cpK (k : Nat) (ps : List Nat) (v : Int) : NP := ⟨k, 1, ps, v, true, none⟩
abbrev cpC (c : Nat) (ps : List Nat) (v : Int) (has : Bool) (l : KV) : NP := ⟨c, 2, ps, v, has, some l⟩
def ptrV (k : Nat) : Value := .pointer (some ⟨k, 0, none⟩)
def CpA (w0 : World) (n k x : Nat) (ps ms : List Nat) (v : Int) (bs : List Nat) (i : Nat) (wr : World) : Prop :=
  ∃ l, StoreP NoX w0 wr [cpN n ps l, cpK k ps v, cpK x ms v] ∧ ∀ c, kget l c = if c ∈ bs.take i then some (ptrV k) else none
def CpB (w0 : World) (n k x c : Nat) (ps ms : List Nat) (v : Int) (bs : List Nat) (l l2 : KV) (wr : World) : Prop :=
  StoreP NoX w0 wr [cpN n ps l, cpK k ps v, cpK x ms v, cpC c ps 0 false l2] ∧ ∀ c, kget l c = if c ∈ bs then some (ptrV k) else none
def CpC (w0 : World) (n k x c : Nat) (ps ms qs : List Nat) (v : Int) (bs : List Nat) (l2 : KV) (i : Nat) (wr : World) : Prop :=
  ∃ l, StoreP NoX w0 wr [cpN n ps l, cpK k ps v, cpK x ms v, cpC c qs v true l2] ∧ ∀ c, kget l c = if c ∈ bs ∧ c ∉ bs.take i then some (ptrV k) else none
section
variable {w0 wr w' : World} {n k x c : Nat} {ps ms qs bs : List Nat} {v : Int} {l l2 : KV} {i many : Nat} {P : List NP} {p : NP}
theorem StoreP.srt (h : StoreP NoX w0 wr P) (hi : P[i]? = some p) (hk : p.kk = some l) : Srt l := by
  obtain ⟨pv, bo, kp, Sk, q⟩ := h.is hi
  rw [hk] at q
  rcases q.kids with ⟨_, e, _⟩ | ⟨k', l', _, e, h3, _⟩
  · cases e
  · obtain rfl : l = l' := by simpa using e
    exact h3.srt.1
theorem CpA.old (h : CpA w0 n k x ps ms v bs i wr) : Below w0.heap.size w0 wr := by obtain ⟨l, h, _⟩ := h; exact Mod.below h.mod
theorem CpB.old (h : CpB w0 n k x c ps ms v bs l l2 wr) : Below w0.heap.size w0 wr := Mod.below h.1.mod
theorem CpC.old (h : CpC w0 n k x c ps ms qs v bs l2 i wr) : Below w0.heap.size w0 wr := by obtain ⟨l, h, _⟩ := h; exact Mod.below h.mod
theorem CpB.drewN (h : CpB w0 n k x c ps ms v bs l l2 wr) (m : Nat) : CpB w0 n k x c ps ms v bs l l2 (wr.drewN m) := ⟨h.1.drewN m, h.2⟩
theorem CpC.drewN (h : CpC w0 n k x c ps ms qs v bs l2 i wr) (m : Nat) : CpC w0 n k x c ps ms qs v bs l2 i (wr.drewN m) := by obtain ⟨l, h, g⟩ := h; exact ⟨l, h.drewN m, g⟩
theorem CpC.below (h : CpC w0 n k x c ps ms qs v bs l2 i wr) (hb : Below wr.heap.size wr w') : CpC w0 n k x c ps ms qs v bs l2 i w' := by obtain ⟨l, h, g⟩ := h; exact ⟨l, h.below hb, g⟩
theorem cpA_set (h : CpA w0 n k x ps ms v bs i wr) (hi : i < bs.length) (hb : ∀ y ∈ bs, y < 256) : Calls Try.prog 35 #[.pointer (some ⟨n, 0, none⟩), .int .u64 1, .int .u8 (bs.getD i 0 : Nat), .pointer (some ⟨k, 0, none⟩)] wr fun e w' => e = .returned (.int .i64 0) ∧ CpA w0 n k x ps ms v bs (i + 1) w' := by
  obtain ⟨l, h, g⟩ := h
  have hs := h.srt (i := 0) (l := l) rfl rfl
  refine (sp_setkid (i := 0) h rfl (l := l) rfl 1 (by simp) (bs.getD i 0) (hb _ (by simp [List.getD, List.getElem?_eq_getElem hi])) ⟨k, 0, none⟩).mono ?_
  rintro e w' ⟨rfl, q⟩
  refine ⟨rfl, _, q.1, fun c => ?_⟩
  rw [get_ins hs, g c]
  simp only [mem_take_next hi]
  generalize bs.getD i 0 = z
  by_cases e : c = z
  · rw [if_pos e, if_pos (Or.inr e)]; rfl
  · simp [e]
theorem cpA_copy (h : CpA w0 n k x ps ms v bs bs.length wr) : Calls Try.prog 46 #[.pointer (some ⟨n, 0, none⟩), .pointer none, .int .u64 2] wr fun e w' => ∃ c l, e = .returned (.pointer (some ⟨c, 0, none⟩)) ∧ CpB w0 n k x c ps ms v bs l l w' := by
  obtain ⟨l, h, g⟩ := h
  refine (sp_copy (i := 0) h rfl none 2 ((made_nil 1 wr).mono fun e w' q => q)).mono ?_
  rintro e w' ⟨c, rfl, _, q⟩
  exact ⟨c, l, rfl, q.1, fun c => by rw [g c, List.take_length]⟩
theorem cpB_lenN (h : CpB w0 n k x c ps ms v bs l l2 wr) : Calls Try.prog 38 #[.pointer (some ⟨n, 0, none⟩)] wr fun e w' => e = .returned (.int .i64 (l.length : Nat)) ∧ wr = w' := sp_len (i := 0) h.1 rfl
theorem cpB_lenC (h : CpB w0 n k x c ps ms v bs l l2 wr) : Calls Try.prog 38 #[.pointer (some ⟨c, 0, none⟩)] wr fun e w' => e = .returned (.int .i64 (l2.length : Nat)) ∧ wr = w' := sp_len (i := 3) h.1 rfl
theorem cpB_kindN (h : CpB w0 n k x c ps ms v bs l l2 wr) : Calls Try.prog 47 #[.pointer (some ⟨n, 0, none⟩)] wr fun e w' => e = .returned (.int .i64 (kindOf l.length : Nat)) ∧ wr = w' := sp_kind (i := 0) h.1 rfl
theorem cpB_kindC (h : CpB w0 n k x c ps ms v bs l l2 wr) : Calls Try.prog 47 #[.pointer (some ⟨c, 0, none⟩)] wr fun e w' => e = .returned (.int .i64 (kindOf l2.length : Nat)) ∧ wr = w' := sp_kind (i := 3) h.1 rfl
theorem cpB_drop (h : CpB w0 n k x c ps ms v bs l l2 wr) (b : Nat) (hb : b < 256) : Calls Try.prog 41 #[.pointer (some ⟨c, 0, none⟩), .int .u64 2, .int .u8 (b : Nat)] wr fun e w' => ∃ r : Int, e = .returned (.int .i64 r) ∧ ∃ l3, CpB w0 n k x c ps ms v bs l l3 w' := by
  refine (sp_dropkid (i := 3) h.1 rfl (l := l2) rfl 2 (by simp) b hb).mono ?_
  rintro e w' ⟨rfl, q⟩
  exact ⟨_, rfl, _, q.1, h.2⟩
theorem cpB_set (h : CpB w0 n k x c ps ms v bs l l2 wr) (b : Nat) (hb : b < 256) : Calls Try.prog 35 #[.pointer (some ⟨c, 0, none⟩), .int .u64 2, .int .u8 (b : Nat), .pointer (some ⟨x, 0, none⟩)] wr fun e w' => ∃ r : Int, e = .returned (.int .i64 r) ∧ ∃ l3, CpB w0 n k x c ps ms v bs l l3 w' := by
  refine (sp_setkid (i := 3) h.1 rfl (l := l2) rfl 2 (by simp) b hb ⟨x, 0, none⟩).mono ?_
  rintro e w' ⟨rfl, q⟩
  exact ⟨_, rfl, _, q.1, h.2⟩
theorem cpB_kid (h : CpB w0 n k x c ps ms v bs l l2 wr) (b : Nat) (hb : b < 256) (hm : b ∈ bs) : Calls Try.prog 45 #[.pointer (some ⟨n, 0, none⟩), .int .u8 (b : Nat)] wr fun e w' => e = .returned (.pointer (some ⟨k, 0, none⟩)) ∧ ∃ m, w' = wr.drewN m := by
  have := sp_kid (i := 0) h.1 rfl b hb
  rw [show (cpN n ps l).kk.getD [] = l from rfl, h.2 b, if_pos hm] at this
  exact this
theorem cpB_setval (h : CpB w0 n k x c ps ms v bs l l2 wr) : Calls Try.prog 34 #[.pointer (some ⟨c, 0, none⟩), .int .u64 2, .int .u64 v] wr fun e w' => e = .returned (.int .i64 0) ∧ CpC w0 n k x c ps ms ps v bs l2 0 w' := by
  refine (sp_setval (i := 3) h.1 rfl 2 v (by simp)).mono ?_
  rintro e w' ⟨rfl, q⟩
  exact ⟨rfl, l, q.1, fun c => by rw [h.2 c]; simp⟩
theorem cpC_setpart (h : CpC w0 n k x c ps ms ps v bs l2 0 wr) {a : Option Addr} {m cc : Nat} (hi : In8 w0 a m cc ms) : Calls Try.prog 39 #[.pointer (some ⟨c, 0, none⟩), .int .u64 2, .slice a m cc] wr fun e w' => e = .returned (.int .i64 0) ∧ CpC w0 n k x c ps ms ms v bs l2 0 w' := by
  obtain ⟨l, h, g⟩ := h
  have hi' := hi.below (Mod.below h.mod)
  refine (sp_setpart (i := 3) h rfl 2 (by simp) a m cc ms hi'.len hi'.at_ hi'.cap hi'.nil).mono ?_
  rintro e w' ⟨rfl, q⟩
  exact ⟨rfl, l, q.1, g⟩
theorem cpC_valN (h : CpC w0 n k x c ps ms qs v bs l2 i wr) : Calls Try.prog 37 #[.pointer (some ⟨n, 0, none⟩)] wr fun e w' => e = .returned (.tuple #[.int .u64 0, .bool false]) ∧ wr = w' := by
  obtain ⟨l, h, g⟩ := h; exact sp_val (i := 0) h rfl
theorem cpC_valC (h : CpC w0 n k x c ps ms qs v bs l2 i wr) : Calls Try.prog 37 #[.pointer (some ⟨c, 0, none⟩)] wr fun e w' => e = .returned (.tuple #[.int .u64 v, .bool true]) ∧ wr = w' := by
  obtain ⟨l, h, g⟩ := h; exact sp_val (i := 3) h rfl
theorem cpC_lenC (h : CpC w0 n k x c ps ms qs v bs l2 i wr) : Calls Try.prog 38 #[.pointer (some ⟨c, 0, none⟩)] wr fun e w' => e = .returned (.int .i64 (l2.length : Nat)) ∧ wr = w' := by
  obtain ⟨l, h, g⟩ := h; exact sp_len (i := 3) h rfl
theorem cpC_lenN (h : CpC w0 n k x c ps ms qs v bs l2 bs.length wr) : Calls Try.prog 38 #[.pointer (some ⟨n, 0, none⟩)] wr fun e w' => e = .returned (.int .i64 0) ∧ wr = w' := by
  obtain ⟨l, h, g⟩ := h
  have := kget_none_nil (l := l) fun c => by rw [g c, List.take_length]; simp
  subst this
  exact sp_len (i := 0) h rfl
theorem cpC_drop (h : CpC w0 n k x c ps ms qs v bs l2 i wr) (hi : i < bs.length) (hb : ∀ y ∈ bs, y < 256) : Calls Try.prog 41 #[.pointer (some ⟨n, 0, none⟩), .int .u64 1, .int .u8 (bs.getD i 0 : Nat)] wr fun e w' => ∃ r : Int, e = .returned (.int .i64 r) ∧ CpC w0 n k x c ps ms qs v bs l2 (i + 1) w' := by
  obtain ⟨l, h, g⟩ := h
  have hs := h.srt (i := 0) (l := l) rfl rfl
  refine (sp_dropkid (i := 0) h rfl (l := l) rfl 1 (by simp) (bs.getD i 0) (hb _ (by simp [List.getD, List.getElem?_eq_getElem hi]))).mono ?_
  rintro e w' ⟨rfl, q⟩
  refine ⟨_, rfl, _, q.1, fun c => ?_⟩
  rw [get_del hs, g c]
  simp only [mem_take_next hi]
  generalize bs.getD i 0 = z
  by_cases e : c = z
  · simp [e]
  · simp [e]
/-- a part, and that it is the same as what came in -/
def CpSame (xs : List Nat) (a1 : Option Addr) (n1 c1 : Nat) (S : World → Prop) (e : Ending) (w' : World) : Prop :=
  ∃ a c, e = .returned (.slice a xs.length c) ∧ S w' ∧ Calls Try.prog 42 #[.slice a xs.length c, .slice a1 n1 c1] w' fun e w2 => e = .returned (.bool true) ∧ ∃ m, w2 = w'.drewN m ∧ S w2
theorem cp_same {xs : List Nat} {a1 : Option Addr} {n1 c1 : Nat} {S : World → Prop} (hi : In8 w0 a1 n1 c1 xs) (hS : ∀ w', Below wr.heap.size wr w' → S w' ∧ Below w0.heap.size w0 w') (hD : ∀ w' m, S w' → S (w'.drewN m)) {e : Ending} (q : gotPost xs wr e w') : CpSame xs a1 n1 c1 S e w' := by
  obtain ⟨a, c, rfl, h1, h2⟩ := q
  have h3 := hS w' h2
  have i' := hi.below h3.2
  have hm : xs.length ≤ maxLen := by have := hi.len; have := hi.cap; unfold maxLen; omega
  refine ⟨a, c, rfl, h3.1, ?_⟩
  refine (ref_same w' a a1 xs.length c n1 c1 xs xs h1 i'.at_ rfl hi.len hm (by rw [← hi.len]; exact hm)).mono ?_
  rintro e w2 ⟨rfl, m, rfl⟩
  exact ⟨by simp, m, rfl, hD _ _ h3.1⟩
theorem cpC_partN (h : CpC w0 n k x c ps ms qs v bs l2 i wr) {a1 : Option Addr} {n1 c1 : Nat} (hi : In8 w0 a1 n1 c1 ps) : Calls Try.prog 43 #[.pointer (some ⟨n, 0, none⟩)] wr (CpSame ps a1 n1 c1 (CpC w0 n k x c ps ms qs v bs l2 i)) := by
  have h0 := h
  obtain ⟨l, h, g⟩ := h
  exact (sp_part (i := 0) h rfl).mono fun e w' q => cp_same hi (fun w' b => ⟨h0.below b, (h0.below b).old⟩) (fun w' m s => s.drewN m) q
theorem cpC_partC (h : CpC w0 n k x c ps ms qs v bs l2 i wr) {a1 : Option Addr} {n1 c1 : Nat} (hi : In8 w0 a1 n1 c1 qs) : Calls Try.prog 43 #[.pointer (some ⟨c, 0, none⟩)] wr (CpSame qs a1 n1 c1 (CpC w0 n k x c ps ms qs v bs l2 i)) := by
  have h0 := h
  obtain ⟨l, h, g⟩ := h
  exact (sp_part (i := 3) h rfl).mono fun e w' q => cp_same hi (fun w' b => ⟨h0.below b, (h0.below b).old⟩) (fun w' m s => s.drewN m) q
end
end Go.Proofs.Ythifjldmhfpkhaa
