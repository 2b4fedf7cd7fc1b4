/- The statement NodeFrozen: its walk. -/
import Derived.Test.YthifjldmhfpkhaaNFrz
set_option linter.unusedVariables false
set_option linter.unusedSimpArgs false
namespace Go.Proofs.Ythifjldmhfpkhaa
open Go.RowKit
/-- the world behind the boxes of the law's arguments -/
def fzW (w : World) (o oth : Int) (s1 s2 : Value) (v0 v1 : Int) (b : Nat) : World := (w.alloc (.cells #[.int .u64 o, .int .u64 oth] 59)).alloc (.cells #[s1, s2, .int .u64 v0, .int .u64 v1, .int .u8 (b : Nat)] 61)
def TryAt (m : Nat) (s : Value) (v0 v1 : Int) (w : World) : Prop := w.cell? ⟨m, 1, none⟩ = some s ∧ w.cell? ⟨m, 2, none⟩ = some (.int .u64 v0) ∧ w.cell? ⟨m, 3, none⟩ = some (.int .u64 v1)
theorem fzW_below (w : World) (o oth : Int) (s1 s2 : Value) (v0 v1 : Int) (b k : Nat) : Below w.heap.size w ((fzW w o oth s1 s2 v0 v1 b).drewN k) :=
  below_drewN (((Below.refl _ w).alloc (Nat.le_refl _) _).alloc (by simp) _) k
theorem fzW_try (w : World) (o oth : Int) (s1 s2 : Value) (v0 v1 : Int) (b k : Nat) {wr : World} (h : Below ((fzW w o oth s1 s2 v0 v1 b).drewN k).heap.size ((fzW w o oth s1 s2 v0 v1 b).drewN k) wr) : TryAt (w.heap.size + 1) s2 v0 v1 wr := by
  have h1 : ((fzW w o oth s1 s2 v0 v1 b).drewN k).heap[w.heap.size + 1]? = some (.cells [s1, s2, .int .u64 v0, .int .u64 v1, .int .u8 (b : Nat)].toArray 61 (0, 0)) := by
    have := heap_alloc_new (w.alloc (.cells #[.int .u64 o, .int .u64 oth] 59)) (.cells #[s1, s2, .int .u64 v0, .int .u64 v1, .int .u8 (b : Nat)] 61)
    rw [World.size_alloc] at this
    exact this
  have h2 := (h.block (w.heap.size + 1) (Array.getElem?_eq_some_iff.1 h1).1).trans h1
  exact ⟨by rw [cell_of_blk h2]; rfl, by rw [cell_of_blk h2]; rfl, by rw [cell_of_blk h2]; rfl⟩
section
variable {w0 w w' : World} {o : Int} {a1 : Option Addr} {n1 c1 : Nat} {ps : List Nat} {P : List NP}
theorem fq_inner (h : StoreP NoX w0 w P) (hi : In8 w0 a1 n1 c1 ps) : Calls Try.prog 32 #[.pointer none, .int .u64 o, .slice a1 n1 c1] w fun e w' => ∃ k, e = .returned (.pointer (some ⟨k, 0, none⟩)) ∧ StoreP NoX w0 w' (P ++ [⟨k, o, ps, 0, false, some []⟩]) ∧ Below w0.heap.size w0 w' := by
  refine (sp_inner0 h (hi.below (Mod.below h.mod)) o).mono ?_
  rintro e w' ⟨k, rfl, q, _⟩
  exact ⟨k, rfl, q.1, Mod.below q.1.mod⟩
theorem fq_leaf (h : StoreP NoX w0 w P) (hi : In8 w0 a1 n1 c1 ps) (v : Int) : Calls Try.prog 33 #[.pointer none, .int .u64 o, .slice a1 n1 c1, .int .u64 v] w fun e w' => ∃ k, e = .returned (.pointer (some ⟨k, 0, none⟩)) ∧ StoreP NoX w0 w' (P ++ [⟨k, o, ps, v, true, none⟩]) ∧ Below w0.heap.size w0 w' := by
  refine (sp_leaf0 h (hi.below (Mod.below h.mod)) o v).mono ?_
  rintro e w' ⟨k, rfl, q, _⟩
  exact ⟨k, rfl, q.1, Mod.below q.1.mod⟩
end
/-- the walk's contracts that all arms share -/
structure FzC (w w0 : World) (o oth : Int) (a1 : Option Addr) (n1 c1 : Nat) (ps : List Nat) (b : Nat) (n : Nat) (val : Int) (has : Bool) (many : Nat) (kid : Value) : Prop where
  cval : ∀ wr, Frz w0 n o ps val has many b kid wr → Calls Try.prog 37 #[.pointer (some ⟨n, 0, none⟩)] wr fun e w' => e = .returned (if has then .tuple #[.int .u64 val, .bool true] else .tuple #[.int .u64 0, .bool false]) ∧ wr = w'
  clen : ∀ wr, Frz w0 n o ps val has many b kid wr → Calls Try.prog 38 #[.pointer (some ⟨n, 0, none⟩)] wr fun e w' => e = .returned (.int .i64 (many : Nat)) ∧ wr = w'
  cowner : ∀ wr, Frz w0 n o ps val has many b kid wr → Calls Try.prog 44 #[.pointer (some ⟨n, 0, none⟩)] wr fun e w' => e = .returned (.int .u64 o) ∧ wr = w'
  ckid : ∀ wr, Frz w0 n o ps val has many b kid wr → Calls Try.prog 45 #[.pointer (some ⟨n, 0, none⟩), .int .u8 (b : Nat)] wr fun e w' => e = .returned kid ∧ ∃ k, w' = wr.drewN k
  cpart : ∀ wr, Frz w0 n o ps val has many b kid wr → Calls Try.prog 43 #[.pointer (some ⟨n, 0, none⟩)] wr fun e w' => ∃ a c, e = .returned (.slice a ps.length c) ∧ Frz w0 n o ps val has many b kid w' ∧ (Calls Try.prog 42 #[.slice a ps.length c, .slice a1 n1 c1] w' fun e w2 => e = .returned (.bool true) ∧ ∃ k, w2 = w'.drewN k)
  csetpart : ∀ wr a m c, Frz w0 n o ps val has many b kid wr → Calls Try.prog 39 #[.pointer (some ⟨n, 0, none⟩), .int .u64 oth, .slice a m c] wr fun e w' => e = .returned (.int .i64 11) ∧ wr = w'
  csetval : ∀ wr v, Frz w0 n o ps val has many b kid wr → Calls Try.prog 34 #[.pointer (some ⟨n, 0, none⟩), .int .u64 oth, .int .u64 v] wr fun e w' => e = .returned (.int .i64 11) ∧ wr = w'
  cdropval : ∀ wr, Frz w0 n o ps val has many b kid wr → Calls Try.prog 40 #[.pointer (some ⟨n, 0, none⟩), .int .u64 oth] wr fun e w' => e = .returned (.int .i64 11) ∧ wr = w'
  csetkid : ∀ wr k, Frz w0 n o ps val has many b kid wr → Calls Try.prog 35 #[.pointer (some ⟨n, 0, none⟩), .int .u64 oth, .int .u8 (b : Nat), .pointer k] wr fun e w' => e = .returned (.int .i64 11) ∧ wr = w'
  cdropkid : ∀ wr, Frz w0 n o ps val has many b kid wr → Calls Try.prog 41 #[.pointer (some ⟨n, 0, none⟩), .int .u64 oth, .int .u8 (b : Nat)] wr fun e w' => e = .returned (.int .i64 11) ∧ wr = w'
  calive : ∀ wr, Below w0.heap.size w0 wr → Calls Try.prog 36 #[] wr (LawPost w)
theorem FzC.of {w w0 : World} {o oth : Int} {a1 : Option Addr} {n1 c1 : Nat} {ps : List Nat} {b : Nat} (hb : b < 256) (hw : Below w.heap.size w w0) (hi : In8 w0 a1 n1 c1 ps) (ho : oth = 0 ∨ oth ≠ o) (n : Nat) (val : Int) (has : Bool) (many : Nat) (kid : Value) : FzC w w0 o oth a1 n1 c1 ps b n val has many kid where
  cval := fun wr q => fz_val q
  clen := fun wr q => fz_len q
  cowner := fun wr q => fz_owner q
  ckid := fun wr q => fz_kid q hb
  cpart := fun wr q => by
    refine (fz_part q).mono ?_
    rintro e w' ⟨a, c, rfl, h1, h2⟩
    have q' := q.below h2
    have i' := hi.below q'.old
    have hm : ps.length ≤ maxLen := by have := hi.len; have := hi.cap; unfold maxLen; omega
    refine ⟨a, c, rfl, q', ?_⟩
    refine (ref_same w' a a1 ps.length c n1 c1 ps ps h1 i'.at_ rfl hi.len hm (by rw [← hi.len]; exact hm)).mono ?_
    rintro e w2 ⟨rfl, k, rfl⟩
    exact ⟨by simp, k, rfl⟩
  csetpart := fun wr a m c q => fz_setpart_no q oth a m c ho
  csetval := fun wr v q => fz_setval_no q oth v ho
  cdropval := fun wr q => fz_dropval_no q oth ho
  csetkid := fun wr k q => fz_setkid_no q oth b k ho
  cdropkid := fun wr q => fz_dropkid_no q oth b ho
  calive := fun wr q => by
    refine (aliveN_any wr).mono ?_
    rintro e w' ⟨rfl, h⟩
    have hs := hw.size
    exact ⟨rfl, hw.trans ((q.mono hs).trans (h.mono (Nat.le_trans hs q.size)))⟩
set_option maxHeartbeats 2000000 in
set_option maxRecDepth 100000 in
theorem NodeFrozen_leaf (o oth v0 v1 : Int) (b : Nat) (hb : b < 256) (a1 a2 : Option Addr) (n1 c1 n2 c2 : Nat) (ps : List Nat) (w : World) (hi : In8 w a1 n1 c1 ps) (ho : oth = 0 ∨ oth ≠ o) :
    Calls Try.prog 7 #[.bool true, .agg #[.int .u64 o, .int .u64 oth], .agg #[.slice a1 n1 c1, .slice a2 n2 c2, .int .u64 v0, .int .u64 v1, .int .u8 (b : Nat)]] w (LawPost w) := by
  have hcase : (oth ≠ o ∧ (oth == o) = false) ∨ (oth = 0 ∧ o = 0) := by
    by_cases h : oth = o
    · rcases ho with e | e
      · exact Or.inr ⟨e, by rw [← h]; exact e⟩
      · exact absurd h e
    · exact Or.inl ⟨h, by simpa using h⟩
  go_enter Try.func7, Try.ntmps7
  go_wp2_with fail
  go_quiet (fail)
  obtain ⟨w0, hw0⟩ : ∃ w0, Hid (w0 = (fzW w o oth (.slice a1 n1 c1) (.slice a2 n2 c2) v0 v1 b).drewN nq) := ⟨_, rfl⟩
  change Exit.then _ _ _ _ ((fzW w o oth (.slice a1 n1 c1) (.slice a2 n2 c2) v0 v1 b).drewN nq)
  have hw : Hid (Below w.heap.size w w0) := by show Below _ _ _; rw [hw0.out]; exact fzW_below _ _ _ _ _ _ _ _ _
  have htry : Hid (∀ wr, Below w0.heap.size w0 wr → TryAt (w.heap.size + 1) (.slice a2 n2 c2) v0 v1 wr) := fun wr q => by rw [hw0.out] at q; exact fzW_try _ _ _ _ _ _ _ _ _ q
  rw [← hw0.out]
  clear hw0
  have hi0 := hi.below hw.out
  have hIn := Lib.hid (fq_inner (o := o) (P := []) (StoreP.nil NoX (Mod.refl _ w0)) hi0)
  have hLf := Lib.hid (fun wr P (q : StoreP NoX w0 wr P) => fq_leaf (o := o) q hi0 v0)
  have hAl : Hid (∀ wr, Below w0.heap.size w0 wr → Calls Try.prog 36 #[] wr (LawPost w)) := (FzC.of (o := o) (oth := 0) hb hw.out hi0 (Or.inl rfl) 0 0 true 0 (.pointer none)).calive
  have hC := Lib.hid (fun n => FzC.of (oth := oth) hb hw.out hi0 ho n v0 true 0 (.pointer none))
  have hFz : Hid (∀ wr n l k, StoreP NoX w0 wr [⟨n, o, ps, 0, false, some []⟩, ⟨l, o, ps, v0, true, none⟩, ⟨k, o, ps, v0, true, none⟩] → Frz w0 l o ps v0 true 0 b (.pointer none) wr) := fun wr n l k q => ⟨_, 1, _, q, rfl, rfl, rfl, rfl, rfl, rfl, rfl, rfl⟩
  clear hi hb ho hi0
  rcases hcase with ⟨hne, hnb⟩ | ⟨rfl, rfl⟩
  all_goals go_wp2_with (first | (go_at_call 32; refine hIn.out.mono ?_; rintro e w1 ⟨n, rfl, q1, qb⟩; have q1 := Lib.hid q1; obtain ⟨d1, d2, d3⟩ := htry.out _ qb; clear qb) | (go_at_call 33; refine (hLf.out _ _ q2.out).mono ?_; rintro e w3 ⟨k, rfl, q3, qb⟩; have q3 := Lib.hid (hFz.out _ _ _ _ q3); obtain ⟨g1, g2, g3⟩ := htry.out _ qb; clear qb) | (go_at_call 33; refine (hLf.out _ _ q1.out).mono ?_; rintro e w2 ⟨l, rfl, q2, qb⟩; have q2 := Lib.hid q2; obtain ⟨f1, f2, f3⟩ := htry.out _ qb; clear qb) | (go_at_call 37; refine ((hC.out l).cval _ q3.out).mono ?_; rintro e w' ⟨rfl, rfl⟩) | (go_at_call 38; refine ((hC.out l).clen _ q3.out).mono ?_; rintro e w' ⟨rfl, rfl⟩) | (go_at_call 39; refine ((hC.out l).csetpart _ _ _ _ q3.out).mono ?_; rintro e w' ⟨rfl, rfl⟩) | (go_at_call 34; refine ((hC.out l).csetval _ _ q3.out).mono ?_; rintro e w' ⟨rfl, rfl⟩) | (go_at_call 40; refine ((hC.out l).cdropval _ q3.out).mono ?_; rintro e w' ⟨rfl, rfl⟩) | (go_at_call 35; refine ((hC.out l).csetkid _ _ q3.out).mono ?_; rintro e w' ⟨rfl, rfl⟩) | (go_at_call 41; refine ((hC.out l).cdropkid _ q3.out).mono ?_; rintro e w' ⟨rfl, rfl⟩) | (go_at_call 43; refine ((hC.out l).cpart _ q3.out).mono ?_; rintro e w4 ⟨pa, pc, rfl, q4, qs⟩; have q4 := Lib.hid q4; have qs := Lib.hid qs) | (go_at_call 42; refine qs.out.mono ?_; rintro e w' ⟨rfl, nd, rfl⟩; have q5 := Lib.hid (q4.out.drewN nd)) | (go_at_call 44; refine ((hC.out l).cowner _ q5.out).mono ?_; rintro e w' ⟨rfl, rfl⟩) | (go_at_call 45; refine ((hC.out l).ckid _ q5.out).mono ?_; rintro e w' ⟨rfl, nd2, rfl⟩; have q7 := Lib.hid (q4.out.drewN (nd + nd2))) | (go_at_call 36; refine (hAl.out _ q7.out.old).mono ?_; rintro e w' ⟨rfl, q6⟩; have q6 := Lib.hid q6) | (go_at_call 36; refine (hAl.out _ q5.out.old).mono ?_; rintro e w' ⟨rfl, q6⟩; have q6 := Lib.hid q6))
  all_goals go_ret
  all_goals exact ⟨rfl, q6.out⟩
set_option maxHeartbeats 2000000 in
set_option maxRecDepth 100000 in
theorem NodeFrozen_none (o oth v0 v1 : Int) (b : Nat) (hb : b < 256) (a1 a2 : Option Addr) (n1 c1 n2 c2 : Nat) (ps : List Nat) (w : World) (hi : In8 w a1 n1 c1 ps) (ho : o = 0) :
    Calls Try.prog 7 #[.bool false, .agg #[.int .u64 o, .int .u64 oth], .agg #[.slice a1 n1 c1, .slice a2 n2 c2, .int .u64 v0, .int .u64 v1, .int .u8 (b : Nat)]] w (LawPost w) := by
  have hcase : (oth ≠ o ∧ (oth == o) = false) ∨ oth = o := by
    by_cases h : oth = o
    · exact Or.inr h
    · exact Or.inl ⟨h, by simpa using h⟩
  have ho2 : oth = 0 ∨ oth ≠ o := by
    by_cases h : oth = 0
    · exact Or.inl h
    · exact Or.inr (by rw [ho]; exact h)
  have Ho := Lib.hid ho
  have Hcase := Lib.hid hcase
  have Ho2 := Lib.hid ho2
  clear ho hcase ho2
  go_enter Try.func7, Try.ntmps7
  go_wp2_with fail
  go_quiet (fail)
  obtain ⟨w0, hw0⟩ : ∃ w0, Hid (w0 = (fzW w o oth (.slice a1 n1 c1) (.slice a2 n2 c2) v0 v1 b).drewN nq) := ⟨_, rfl⟩
  change Exit.then _ _ _ _ ((fzW w o oth (.slice a1 n1 c1) (.slice a2 n2 c2) v0 v1 b).drewN nq)
  have hw : Hid (Below w.heap.size w w0) := by show Below _ _ _; rw [hw0.out]; exact fzW_below _ _ _ _ _ _ _ _ _
  have htry : Hid (∀ wr, Below w0.heap.size w0 wr → TryAt (w.heap.size + 1) (.slice a2 n2 c2) v0 v1 wr) := fun wr q => by rw [hw0.out] at q; exact fzW_try _ _ _ _ _ _ _ _ _ q
  rw [← hw0.out]
  clear hw0
  have hi0 := hi.below hw.out
  have hIn := Lib.hid (fq_inner (o := o) (P := []) (StoreP.nil NoX (Mod.refl _ w0)) hi0)
  have hLf := Lib.hid (fun wr P (q : StoreP NoX w0 wr P) => fq_leaf (o := o) q hi0 v0)
  have hAl : Hid (∀ wr, Below w0.heap.size w0 wr → Calls Try.prog 36 #[] wr (LawPost w)) := (FzC.of (o := o) (oth := 0) hb hw.out hi0 (Or.inl rfl) 0 0 true 0 (.pointer none)).calive
  have hC := Lib.hid (fun n => FzC.of (oth := oth) hb hw.out hi0 Ho2.out n 0 false 0 (.pointer none))
  have hFz : Hid (∀ wr n k, StoreP NoX w0 wr [⟨n, o, ps, 0, false, some []⟩, ⟨k, o, ps, v0, true, none⟩] → Frz w0 n o ps 0 false 0 b (.pointer none) wr) := fun wr n k q => ⟨_, 0, _, q, rfl, rfl, rfl, rfl, rfl, rfl, rfl, rfl⟩
  clear hi hb hi0 Ho2
  have ho := Ho.out
  have hcase := Hcase.out
  clear Ho Hcase
  subst ho
  rcases hcase with ⟨hne, hnb⟩ | rfl
  all_goals go_wp2_with (first | (go_at_call 32; refine hIn.out.mono ?_; rintro e w1 ⟨n, rfl, q1, qb⟩; have q1 := Lib.hid q1; obtain ⟨d1, d2, d3⟩ := htry.out _ qb; clear qb) | (go_at_call 33; refine (hLf.out _ _ q1.out).mono ?_; rintro e w3 ⟨k, rfl, q3, qb⟩; have q3 := Lib.hid (hFz.out _ _ _ q3); obtain ⟨g1, g2, g3⟩ := htry.out _ qb; clear qb) | (go_at_call 37; refine ((hC.out n).cval _ q3.out).mono ?_; rintro e w' ⟨rfl, rfl⟩) | (go_at_call 38; refine ((hC.out n).clen _ q3.out).mono ?_; rintro e w' ⟨rfl, rfl⟩) | (go_at_call 39; refine ((hC.out n).csetpart _ _ _ _ q3.out).mono ?_; rintro e w' ⟨rfl, rfl⟩) | (go_at_call 34; refine ((hC.out n).csetval _ _ q3.out).mono ?_; rintro e w' ⟨rfl, rfl⟩) | (go_at_call 40; refine ((hC.out n).cdropval _ q3.out).mono ?_; rintro e w' ⟨rfl, rfl⟩) | (go_at_call 35; refine ((hC.out n).csetkid _ _ q3.out).mono ?_; rintro e w' ⟨rfl, rfl⟩) | (go_at_call 41; refine ((hC.out n).cdropkid _ q3.out).mono ?_; rintro e w' ⟨rfl, rfl⟩) | (go_at_call 43; refine ((hC.out n).cpart _ q3.out).mono ?_; rintro e w4 ⟨pa, pc, rfl, q4, qs⟩; have q4 := Lib.hid q4; have qs := Lib.hid qs) | (go_at_call 42; refine qs.out.mono ?_; rintro e w' ⟨rfl, nd, rfl⟩; have q5 := Lib.hid (q4.out.drewN nd)) | (go_at_call 44; refine ((hC.out n).cowner _ q5.out).mono ?_; rintro e w' ⟨rfl, rfl⟩) | (go_at_call 45; refine ((hC.out n).ckid _ q5.out).mono ?_; rintro e w' ⟨rfl, nd2, rfl⟩; have q7 := Lib.hid (q4.out.drewN (nd + nd2))) | (go_at_call 36; refine (hAl.out _ q7.out.old).mono ?_; rintro e w' ⟨rfl, q6⟩; have q6 := Lib.hid q6) | (go_at_call 36; refine (hAl.out _ q5.out.old).mono ?_; rintro e w' ⟨rfl, q6⟩; have q6 := Lib.hid q6))
  all_goals go_ret
  all_goals exact ⟨rfl, q6.out⟩
set_option maxHeartbeats 2000000 in
set_option maxRecDepth 100000 in
theorem NodeFrozen_mine (o oth v0 v1 : Int) (b : Nat) (hb : b < 256) (a1 a2 : Option Addr) (n1 c1 n2 c2 : Nat) (ps : List Nat) (w : World) (hi : In8 w a1 n1 c1 ps) (ho : o ≠ 0) (hne : oth ≠ o) :
    Calls Try.prog 7 #[.bool false, .agg #[.int .u64 o, .int .u64 oth], .agg #[.slice a1 n1 c1, .slice a2 n2 c2, .int .u64 v0, .int .u64 v1, .int .u8 (b : Nat)]] w (LawPost w) := by
  have hnz : (o != 0) = true := by simpa using ho
  have hnb : (oth == o) = false := by simpa using hne
  go_enter Try.func7, Try.ntmps7
  go_wp2_with fail
  go_quiet (fail)
  obtain ⟨w0, hw0⟩ : ∃ w0, Hid (w0 = (fzW w o oth (.slice a1 n1 c1) (.slice a2 n2 c2) v0 v1 b).drewN nq) := ⟨_, rfl⟩
  change Exit.then _ _ _ _ ((fzW w o oth (.slice a1 n1 c1) (.slice a2 n2 c2) v0 v1 b).drewN nq)
  have hw : Hid (Below w.heap.size w w0) := by show Below _ _ _; rw [hw0.out]; exact fzW_below _ _ _ _ _ _ _ _ _
  have htry : Hid (∀ wr, Below w0.heap.size w0 wr → TryAt (w.heap.size + 1) (.slice a2 n2 c2) v0 v1 wr) := fun wr q => by rw [hw0.out] at q; exact fzW_try _ _ _ _ _ _ _ _ _ q
  rw [← hw0.out]
  clear hw0
  have hi0 := hi.below hw.out
  have hIn := Lib.hid (fq_inner (o := o) (P := []) (StoreP.nil NoX (Mod.refl _ w0)) hi0)
  have hLf := Lib.hid (fun wr P (q : StoreP NoX w0 wr P) => fq_leaf (o := o) q hi0 v0)
  have hAl : Hid (∀ wr, Below w0.heap.size w0 wr → Calls Try.prog 36 #[] wr (LawPost w)) := (FzC.of (o := o) (oth := 0) hb hw.out hi0 (Or.inl rfl) 0 0 true 0 (.pointer none)).calive
  have hC := Lib.hid (fun n k => FzC.of (oth := oth) hb hw.out hi0 (Or.inr hne) n v0 true 1 (.pointer (some ⟨k, 0, none⟩)))
  have hmay : ¬ (o = 0 ∨ o ≠ o) := by simp [ho]
  have hSv : Hid (∀ wr n k, StoreP NoX w0 wr [⟨n, o, ps, 0, false, some []⟩, ⟨k, o, ps, v0, true, none⟩] → Calls Try.prog 34 #[.pointer (some ⟨n, 0, none⟩), .int .u64 o, .int .u64 v0] wr fun e w' => e = .returned (.int .i64 0) ∧ StoreP NoX w0 w' [⟨n, o, ps, v0, true, some []⟩, ⟨k, o, ps, v0, true, none⟩] ∧ Below w0.heap.size w0 w') := fun wr n k q => by
    refine (sp_setval (i := 0) q rfl o v0 hmay).mono ?_
    rintro e w' ⟨rfl, q'⟩
    exact ⟨rfl, q'.1, Mod.below q'.1.mod⟩
  have hSk : Hid (∀ wr n k, StoreP NoX w0 wr [⟨n, o, ps, v0, true, some []⟩, ⟨k, o, ps, v0, true, none⟩] → Calls Try.prog 35 #[.pointer (some ⟨n, 0, none⟩), .int .u64 o, .int .u8 (b : Nat), .pointer (some ⟨k, 0, none⟩)] wr fun e w' => e = .returned (.int .i64 0) ∧ Frz w0 n o ps v0 true 1 b (.pointer (some ⟨k, 0, none⟩)) w' ∧ Below w0.heap.size w0 w') := fun wr n k q => by
    refine (sp_setkid (i := 0) q rfl (l := []) rfl o hmay b hb ⟨k, 0, none⟩).mono ?_
    rintro e w' ⟨rfl, q'⟩
    exact ⟨rfl, ⟨_, 0, _, q'.1, rfl, rfl, rfl, rfl, rfl, rfl, rfl, by simp [kins, kget]⟩, Mod.below q'.1.mod⟩
  clear hi hb hi0 hmay
  have hpe := ptr_eq
  go_wp2_with (first | (go_at_call 32; refine hIn.out.mono ?_; rintro e w1 ⟨n, rfl, q1, qb⟩; have q1 := Lib.hid q1; obtain ⟨d1, d2, d3⟩ := htry.out _ qb; clear qb) | (go_at_call 33; refine (hLf.out _ _ q1.out).mono ?_; rintro e w2 ⟨k, rfl, q2, qb⟩; have q2 := Lib.hid q2; obtain ⟨g1, g2, g3⟩ := htry.out _ qb; clear qb) | (go_at_call 37; refine ((hC.out n k).cval _ q3.out).mono ?_; rintro e w' ⟨rfl, rfl⟩) | (go_at_call 38; refine ((hC.out n k).clen _ q3.out).mono ?_; rintro e w' ⟨rfl, rfl⟩) | (go_at_call 39; refine ((hC.out n k).csetpart _ _ _ _ q3.out).mono ?_; rintro e w' ⟨rfl, rfl⟩) | (go_at_call 34; refine ((hC.out n k).csetval _ _ q3.out).mono ?_; rintro e w' ⟨rfl, rfl⟩) | (go_at_call 40; refine ((hC.out n k).cdropval _ q3.out).mono ?_; rintro e w' ⟨rfl, rfl⟩) | (go_at_call 35; refine ((hC.out n k).csetkid _ _ q3.out).mono ?_; rintro e w' ⟨rfl, rfl⟩) | (go_at_call 41; refine ((hC.out n k).cdropkid _ q3.out).mono ?_; rintro e w' ⟨rfl, rfl⟩) | (go_at_call 43; refine ((hC.out n k).cpart _ q3.out).mono ?_; rintro e w4 ⟨pa, pc, rfl, q4, qs⟩; have q4 := Lib.hid q4; have qs := Lib.hid qs) | (go_at_call 42; refine qs.out.mono ?_; rintro e w' ⟨rfl, nd, rfl⟩; have q5 := Lib.hid (q4.out.drewN nd)) | (go_at_call 44; refine ((hC.out n k).cowner _ q5.out).mono ?_; rintro e w' ⟨rfl, rfl⟩) | (go_at_call 45; refine ((hC.out n k).ckid _ q5.out).mono ?_; rintro e w' ⟨rfl, nd2, rfl⟩; have q7 := Lib.hid (q4.out.drewN (nd + nd2))) | (go_at_call 36; refine (hAl.out _ q7.out.old).mono ?_; rintro e w' ⟨rfl, q6⟩; have q6 := Lib.hid q6) | (go_at_call 36; refine (hAl.out _ q5.out.old).mono ?_; rintro e w' ⟨rfl, q6⟩; have q6 := Lib.hid q6) | (go_at_call 34; refine (hSv.out _ _ _ q2.out).mono ?_; rintro e w5 ⟨rfl, q8, qb⟩; have q8 := Lib.hid q8; obtain ⟨f1, f2, f3⟩ := htry.out _ qb; clear qb) | (go_at_call 35; refine (hSk.out _ _ _ q8.out).mono ?_; rintro e w6 ⟨rfl, q3, qb⟩; have q3 := Lib.hid q3; obtain ⟨j1, j2, j3⟩ := htry.out _ qb; clear qb))
  all_goals go_ret
  all_goals exact ⟨rfl, q6.out⟩
set_option maxHeartbeats 2000000 in
set_option maxRecDepth 100000 in
theorem NodeFrozen_self (o oth v0 v1 : Int) (b : Nat) (hb : b < 256) (a1 a2 : Option Addr) (n1 c1 n2 c2 : Nat) (ps : List Nat) (w : World) (hi : In8 w a1 n1 c1 ps) (ho : o ≠ 0) (hne : oth = o) :
    Calls Try.prog 7 #[.bool false, .agg #[.int .u64 o, .int .u64 oth], .agg #[.slice a1 n1 c1, .slice a2 n2 c2, .int .u64 v0, .int .u64 v1, .int .u8 (b : Nat)]] w (LawPost w) := by
  have hnz : (o != 0) = true := by simpa using ho
  have hne2 := hne.symm; subst hne2
  go_enter Try.func7, Try.ntmps7
  go_wp2_with fail
  go_quiet (fail)
  obtain ⟨w0, hw0⟩ : ∃ w0, Hid (w0 = (fzW w o o (.slice a1 n1 c1) (.slice a2 n2 c2) v0 v1 b).drewN nq) := ⟨_, rfl⟩
  change Exit.then _ _ _ _ ((fzW w o o (.slice a1 n1 c1) (.slice a2 n2 c2) v0 v1 b).drewN nq)
  have hw : Hid (Below w.heap.size w w0) := by show Below _ _ _; rw [hw0.out]; exact fzW_below _ _ _ _ _ _ _ _ _
  have htry : Hid (∀ wr, Below w0.heap.size w0 wr → TryAt (w.heap.size + 1) (.slice a2 n2 c2) v0 v1 wr) := fun wr q => by rw [hw0.out] at q; exact fzW_try _ _ _ _ _ _ _ _ _ q
  rw [← hw0.out]
  clear hw0
  have hi0 := hi.below hw.out
  have hIn := Lib.hid (fq_inner (o := o) (P := []) (StoreP.nil NoX (Mod.refl _ w0)) hi0)
  have hLf := Lib.hid (fun wr P (q : StoreP NoX w0 wr P) => fq_leaf (o := o) q hi0 v0)
  have hAl : Hid (∀ wr, Below w0.heap.size w0 wr → Calls Try.prog 36 #[] wr (LawPost w)) := (FzC.of (o := o) (oth := 0) hb hw.out hi0 (Or.inl rfl) 0 0 true 0 (.pointer none)).calive
  have hmay : ¬ (o = 0 ∨ o ≠ o) := by simp [ho]
  have hSv : Hid (∀ wr n k, StoreP NoX w0 wr [⟨n, o, ps, 0, false, some []⟩, ⟨k, o, ps, v0, true, none⟩] → Calls Try.prog 34 #[.pointer (some ⟨n, 0, none⟩), .int .u64 o, .int .u64 v0] wr fun e w' => e = .returned (.int .i64 0) ∧ StoreP NoX w0 w' [⟨n, o, ps, v0, true, some []⟩, ⟨k, o, ps, v0, true, none⟩] ∧ Below w0.heap.size w0 w') := fun wr n k q => by
    refine (sp_setval (i := 0) q rfl o v0 hmay).mono ?_
    rintro e w' ⟨rfl, q'⟩
    exact ⟨rfl, q'.1, Mod.below q'.1.mod⟩
  have hSk : Hid (∀ wr n k, StoreP NoX w0 wr [⟨n, o, ps, v0, true, some []⟩, ⟨k, o, ps, v0, true, none⟩] → Calls Try.prog 35 #[.pointer (some ⟨n, 0, none⟩), .int .u64 o, .int .u8 (b : Nat), .pointer (some ⟨k, 0, none⟩)] wr fun e w' => e = .returned (.int .i64 0) ∧ Frz w0 n o ps v0 true 1 b (.pointer (some ⟨k, 0, none⟩)) w' ∧ Below w0.heap.size w0 w') := fun wr n k q => by
    refine (sp_setkid (i := 0) q rfl (l := []) rfl o hmay b hb ⟨k, 0, none⟩).mono ?_
    rintro e w' ⟨rfl, q'⟩
    exact ⟨rfl, ⟨_, 0, _, q'.1, rfl, rfl, rfl, rfl, rfl, rfl, rfl, by simp [kins, kget]⟩, Mod.below q'.1.mod⟩
  clear hi hb hi0 hmay
  go_wp2_with (first | (go_at_call 32; refine hIn.out.mono ?_; rintro e w1 ⟨n, rfl, q1, qb⟩; have q1 := Lib.hid q1; obtain ⟨d1, d2, d3⟩ := htry.out _ qb; clear qb) | (go_at_call 33; refine (hLf.out _ _ q1.out).mono ?_; rintro e w2 ⟨k, rfl, q2, qb⟩; have q2 := Lib.hid q2; obtain ⟨g1, g2, g3⟩ := htry.out _ qb; clear qb) | (go_at_call 34; refine (hSv.out _ _ _ q2.out).mono ?_; rintro e w5 ⟨rfl, q8, qb⟩; have q8 := Lib.hid q8; obtain ⟨f1, f2, f3⟩ := htry.out _ qb; clear qb) | (go_at_call 35; refine (hSk.out _ _ _ q8.out).mono ?_; rintro e w6 ⟨rfl, q3, qb⟩; have q3 := Lib.hid q3; obtain ⟨j1, j2, j3⟩ := htry.out _ qb; clear qb) | (go_at_call 36; refine (hAl.out _ q3.out.old).mono ?_; rintro e w' ⟨rfl, q6⟩; have q6 := Lib.hid q6))
  all_goals go_ret
  all_goals exact ⟨rfl, q6.out⟩
set_option maxHeartbeats 2000000 in
set_option maxRecDepth 100000 in
theorem NodeFrozen_leafself (o oth v0 v1 : Int) (b : Nat) (hb : b < 256) (a1 a2 : Option Addr) (n1 c1 n2 c2 : Nat) (ps : List Nat) (w : World) (hi : In8 w a1 n1 c1 ps) (ho : o ≠ 0) (hne : oth = o) :
    Calls Try.prog 7 #[.bool true, .agg #[.int .u64 o, .int .u64 oth], .agg #[.slice a1 n1 c1, .slice a2 n2 c2, .int .u64 v0, .int .u64 v1, .int .u8 (b : Nat)]] w (LawPost w) := by
  have hnz : (o != 0) = true := by simpa using ho
  have hne2 := hne.symm; subst hne2
  go_enter Try.func7, Try.ntmps7
  go_wp2_with fail
  go_quiet (fail)
  obtain ⟨w0, hw0⟩ : ∃ w0, Hid (w0 = (fzW w o o (.slice a1 n1 c1) (.slice a2 n2 c2) v0 v1 b).drewN nq) := ⟨_, rfl⟩
  change Exit.then _ _ _ _ ((fzW w o o (.slice a1 n1 c1) (.slice a2 n2 c2) v0 v1 b).drewN nq)
  have hw : Hid (Below w.heap.size w w0) := by show Below _ _ _; rw [hw0.out]; exact fzW_below _ _ _ _ _ _ _ _ _
  have htry : Hid (∀ wr, Below w0.heap.size w0 wr → TryAt (w.heap.size + 1) (.slice a2 n2 c2) v0 v1 wr) := fun wr q => by rw [hw0.out] at q; exact fzW_try _ _ _ _ _ _ _ _ _ q
  rw [← hw0.out]
  clear hw0
  have hi0 := hi.below hw.out
  have hIn := Lib.hid (fq_inner (o := o) (P := []) (StoreP.nil NoX (Mod.refl _ w0)) hi0)
  have hLf := Lib.hid (fun wr P (q : StoreP NoX w0 wr P) => fq_leaf (o := o) q hi0 v0)
  have hAl : Hid (∀ wr, Below w0.heap.size w0 wr → Calls Try.prog 36 #[] wr (LawPost w)) := (FzC.of (o := o) (oth := 0) hb hw.out hi0 (Or.inl rfl) 0 0 true 0 (.pointer none)).calive
  clear hi hb hi0
  go_wp2_with (first | (go_at_call 32; refine hIn.out.mono ?_; rintro e w1 ⟨n, rfl, q1, qb⟩; have q1 := Lib.hid q1; obtain ⟨d1, d2, d3⟩ := htry.out _ qb; clear qb) | (go_at_call 33; refine (hLf.out _ _ q2.out).mono ?_; rintro e w3 ⟨k, rfl, _, q3⟩) | (go_at_call 33; refine (hLf.out _ _ q1.out).mono ?_; rintro e w2 ⟨l, rfl, q2, qb⟩; have q2 := Lib.hid q2; obtain ⟨f1, f2, f3⟩ := htry.out _ qb; clear qb) | (go_at_call 36; refine (hAl.out _ q3).mono ?_; rintro e w' ⟨rfl, q6⟩; have q6 := Lib.hid q6))
  all_goals go_ret
  all_goals exact ⟨rfl, q6.out⟩
theorem NodeFrozen_any (leaf : Bool) (o oth v0 v1 : Int) (b : Nat) (hb : b < 256) (a1 a2 : Option Addr) (n1 c1 n2 c2 : Nat) (ps : List Nat) (w : World) (hi : In8 w a1 n1 c1 ps) :
    Calls Try.prog 7 #[.bool leaf, .agg #[.int .u64 o, .int .u64 oth], .agg #[.slice a1 n1 c1, .slice a2 n2 c2, .int .u64 v0, .int .u64 v1, .int .u8 (b : Nat)]] w (LawPost w) := by
  cases leaf with
  | true =>
    by_cases h0 : o = 0
    · refine NodeFrozen_leaf o oth v0 v1 b hb a1 a2 n1 c1 n2 c2 ps w hi ?_
      by_cases h : oth = 0
      · exact Or.inl h
      · exact Or.inr (by rw [h0]; exact h)
    · by_cases h1 : oth = o
      · exact NodeFrozen_leafself o oth v0 v1 b hb a1 a2 n1 c1 n2 c2 ps w hi h0 h1
      · exact NodeFrozen_leaf o oth v0 v1 b hb a1 a2 n1 c1 n2 c2 ps w hi (Or.inr h1)
  | false =>
    by_cases h0 : o = 0
    · exact NodeFrozen_none o oth v0 v1 b hb a1 a2 n1 c1 n2 c2 ps w hi h0
    · by_cases h1 : oth = o
      · exact NodeFrozen_self o oth v0 v1 b hb a1 a2 n1 c1 n2 c2 ps w hi h0 h1
      · exact NodeFrozen_mine o oth v0 v1 b hb a1 a2 n1 c1 n2 c2 ps w hi h0 h1
end Go.Proofs.Ythifjldmhfpkhaa
