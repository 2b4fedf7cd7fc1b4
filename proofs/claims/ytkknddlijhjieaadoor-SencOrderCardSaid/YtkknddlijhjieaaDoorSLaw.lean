/- SencPuts: the walk of the law. -/
import Derived.Test.YtkknddlijhjieaaDoorSAlive
set_option linter.unusedVariables false
set_option linter.unusedSimpArgs false
namespace Go.Proofs.YtkknddlijhjieaaDoor
open Go.RowKit
/-- all that is known of slices, side by side -/
def All (L : List (Option Addr × Nat × Nat × List Nat)) (w wr : World) : Prop := Below w.heap.size w wr ∧ ∀ x ∈ L, Sl wr x.1 x.2.1 x.2.2.1 x.2.2.2
section
variable {L : List (Option Addr × Nat × Nat × List Nat)} {w wr w' : World}
theorem All.next (h : All L w wr) (hb : Below wr.heap.size wr w') : All L w w' := ⟨h.1.trans (hb.mono h.1.size), fun x hx => (h.2 x hx).below hb⟩
theorem All.add {a : Option Addr} {n c : Nat} {bs : List Nat} (h : All L w wr) (hs : Sl wr a n c bs) : All ((a, n, c, bs) :: L) w wr := ⟨h.1, fun x hx => by
  rcases List.mem_cons.1 hx with rfl | hx
  · exact hs
  · exact h.2 x hx⟩
theorem All.to (h : All L w wr) {a : Option Addr} {n c : Nat} {bs : List Nat} (hb : Below wr.heap.size wr w') (hs : Sl w' a n c bs) : All ((a, n, c, bs) :: L) w w' := (h.next hb).add hs
theorem All.get (h : All L w wr) (a : Option Addr) (n c : Nat) (bs : List Nat) (hm : (a, n, c, bs) ∈ L) : Sl wr a n c bs := h.2 _ hm
end
def slN (bs : List Nat) (n : Nat) (w : World) (e : Ending) (w' : World) : Prop := ∃ a c, e = .returned (.slice a n c) ∧ Sl w' a n c bs ∧ Below w.heap.size w w'
theorem clone_slN {bs : List Nat} {n : Nat} {w : World} {e : Ending} {w' : World} (h : clonePost 5 (bV bs) w e w') (hb : ∀ x ∈ bs, x < 256) (hn : bs.length = n) : slN bs n w e w' := by
  subst hn
  exact clone_sl h hb
section
variable {w : World} {a a2 : Option Addr} {n c n2 c2 : Nat} {s t : List Nat}
theorem sl_same (h : Sl w a n c s) (h2 : Sl w a2 n2 c2 t) : Calls Tryd.prog 7 #[.slice a n c, .slice a2 n2 c2] w fun e w' => e = .returned (.bool (decide (s = t))) ∧ Below w.heap.size w w' :=
  (ref_same w a a2 n c n2 c2 s t h.at_ h2.at_ h.len h2.len (Nat.le_trans h.cap h.capm) (Nat.le_trans h2.cap h2.capm)).mono fun e w' ⟨h, q, e⟩ => ⟨h, by rw [e]; exact below_drewN (Below.refl _ _) q⟩
theorem sl_same_yes (h : Sl w a n c s) (h2 : Sl w a2 n2 c2 s) : Calls Tryd.prog 7 #[.slice a n c, .slice a2 n2 c2] w fun e w' => e = .returned (.bool true) ∧ Below w.heap.size w w' :=
  (sl_same h h2).mono fun e w' ⟨h, q⟩ => ⟨by rw [h, decide_eq_true rfl], q⟩
theorem sl_cmp (h : Sl w a n c s) (h2 : Sl w a2 n2 c2 t) : Calls Tryd.prog 14 #[.slice a n c, .slice a2 n2 c2] w fun e w' => e = .returned (.int .i64 (bcmp s t)) ∧ Below w.heap.size w w' :=
  (ref_cmp w a a2 n c n2 c2 s t h.at_ h2.at_ h.len h2.len (Nat.le_trans h.cap h.capm) (Nat.le_trans h2.cap h2.capm)).mono fun e w' ⟨h, q, e⟩ => ⟨h, by rw [e]; exact below_drewN (Below.refl _ _) q⟩
theorem sl_put {m : Int} (hM : MaxAt w m) (h : Sl w a n c s) (hn : n ≤ 4000) : Calls Tryd.prog 8 #[.slice a n c] w (slN (putL s) (putL s).length w) := (senc_put hM a n c s h hn).mono fun e w' q => clone_slN q (putL_lt h.at_.1) rfl
theorem sl_rput (h : Sl w a n c s) (hn : n ≤ 4000) : Calls Tryd.prog 6 #[.slice a n c] w (slN (putL s) (putL s).length w) := (ref_put a n c s h hn).mono fun e w' q => clone_slN q (putL_lt h.at_.1) rfl
theorem sl_oth (h : Sl w a n c s) (hn : n ≤ 9000) : Calls Tryd.prog 10 #[.slice a n c] w (slN (othL s) n w) := (senc_other a n c s h hn).mono fun e w' q => clone_slN q (othL_lt s) (by rw [othL_len, h.len])
theorem sl_roth (h : Sl w a n c s) (hn : n ≤ 9000) : Calls Tryd.prog 11 #[.slice a n c] w (slN (othL s) n w) := (ref_other a n c s h hn).mono fun e w' q => clone_slN q (othL_lt s) (by rw [othL_len, h.len])
end
set_option maxHeartbeats 2000000 in
set_option maxRecDepth 100000 in
theorem law_puts {w : World} {m : Int} (hM : MaxAt w m) (a : Option Addr) (n c : Nat) (s : List Nat) (h : Sl w a n c s) : Calls Tryd.prog 3 #[.slice a n c] w (LawPost w) := by
  have HM := Lib.hid hM
  clear hM
  by_cases hb : 500 < n
  · have hb2 : (500 : Int) < (n : Int) := by omega
    clear h hb
    go_enter Tryd.func3, Tryd.ntmps3
    go_wp2_with (go_at_call 5; refine (alive_any HM.out).mono ?_; rintro e w' ⟨rfl, h1⟩; have H1 := Lib.hid h1; clear h1)
    go_ret
    exact ⟨rfl, H1.out⟩
  · have hb2 : ¬ (500 : Int) < (n : Int) := by omega
    have X0 : Hid (All [(a, n, c, s)] w w) := ⟨Below.refl _ _, fun x hx => by rw [List.mem_singleton.1 hx]; exact h⟩
    have hn4 : Hid (n ≤ 4000) := by show _ ≤ _; omega
    have hn9 : Hid (n ≤ 9000) := by show _ ≤ _; omega
    obtain ⟨l, hl⟩ : ∃ l, l = (putL s).length := ⟨_, rfl⟩
    have hRP := Lib.hid (sl_rput h hn4.out)
    have hP : Hid (∀ wr, All [(a, n, c, s)] w wr → Calls Tryd.prog 8 #[.slice a n c] wr (slN (putL s) l wr)) := fun wr q => by rw [hl]; exact sl_put (HM.out.below q.1) (q.get a n c s (by simp)) hn4.out
    have hL : Hid (∀ wr, All [(a, n, c, s)] w wr → Calls Tryd.prog 9 #[.slice a n c] wr fun e w' => e = .returned (.int .i64 (l : Nat)) ∧ Below wr.heap.size wr w') := fun wr q => by rw [hl]; exact senc_len (HM.out.below q.1) a n c s (q.get a n c s (by simp)) hn4.out
    rw [← hl] at hRP
    have hA : Hid (∀ {L} wr, All L w wr → Calls Tryd.prog 5 #[] wr (LawPost wr)) := fun wr q => alive_any (HM.out.below q.1)
    clear h hb hl
    go_enter Tryd.func3, Tryd.ntmps3
    go_wp2_with (first
      | (go_at_call 5; refine (hA.out _ X6.out).mono ?_; rintro e w7 ⟨rfl, h1⟩; have X7 := Lib.hid (X6.out.next h1); clear h1)
      | (go_at_call 7; refine (sl_same_yes (X5.out.get a5 n c5 (othL s) (by simp)) (X5.out.get a6 n c6 (othL s) (by simp))).mono ?_; rintro e w6 ⟨rfl, h1⟩; have X6 := Lib.hid (X5.out.next h1); clear h1)
      | (go_at_call 11; refine (sl_roth (X4.out.get a n c s (by simp)) hn9.out).mono ?_; rintro e w5 ⟨a6, c6, rfl, h1, h2⟩; have X5 := Lib.hid (X4.out.to h2 h1); clear h1 h2)
      | (go_at_call 10; refine (sl_oth (X3.out.get a n c s (by simp)) hn9.out).mono ?_; rintro e w4 ⟨a5, c5, rfl, h1, h2⟩; have X4 := Lib.hid (X3.out.to h2 h1); clear h1 h2)
      | (go_at_call 9; refine (hL.out _ ⟨X3a.out.1, fun x hx => by rw [List.mem_singleton.1 hx]; exact X3a.out.get a n c s (by simp)⟩).mono ?_; rintro e w4 ⟨rfl, h1⟩; have X3 := Lib.hid (X3a.out.next h1); clear h1)
      | (go_at_call 7; go_loud (refine (sl_same_yes (X2.out.get a2 l c2 (putL s) (by simp)) (X2.out.get a1 l c1 (putL s) (by simp))).mono ?_); rintro e w3 ⟨rfl, h1⟩; have X3a := Lib.hid (X2.out.next h1); clear h1)
      | (go_at_call 8; refine (hP.out _ ⟨X1.out.1, fun x hx => by rw [List.mem_singleton.1 hx]; exact X1.out.get a n c s (by simp)⟩).mono ?_; rintro e w2 ⟨a2, c2, rfl, h1, h2⟩; have X2 := Lib.hid (X1.out.to h2 h1); clear h1 h2)
      | (go_at_call 6; refine hRP.out.mono ?_; rintro e w1 ⟨a1, c1, rfl, h1, h2⟩; have X1 := Lib.hid (X0.out.to h2 h1); clear h1 h2))
    go_ret
    exact ⟨rfl, X7.out.1⟩
end Go.Proofs.YtkknddlijhjieaaDoor
