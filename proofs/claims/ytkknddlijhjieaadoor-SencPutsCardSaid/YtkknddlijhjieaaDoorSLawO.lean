/- SencOrder: the walk of the law. -/
import Derived.Test.YtkknddlijhjieaaDoorSLaw
set_option linter.unusedVariables false
set_option linter.unusedSimpArgs false
namespace Go.Proofs.YtkknddlijhjieaaDoor
open Go.RowKit
set_option maxRecDepth 100000 in
theorem sl_begins_no {w : World} {a a2 : Option Addr} {n c n2 c2 : Nat} {s t : List Nat} (h : Sl w a n c s) (h2 : Sl w a2 n2 c2 t) (hne : lcp s t ≠ n2) : Calls Tryd.prog 13 #[.slice a n c, .slice a2 n2 c2] w fun e w' => e = .returned (.bool false) ∧ Below w.heap.size w w' := by
  have hC := Lib.hid (ref_common w a a2 n c n2 c2 s t h.at_ h2.at_ h.len h2.len (Nat.le_trans h.cap h.capm) (Nat.le_trans h2.cap h2.capm))
  obtain ⟨k, hk⟩ : ∃ k, k = lcp s t := ⟨_, rfl⟩
  rw [← hk] at hC hne
  have q1 : ((k : Int) == (n2 : Int)) = false := beq_eq_false_iff_ne.2 (by omega)
  have hB : Hid (∀ q, Below w.heap.size w (w.drewN q)) := fun q => below_drewN (Below.refl _ _) q
  clear h h2 hk hne
  go_enter Tryd.func13, Tryd.ntmps13
  go_wp2_with (go_at_call 19; refine hC.out.mono ?_; rintro e w' ⟨rfl, q, rfl⟩)
  go_ret
  exact ⟨rfl, hB.out q⟩
theorem bcmp_small (s t : List Nat) : -1 ≤ bcmp s t ∧ bcmp s t ≤ 1 := by
  unfold bcmp
  split
  · omega
  · split
    · omega
    · split
      · omega
      · split <;> omega
theorem sl_take_any {w : World} {m : Int} (hM : MaxAt w m) {a : Option Addr} {n c : Nat} {s r : List Nat} (h : Sl w a n c (putL s ++ r)) (hs : ∀ x ∈ s, x < 256) (hn : n ≤ 4000) : Calls Tryd.prog 12 #[.slice a n c] w (takePost s r w) := by
  have hl := h.len
  rw [List.length_append, put_len] at hl
  obtain ⟨p, rfl⟩ := h.some_ (by omega)
  by_cases hc : c = (putL s).length
  · exact senc_take_end hM p n c _ s r h hs hn rfl hc
  · exact senc_take_in hM p n c _ s r h hs hn rfl hc
theorem All.sub {L : List (Option Addr × Nat × Nat × List Nat)} {w wr : World} {y : Option Addr × Nat × Nat × List Nat} (h : All L w wr) (hy : y ∈ L) : All (y :: L) w wr := ⟨h.1, fun x hx => by
  rcases List.mem_cons.1 hx with rfl | hx
  · exact h.2 _ hy
  · exact h.2 x hx⟩
theorem sl_app {w wr : World} {L : List Nat} {v : Value} {bo : Option Nat} {n : Nat} (h : OwnR w L v bo wr) (hb : ∀ x ∈ L, x < 256) (hn : L.length = n) : ∃ a c, v = .slice a n c ∧ Sl wr a n c L := by
  subst hn; exact own_sl h.1 hb
theorem sl_app' {w wr : World} {L : List Nat} {v : Value} {bo : Option Nat} {n : Nat} (h : OwnR w L v bo wr) (hb : ∀ x ∈ L, x < 256) (hn : L.length = n) : ∃ a c, v = .slice a n c ∧ Sl wr a n c L := sl_app h hb hn
set_option maxHeartbeats 4000000 in
set_option maxRecDepth 100000 in
theorem law_order {w : World} {m : Int} (hM : MaxAt w m) (a : Option Addr) (n c : Nat) (s : List Nat) (h : Sl w a n c s) (b : Option Addr) (n2 d : Nat) (t : List Nat) (h2 : Sl w b n2 d t) (r : Option Addr) (n3 f : Nat) (u : List Nat) (h3 : Sl w r n3 f u) : Calls Tryd.prog 4 #[.slice a n c, .slice b n2 d, .slice r n3 f] w (LawPost w) := by
  have HM := Lib.hid hM
  clear hM
  by_cases hb : 300 < n ∨ 300 < n2 ∨ 300 < n3
  · have hA := Lib.hid (alive_any HM.out)
    clear h h2 h3
    have hh : (300 : Int) < (n : Int) ∨ (¬ (300 : Int) < (n : Int) ∧ (300 : Int) < (n2 : Int)) ∨ (¬ (300 : Int) < (n : Int) ∧ ¬ (300 : Int) < (n2 : Int) ∧ (300 : Int) < (n3 : Int)) := by omega
    clear hb
    rcases hh with q1 | ⟨q1, q2⟩ | ⟨q1, q2, q3⟩
    all_goals
      go_enter Tryd.func4, Tryd.ntmps4
      go_wp2_with (go_at_call 5; refine hA.out.mono ?_; rintro e w' ⟨rfl, h1⟩; have H1 := Lib.hid h1; clear h1)
      go_ret
      exact ⟨rfl, H1.out⟩
  · have q1 : ¬ (300 : Int) < (n : Int) := by omega
    have q2 : ¬ (300 : Int) < (n2 : Int) := by omega
    have q3 : ¬ (300 : Int) < (n3 : Int) := by omega
    have X0 : Hid (All [(a, n, c, s), (b, n2, d, t), (r, n3, f, u)] w w) := by
      refine ⟨Below.refl _ _, fun x hx => ?_⟩
      simp only [List.mem_cons, List.not_mem_nil, or_false] at hx
      rcases hx with rfl | rfl | rfl
      · exact h
      · exact h2
      · exact h3
    have hs := Lib.hid h.at_.1
    have ht := Lib.hid h2.at_.1
    have hu := Lib.hid h3.at_.1
    have hn : Hid (n ≤ 300 ∧ n2 ≤ 300 ∧ n3 ≤ 300) := by show _ ∧ _; omega
    obtain ⟨l, hl⟩ : ∃ l, l = (putL s).length := ⟨_, rfl⟩
    obtain ⟨l2, hl2⟩ : ∃ l, l = (putL t).length := ⟨_, rfl⟩
    have hll : Hid (l ≤ 602 ∧ l2 ≤ 602) := by
      show _ ∧ _
      have e1 := put_len s
      have e2 := put_len t
      have e3 := escL_len s
      have e4 := escL_len t
      have e5 := List.count_le_length (a := 0) (l := s)
      have e6 := List.count_le_length (a := 0) (l := t)
      have e7 := h.len
      have e8 := h2.len
      omega
    have HL : Hid (l = (putL s).length ∧ l2 = (putL t).length) := ⟨hl, hl2⟩
    have hP : Hid (∀ {L} wr, All L w wr → (a, n, c, s) ∈ L → Calls Tryd.prog 8 #[.slice a n c] wr (slN (putL s) l wr)) := fun wr q hm => by rw [hl]; exact sl_put (HM.out.below q.1) (q.get a n c s hm) (by have := hn.out; omega)
    have hP2 : Hid (∀ {L} wr, All L w wr → (b, n2, d, t) ∈ L → Calls Tryd.prog 8 #[.slice b n2 d] wr (slN (putL t) l2 wr)) := fun wr q hm => by rw [hl2]; exact sl_put (HM.out.below q.1) (q.get b n2 d t hm) (by have := hn.out; omega)
    have hA : Hid (∀ {L} wr, All L w wr → Calls Tryd.prog 5 #[] wr (LawPost wr)) := fun wr q => alive_any (HM.out.below q.1)
    have hT : Hid (∀ {L} wr x y, All L w wr → (x, l + n3, y, putL s ++ u) ∈ L → Calls Tryd.prog 12 #[.slice x (l + n3) y] wr fun e w' => ∃ a1 c1 a2 c2, e = .returned (.tuple #[.slice a1 n c1, .slice a2 n3 c2, .int .i64 0]) ∧ All ((a1, n, c1, s) :: (a2, n3, c2, u) :: L) w w') := fun {L} wr x y q hm => by
      refine (sl_take_any (HM.out.below q.1) (q.get x (l + n3) y _ hm) hs.out (by have := hll.out; have := hn.out; omega)).mono ?_
      rintro e w' ⟨a1, c1, a2, c2, rfl, k1, k2, k3⟩
      rw [h.len] at k1 ⊢
      rw [h3.len] at k2 ⊢
      exact ⟨a1, c1, a2, c2, rfl, ((q.next k3).add k2).add k1⟩
    have hl0 : Hid (0 < l ∧ 0 < l2) := by
      show _ ∧ _
      have e1 := put_len s
      have e2 := put_len t
      omega
    have hl9 : Hid (l ≤ 9000 ∧ l2 ≤ 9000) := by show _ ∧ _; have := hll.out; omega
    have hn9 : Hid (n ≤ 9000) := by show _ ≤ _; have := hn.out; omega
    have O1 := Lib.hid (bV_one (putL s))
    have O3 := Lib.hid (bV_one u)
    have hml : maxLen = 9223372036854775807 := rfl
    have b1 : Hid ((([] : List Value).length) + l ≤ maxLen) := by show _ ≤ _; have := hll.out; simp only [List.length_nil]; omega
    have b2 : Hid (((([] : List Value).length) + l) * 1 ≤ 140737488355328) := by show _ ≤ _; have := hll.out; simp only [List.length_nil]; omega
    have b3 : Hid ((bV (putL s)).length + n3 ≤ maxLen) := by show _ ≤ _; rw [bV_len, ← hl]; have := hll.out; omega
    have b4 : Hid (((bV (putL s)).length + n3) * 1 ≤ 140737488355328) := by show _ ≤ _; rw [bV_len, ← hl]; have := hll.out; omega
    have hln1 : Hid ((bV (putL s)).length = l) := by show _ = _; rw [bV_len, hl]
    have hun : Hid ((bV u).length = n3) := by show _ = _; rw [bV_len, h3.len]
    have hsp := Lib.hid (putL_lt hs.out)
    have hsu : Hid (∀ x ∈ putL s ++ u, x < 256) := fun x hx => by
      rcases List.mem_append.1 hx with h | h
      · exact hsp.out x h
      · exact hu.out x h
    have hln : Hid ((putL s ++ u).length = l + n3) := by show _ = _; rw [List.length_append, ← hl, h3.len]
    obtain ⟨k, hk⟩ : ∃ k, k = bcmp s t := ⟨_, rfl⟩
    have hk1 := bcmp_small s t
    rw [← hk] at hk1
    have k1 : -1 ≤ k := hk1.1
    have k2 : k ≤ 1 := hk1.2
    clear hk1
    have hC : Hid (∀ wr {x y x2 y2 X Y}, Sl wr x y X s → Sl wr x2 y2 Y t → Calls Tryd.prog 14 #[.slice x y X, .slice x2 y2 Y] wr fun e w' => e = .returned (.int .i64 k) ∧ Below wr.heap.size wr w') := fun wr _ _ _ _ _ _ p q => by rw [hk]; exact sl_cmp p q
    have hC2 : Hid (∀ wr {x y x2 y2 X Y}, Sl wr x y X (putL s) → Sl wr x2 y2 Y (putL t) → Calls Tryd.prog 14 #[.slice x y X, .slice x2 y2 Y] wr fun e w' => e = .returned (.int .i64 k) ∧ Below wr.heap.size wr w') := fun wr _ _ _ _ _ _ p q => by rw [hk, ← put_cmp]; exact sl_cmp p q
    have hC3 : Hid (∀ wr {x y x2 y2 X Y}, Sl wr x y X (othL (putL s)) → Sl wr x2 y2 Y (othL (putL t)) → Calls Tryd.prog 14 #[.slice x y X, .slice x2 y2 Y] wr fun e w' => e = .returned (.int .i64 (-k)) ∧ Below wr.heap.size wr w') := fun wr _ _ _ _ _ _ p q => by rw [hk, ← put_oth s t hs.out ht.out]; exact sl_cmp p q
    have hOO : Hid (∀ wr {x y X}, Sl wr x y X (othL s) → y = n → Calls Tryd.prog 10 #[.slice x y X] wr (slN s y wr)) := fun wr _ _ _ p e => by
      have := sl_oth p (by rw [e]; exact hn9.out)
      rw [oth_oth hs.out] at this
      exact this
    have hS : Hid (∀ wr {x y x2 y2 X Y}, Sl wr x y X s → Sl wr x2 y2 Y t → Calls Tryd.prog 7 #[.slice x y X, .slice x2 y2 Y] wr fun e w' => e = .returned (.bool (decide (s = t))) ∧ Below wr.heap.size wr w') := fun wr _ _ _ _ _ _ p q => sl_same p q
    cases r with
    | some pr =>
      by_cases hst : s = t
      · have hdec : Hid (decide (s = t) = true) := decide_eq_true hst
        rw [hdec.out] at hS
        obtain ⟨HX, hHX⟩ : ∃ x : Nat, x = 0 := ⟨_, rfl⟩
        clear hst hl hl2 hk
        go_enter Tryd.func4, Tryd.ntmps4
        go_wp2_with (first
        | (go_at_call 5; refine (hA.out _ X19.out).mono ?_; rintro e w20 ⟨rfl, h1⟩; have X20 := Lib.hid (X19.out.next h1); clear h1)
        | (go_at_call 7; refine (sl_same_yes (X18.out.get oo n co s (by simp)) (X18.out.get a n c s (by simp))).mono ?_; rintro e w19 ⟨rfl, h1⟩; have X19 := Lib.hid (X18.out.next h1); clear h1)
        | (go_at_call 10; refine (hOO.out _ (X17.out.get o1 n k1 (othL s) (by simp)) rfl).mono ?_; rintro e w18 ⟨oo, co, rfl, h1, h2⟩; have X18 := Lib.hid (X17.out.to h2 h1); clear h1 h2)
        | (go_at_call 10; refine (sl_oth (X16.out.get a n c s (by simp)) hn9.out).mono ?_; rintro e w17 ⟨o1, k1, rfl, h1, h2⟩; have X17 := Lib.hid (X16.out.to h2 h1); clear h1 h2)
        | (go_at_call 7; refine (sl_same_yes (X15.out.get ra n3 rc u (by simp)) (X15.out.get (some pr) n3 f u (by simp))).mono ?_; rintro e w16 ⟨rfl, h1⟩; have X16 := Lib.hid (X15.out.next h1); clear h1)
        | (go_at_call 7; refine (sl_same_yes (X14.out.get ua n uc s (by simp)) (X14.out.get a n c s (by simp))).mono ?_; rintro e w15 ⟨rfl, h1⟩; have X15 := Lib.hid (X14.out.next h1); clear h1)
        | (go_at_call 14; refine (hC.out _ (X13.out.get a n c s (by simp)) (X13.out.get b n2 d t (by simp))).mono ?_; rintro e w14 ⟨rfl, h1⟩; have X14 := Lib.hid (X13.out.next h1); clear h1)
        | (go_at_call 14; refine (hC3.out _ (X12.out.get oa l ka (othL (putL s)) (by simp)) (X12.out.get ob l2 kb (othL (putL t)) (by simp))).mono ?_; rintro e w13 ⟨rfl, h1⟩; have X13 := Lib.hid (X12.out.next h1); clear h1)
        | (go_at_call 10; refine (sl_oth (X11.out.get (some pb) l2 cb (putL t) (by simp)) hl9.out.2).mono ?_; rintro e w12 ⟨ob, kb, rfl, h1, h2⟩; have X12 := Lib.hid (X11.out.to h2 h1); clear h1 h2)
        | (go_at_call 10; refine (sl_oth (X10.out.get (some pa) l ca (putL s) (by simp)) hl9.out.1).mono ?_; rintro e w11 ⟨oa, ka, rfl, h1, h2⟩; have X11 := Lib.hid (X10.out.to h2 h1); clear h1 h2)
        | (go_at_call 14; refine (hC.out _ (X9.out.get a n c s (by simp)) (X9.out.get b n2 d t (by simp))).mono ?_; rintro e w10 ⟨rfl, h1⟩; have X10 := Lib.hid (X9.out.next h1); clear h1)
        | (go_at_call 14; refine (hC2.out _ (X8.out.get (some pa) l ca (putL s) (by simp)) (X8.out.get (some pb) l2 cb (putL t) (by simp))).mono ?_; rintro e w9 ⟨rfl, h1⟩; have X9 := Lib.hid (X8.out.next h1); clear h1)
        | (go_at_call 7; refine (hS.out _ (X5.out.get a n c s (by simp)) (X5.out.get b n2 d t (by simp))).mono ?_; rintro e w6 ⟨rfl, h1⟩; have X8 := Lib.hid (X5.out.next h1); clear h1)
        | (go_at_call 12; refine (hT.out _ x3 y3 X4.out (by simp)).mono ?_; rintro e w5 ⟨ua, uc, ra, rc, rfl, h1⟩; have X5 := Lib.hid h1; clear h1)
        | (at_builtin; refine wpList_append_at rfl (.tmp 32) (.tmp 33) 22 rfl 5 (.int .u8 0) 1 cloneB_under cloneB_info rfl (.slice x2 l y2) rfl (bV (putL s)) bo2 Q2.out.1 pr n3 f (bV u) rfl hun.out N3.out O3.out b3.out b4.out ?_; intro v4 w4 bo4 HO HM2 HN; have Q4 := Lib.hid (Q2.out.app0 (X := u) HO.out HM2.out HN.out); obtain ⟨x3, y3, rfl, h3⟩ := sl_app Q4.out hsu.out hln.out; have X4 := Lib.hid (X2.out.to Q4.out.2.1 h3); clear HO HM2 HN h3)
        | (at_builtin; refine wpList_append_at rfl (.const (.slice none 0 0)) (.tmp 31) 22 rfl 5 (.int .u8 0) 1 cloneB_under cloneB_info rfl (.slice none 0 0) rfl [] none (Own.nil _ _) pa l ca (bV (putL s)) rfl hln1.out N1.out O1.out b1.out b2.out ?_; intro v2 w3 bo2 HO HM2 HN; have Q2 : Hid (OwnR w2 (putL s) v2 bo2 w3) := OwnR.app0 (L := []) (X := putL s) ⟨Own.nil _ _, Below.refl _ _, Or.inl rfl⟩ HO.out HM2.out HN.out; obtain ⟨x2, y2, rfl, h3⟩ := sl_app' Q2.out hsp.out HL.out.1.symm; have X3 := Lib.hid (X2.out.to Q2.out.2.1 h3); have hy2 : l ≤ y2 := h3.cap; have N3 := Lib.hid (X3.out.get (some pr) n3 f u (by simp)).news; clear HO HM2 HN h3)
        | (go_at_call 8; refine (hP2.out _ X1.out (by simp)).mono ?_; rintro e w2 ⟨b1a, cb, rfl, h1, h2⟩; obtain ⟨pb, rfl⟩ := h1.some_ hl0.out.2; have X2 := Lib.hid (X1.out.to h2 h1); have N1 := Lib.hid (X2.out.get (some pa) l ca (putL s) (by simp)).news; clear h1 h2)
        | (go_at_call 8; refine (hP.out _ X0.out (by simp)).mono ?_; rintro e w1 ⟨a1, ca, rfl, h1, h2⟩; obtain ⟨pa, rfl⟩ := h1.some_ hl0.out.1; have X1 := Lib.hid (X0.out.to h2 h1); clear h1 h2))
        go_ret
        exact ⟨rfl, X20.out.1⟩
      · have hdec : Hid (decide (s = t) = false) := decide_eq_false hst
        rw [hdec.out] at hS
        have hb1 : Hid (lcp (putL s) (putL t) ≠ l2) := fun e => hst (put_free s t (by rw [e, hl2]))
        have hb2 : Hid (lcp (putL t) (putL s) ≠ l) := fun e => hst (put_free t s (by rw [e, hl])).symm
        obtain ⟨HX, hHX⟩ : ∃ x : Nat, x = 0 := ⟨_, rfl⟩
        clear hst hl hl2 hk
        go_enter Tryd.func4, Tryd.ntmps4
        go_wp2_with (first
        | (go_at_call 5; refine (hA.out _ X19.out).mono ?_; rintro e w20 ⟨rfl, h1⟩; have X20 := Lib.hid (X19.out.next h1); clear h1)
        | (go_at_call 7; refine (sl_same_yes (X18.out.get oo n co s (by simp)) (X18.out.get a n c s (by simp))).mono ?_; rintro e w19 ⟨rfl, h1⟩; have X19 := Lib.hid (X18.out.next h1); clear h1)
        | (go_at_call 10; refine (hOO.out _ (X17.out.get o1 n k1 (othL s) (by simp)) rfl).mono ?_; rintro e w18 ⟨oo, co, rfl, h1, h2⟩; have X18 := Lib.hid (X17.out.to h2 h1); clear h1 h2)
        | (go_at_call 10; refine (sl_oth (X16.out.get a n c s (by simp)) hn9.out).mono ?_; rintro e w17 ⟨o1, k1, rfl, h1, h2⟩; have X17 := Lib.hid (X16.out.to h2 h1); clear h1 h2)
        | (go_at_call 7; refine (sl_same_yes (X15.out.get ra n3 rc u (by simp)) (X15.out.get (some pr) n3 f u (by simp))).mono ?_; rintro e w16 ⟨rfl, h1⟩; have X16 := Lib.hid (X15.out.next h1); clear h1)
        | (go_at_call 7; refine (sl_same_yes (X14.out.get ua n uc s (by simp)) (X14.out.get a n c s (by simp))).mono ?_; rintro e w15 ⟨rfl, h1⟩; have X15 := Lib.hid (X14.out.next h1); clear h1)
        | (go_at_call 14; refine (hC.out _ (X13.out.get a n c s (by simp)) (X13.out.get b n2 d t (by simp))).mono ?_; rintro e w14 ⟨rfl, h1⟩; have X14 := Lib.hid (X13.out.next h1); clear h1)
        | (go_at_call 14; refine (hC3.out _ (X12.out.get oa l ka (othL (putL s)) (by simp)) (X12.out.get ob l2 kb (othL (putL t)) (by simp))).mono ?_; rintro e w13 ⟨rfl, h1⟩; have X13 := Lib.hid (X12.out.next h1); clear h1)
        | (go_at_call 10; refine (sl_oth (X11.out.get (some pb) l2 cb (putL t) (by simp)) hl9.out.2).mono ?_; rintro e w12 ⟨ob, kb, rfl, h1, h2⟩; have X12 := Lib.hid (X11.out.to h2 h1); clear h1 h2)
        | (go_at_call 10; refine (sl_oth (X10.out.get (some pa) l ca (putL s) (by simp)) hl9.out.1).mono ?_; rintro e w11 ⟨oa, ka, rfl, h1, h2⟩; have X11 := Lib.hid (X10.out.to h2 h1); clear h1 h2)
        | (go_at_call 14; refine (hC.out _ (X9.out.get a n c s (by simp)) (X9.out.get b n2 d t (by simp))).mono ?_; rintro e w10 ⟨rfl, h1⟩; have X10 := Lib.hid (X9.out.next h1); clear h1)
        | (go_at_call 14; refine (hC2.out _ (X8.out.get (some pa) l ca (putL s) (by simp)) (X8.out.get (some pb) l2 cb (putL t) (by simp))).mono ?_; rintro e w9 ⟨rfl, h1⟩; have X9 := Lib.hid (X8.out.next h1); clear h1)
        | (go_at_call 13; refine (sl_begins_no (X7.out.get (some pb) l2 cb (putL t) (by simp)) (X7.out.get (some pa) l ca (putL s) (by simp)) hb2.out).mono ?_; rintro e w8 ⟨rfl, h1⟩; have X8 := Lib.hid (X7.out.next h1); clear h1)
        | (go_at_call 13; refine (sl_begins_no (X6.out.get (some pa) l ca (putL s) (by simp)) (X6.out.get (some pb) l2 cb (putL t) (by simp)) hb1.out).mono ?_; rintro e w7 ⟨rfl, h1⟩; have X7 := Lib.hid (X6.out.next h1); clear h1)
        | (go_at_call 7; refine (hS.out _ (X5.out.get a n c s (by simp)) (X5.out.get b n2 d t (by simp))).mono ?_; rintro e w6 ⟨rfl, h1⟩; have X6 := Lib.hid (X5.out.next h1); clear h1)
        | (go_at_call 12; refine (hT.out _ x3 y3 X4.out (by simp)).mono ?_; rintro e w5 ⟨ua, uc, ra, rc, rfl, h1⟩; have X5 := Lib.hid h1; clear h1)
        | (at_builtin; refine wpList_append_at rfl (.tmp 32) (.tmp 33) 22 rfl 5 (.int .u8 0) 1 cloneB_under cloneB_info rfl (.slice x2 l y2) rfl (bV (putL s)) bo2 Q2.out.1 pr n3 f (bV u) rfl hun.out N3.out O3.out b3.out b4.out ?_; intro v4 w4 bo4 HO HM2 HN; have Q4 := Lib.hid (Q2.out.app0 (X := u) HO.out HM2.out HN.out); obtain ⟨x3, y3, rfl, h3⟩ := sl_app Q4.out hsu.out hln.out; have X4 := Lib.hid (X2.out.to Q4.out.2.1 h3); clear HO HM2 HN h3)
        | (at_builtin; refine wpList_append_at rfl (.const (.slice none 0 0)) (.tmp 31) 22 rfl 5 (.int .u8 0) 1 cloneB_under cloneB_info rfl (.slice none 0 0) rfl [] none (Own.nil _ _) pa l ca (bV (putL s)) rfl hln1.out N1.out O1.out b1.out b2.out ?_; intro v2 w3 bo2 HO HM2 HN; have Q2 : Hid (OwnR w2 (putL s) v2 bo2 w3) := OwnR.app0 (L := []) (X := putL s) ⟨Own.nil _ _, Below.refl _ _, Or.inl rfl⟩ HO.out HM2.out HN.out; obtain ⟨x2, y2, rfl, h3⟩ := sl_app' Q2.out hsp.out HL.out.1.symm; have X3 := Lib.hid (X2.out.to Q2.out.2.1 h3); have hy2 : l ≤ y2 := h3.cap; have N3 := Lib.hid (X3.out.get (some pr) n3 f u (by simp)).news; clear HO HM2 HN h3)
        | (go_at_call 8; refine (hP2.out _ X1.out (by simp)).mono ?_; rintro e w2 ⟨b1a, cb, rfl, h1, h2⟩; obtain ⟨pb, rfl⟩ := h1.some_ hl0.out.2; have X2 := Lib.hid (X1.out.to h2 h1); have N1 := Lib.hid (X2.out.get (some pa) l ca (putL s) (by simp)).news; clear h1 h2)
        | (go_at_call 8; refine (hP.out _ X0.out (by simp)).mono ?_; rintro e w1 ⟨a1, ca, rfl, h1, h2⟩; obtain ⟨pa, rfl⟩ := h1.some_ hl0.out.1; have X1 := Lib.hid (X0.out.to h2 h1); clear h1 h2))
        go_ret
        exact ⟨rfl, X20.out.1⟩
    | none =>
      obtain ⟨rfl, rfl⟩ := h3.nil rfl
      have hu0 : Hid (u = []) := List.eq_nil_of_length_eq_zero h3.len
      by_cases hst : s = t
      · have hdec : Hid (decide (s = t) = true) := decide_eq_true hst
        rw [hdec.out] at hS
        obtain ⟨HX, hHX⟩ : ∃ x : Nat, x = 0 := ⟨_, rfl⟩
        clear hst hl hl2 hk
        go_enter Tryd.func4, Tryd.ntmps4
        go_wp2_with (first
        | (go_at_call 5; refine (hA.out _ X19.out).mono ?_; rintro e w20 ⟨rfl, h1⟩; have X20 := Lib.hid (X19.out.next h1); clear h1)
        | (go_at_call 7; refine (sl_same_yes (X18.out.get oo n co s (by simp)) (X18.out.get a n c s (by simp))).mono ?_; rintro e w19 ⟨rfl, h1⟩; have X19 := Lib.hid (X18.out.next h1); clear h1)
        | (go_at_call 10; refine (hOO.out _ (X17.out.get o1 n k1 (othL s) (by simp)) rfl).mono ?_; rintro e w18 ⟨oo, co, rfl, h1, h2⟩; have X18 := Lib.hid (X17.out.to h2 h1); clear h1 h2)
        | (go_at_call 10; refine (sl_oth (X16.out.get a n c s (by simp)) hn9.out).mono ?_; rintro e w17 ⟨o1, k1, rfl, h1, h2⟩; have X17 := Lib.hid (X16.out.to h2 h1); clear h1 h2)
        | (go_at_call 7; refine (sl_same_yes (X15.out.get ra 0 rc u (by simp)) (X15.out.get none 0 0 u (by simp))).mono ?_; rintro e w16 ⟨rfl, h1⟩; have X16 := Lib.hid (X15.out.next h1); clear h1)
        | (go_at_call 7; refine (sl_same_yes (X14.out.get ua n uc s (by simp)) (X14.out.get a n c s (by simp))).mono ?_; rintro e w15 ⟨rfl, h1⟩; have X15 := Lib.hid (X14.out.next h1); clear h1)
        | (go_at_call 14; refine (hC.out _ (X13.out.get a n c s (by simp)) (X13.out.get b n2 d t (by simp))).mono ?_; rintro e w14 ⟨rfl, h1⟩; have X14 := Lib.hid (X13.out.next h1); clear h1)
        | (go_at_call 14; refine (hC3.out _ (X12.out.get oa l ka (othL (putL s)) (by simp)) (X12.out.get ob l2 kb (othL (putL t)) (by simp))).mono ?_; rintro e w13 ⟨rfl, h1⟩; have X13 := Lib.hid (X12.out.next h1); clear h1)
        | (go_at_call 10; refine (sl_oth (X11.out.get (some pb) l2 cb (putL t) (by simp)) hl9.out.2).mono ?_; rintro e w12 ⟨ob, kb, rfl, h1, h2⟩; have X12 := Lib.hid (X11.out.to h2 h1); clear h1 h2)
        | (go_at_call 10; refine (sl_oth (X10.out.get (some pa) l ca (putL s) (by simp)) hl9.out.1).mono ?_; rintro e w11 ⟨oa, ka, rfl, h1, h2⟩; have X11 := Lib.hid (X10.out.to h2 h1); clear h1 h2)
        | (go_at_call 14; refine (hC.out _ (X9.out.get a n c s (by simp)) (X9.out.get b n2 d t (by simp))).mono ?_; rintro e w10 ⟨rfl, h1⟩; have X10 := Lib.hid (X9.out.next h1); clear h1)
        | (go_at_call 14; refine (hC2.out _ (X8.out.get (some pa) l ca (putL s) (by simp)) (X8.out.get (some pb) l2 cb (putL t) (by simp))).mono ?_; rintro e w9 ⟨rfl, h1⟩; have X9 := Lib.hid (X8.out.next h1); clear h1)
        | (go_at_call 7; refine (hS.out _ (X5.out.get a n c s (by simp)) (X5.out.get b n2 d t (by simp))).mono ?_; rintro e w6 ⟨rfl, h1⟩; have X8 := Lib.hid (X5.out.next h1); clear h1)
        | (go_at_call 12; refine (hT.out _ (some px) y2 X4.out (by simp)).mono ?_; rintro e w5 ⟨ua, uc, ra, rc, rfl, h1⟩; have X5 := Lib.hid h1; clear h1)
        | (at_builtin; refine wpList_append_at rfl (.const (.slice none 0 0)) (.tmp 31) 22 rfl 5 (.int .u8 0) 1 cloneB_under cloneB_info rfl (.slice none 0 0) rfl [] none (Own.nil _ _) pa l ca (bV (putL s)) rfl hln1.out N1.out O1.out b1.out b2.out ?_; intro v2 w3 bo2 HO HM2 HN; have Q2 : Hid (OwnR w2 (putL s) v2 bo2 w3) := OwnR.app0 (L := []) (X := putL s) ⟨Own.nil _ _, Below.refl _ _, Or.inl rfl⟩ HO.out HM2.out HN.out; obtain ⟨x2, y2, rfl, h3⟩ := sl_app' Q2.out hsp.out HL.out.1.symm; obtain ⟨px, rfl⟩ := h3.some_ hl0.out.1; have X3 := Lib.hid (X2.out.to Q2.out.2.1 h3); have hy2 : l ≤ y2 := h3.cap; have X4 := Lib.hid (All.sub (y := (some px, l + 0, y2, putL s ++ u)) X3.out (by rw [hu0.out, List.append_nil]; simp)); clear HO HM2 HN h3)
        | (go_at_call 8; refine (hP2.out _ X1.out (by simp)).mono ?_; rintro e w2 ⟨b1a, cb, rfl, h1, h2⟩; obtain ⟨pb, rfl⟩ := h1.some_ hl0.out.2; have X2 := Lib.hid (X1.out.to h2 h1); have N1 := Lib.hid (X2.out.get (some pa) l ca (putL s) (by simp)).news; clear h1 h2)
        | (go_at_call 8; refine (hP.out _ X0.out (by simp)).mono ?_; rintro e w1 ⟨a1, ca, rfl, h1, h2⟩; obtain ⟨pa, rfl⟩ := h1.some_ hl0.out.1; have X1 := Lib.hid (X0.out.to h2 h1); clear h1 h2))
        go_ret
        exact ⟨rfl, X20.out.1⟩
      · have hdec : Hid (decide (s = t) = false) := decide_eq_false hst
        rw [hdec.out] at hS
        have hb1 : Hid (lcp (putL s) (putL t) ≠ l2) := fun e => hst (put_free s t (by rw [e, hl2]))
        have hb2 : Hid (lcp (putL t) (putL s) ≠ l) := fun e => hst (put_free t s (by rw [e, hl])).symm
        obtain ⟨HX, hHX⟩ : ∃ x : Nat, x = 0 := ⟨_, rfl⟩
        clear hst hl hl2 hk
        go_enter Tryd.func4, Tryd.ntmps4
        go_wp2_with (first
        | (go_at_call 5; refine (hA.out _ X19.out).mono ?_; rintro e w20 ⟨rfl, h1⟩; have X20 := Lib.hid (X19.out.next h1); clear h1)
        | (go_at_call 7; refine (sl_same_yes (X18.out.get oo n co s (by simp)) (X18.out.get a n c s (by simp))).mono ?_; rintro e w19 ⟨rfl, h1⟩; have X19 := Lib.hid (X18.out.next h1); clear h1)
        | (go_at_call 10; refine (hOO.out _ (X17.out.get o1 n k1 (othL s) (by simp)) rfl).mono ?_; rintro e w18 ⟨oo, co, rfl, h1, h2⟩; have X18 := Lib.hid (X17.out.to h2 h1); clear h1 h2)
        | (go_at_call 10; refine (sl_oth (X16.out.get a n c s (by simp)) hn9.out).mono ?_; rintro e w17 ⟨o1, k1, rfl, h1, h2⟩; have X17 := Lib.hid (X16.out.to h2 h1); clear h1 h2)
        | (go_at_call 7; refine (sl_same_yes (X15.out.get ra 0 rc u (by simp)) (X15.out.get none 0 0 u (by simp))).mono ?_; rintro e w16 ⟨rfl, h1⟩; have X16 := Lib.hid (X15.out.next h1); clear h1)
        | (go_at_call 7; refine (sl_same_yes (X14.out.get ua n uc s (by simp)) (X14.out.get a n c s (by simp))).mono ?_; rintro e w15 ⟨rfl, h1⟩; have X15 := Lib.hid (X14.out.next h1); clear h1)
        | (go_at_call 14; refine (hC.out _ (X13.out.get a n c s (by simp)) (X13.out.get b n2 d t (by simp))).mono ?_; rintro e w14 ⟨rfl, h1⟩; have X14 := Lib.hid (X13.out.next h1); clear h1)
        | (go_at_call 14; refine (hC3.out _ (X12.out.get oa l ka (othL (putL s)) (by simp)) (X12.out.get ob l2 kb (othL (putL t)) (by simp))).mono ?_; rintro e w13 ⟨rfl, h1⟩; have X13 := Lib.hid (X12.out.next h1); clear h1)
        | (go_at_call 10; refine (sl_oth (X11.out.get (some pb) l2 cb (putL t) (by simp)) hl9.out.2).mono ?_; rintro e w12 ⟨ob, kb, rfl, h1, h2⟩; have X12 := Lib.hid (X11.out.to h2 h1); clear h1 h2)
        | (go_at_call 10; refine (sl_oth (X10.out.get (some pa) l ca (putL s) (by simp)) hl9.out.1).mono ?_; rintro e w11 ⟨oa, ka, rfl, h1, h2⟩; have X11 := Lib.hid (X10.out.to h2 h1); clear h1 h2)
        | (go_at_call 14; refine (hC.out _ (X9.out.get a n c s (by simp)) (X9.out.get b n2 d t (by simp))).mono ?_; rintro e w10 ⟨rfl, h1⟩; have X10 := Lib.hid (X9.out.next h1); clear h1)
        | (go_at_call 14; refine (hC2.out _ (X8.out.get (some pa) l ca (putL s) (by simp)) (X8.out.get (some pb) l2 cb (putL t) (by simp))).mono ?_; rintro e w9 ⟨rfl, h1⟩; have X9 := Lib.hid (X8.out.next h1); clear h1)
        | (go_at_call 13; refine (sl_begins_no (X7.out.get (some pb) l2 cb (putL t) (by simp)) (X7.out.get (some pa) l ca (putL s) (by simp)) hb2.out).mono ?_; rintro e w8 ⟨rfl, h1⟩; have X8 := Lib.hid (X7.out.next h1); clear h1)
        | (go_at_call 13; refine (sl_begins_no (X6.out.get (some pa) l ca (putL s) (by simp)) (X6.out.get (some pb) l2 cb (putL t) (by simp)) hb1.out).mono ?_; rintro e w7 ⟨rfl, h1⟩; have X7 := Lib.hid (X6.out.next h1); clear h1)
        | (go_at_call 7; refine (hS.out _ (X5.out.get a n c s (by simp)) (X5.out.get b n2 d t (by simp))).mono ?_; rintro e w6 ⟨rfl, h1⟩; have X6 := Lib.hid (X5.out.next h1); clear h1)
        | (go_at_call 12; refine (hT.out _ (some px) y2 X4.out (by simp)).mono ?_; rintro e w5 ⟨ua, uc, ra, rc, rfl, h1⟩; have X5 := Lib.hid h1; clear h1)
        | (at_builtin; refine wpList_append_at rfl (.const (.slice none 0 0)) (.tmp 31) 22 rfl 5 (.int .u8 0) 1 cloneB_under cloneB_info rfl (.slice none 0 0) rfl [] none (Own.nil _ _) pa l ca (bV (putL s)) rfl hln1.out N1.out O1.out b1.out b2.out ?_; intro v2 w3 bo2 HO HM2 HN; have Q2 : Hid (OwnR w2 (putL s) v2 bo2 w3) := OwnR.app0 (L := []) (X := putL s) ⟨Own.nil _ _, Below.refl _ _, Or.inl rfl⟩ HO.out HM2.out HN.out; obtain ⟨x2, y2, rfl, h3⟩ := sl_app' Q2.out hsp.out HL.out.1.symm; obtain ⟨px, rfl⟩ := h3.some_ hl0.out.1; have X3 := Lib.hid (X2.out.to Q2.out.2.1 h3); have hy2 : l ≤ y2 := h3.cap; have X4 := Lib.hid (All.sub (y := (some px, l + 0, y2, putL s ++ u)) X3.out (by rw [hu0.out, List.append_nil]; simp)); clear HO HM2 HN h3)
        | (go_at_call 8; refine (hP2.out _ X1.out (by simp)).mono ?_; rintro e w2 ⟨b1a, cb, rfl, h1, h2⟩; obtain ⟨pb, rfl⟩ := h1.some_ hl0.out.2; have X2 := Lib.hid (X1.out.to h2 h1); have N1 := Lib.hid (X2.out.get (some pa) l ca (putL s) (by simp)).news; clear h1 h2)
        | (go_at_call 8; refine (hP.out _ X0.out (by simp)).mono ?_; rintro e w1 ⟨a1, ca, rfl, h1, h2⟩; obtain ⟨pa, rfl⟩ := h1.some_ hl0.out.1; have X1 := Lib.hid (X0.out.to h2 h1); clear h1 h2))
        go_ret
        exact ⟨rfl, X20.out.1⟩
end Go.Proofs.YtkknddlijhjieaaDoor
