/- bytes.Replace, all of them, where there are some. -/
import Derived.Test.YtkknddlijhjieaaDoorSReplace
import Derived.StillTailTactics
import Derived.Deep.Cut
set_option linter.unusedVariables false
set_option linter.unusedSimpArgs false
namespace Go.Proofs.YtkknddlijhjieaaDoor
open Go.RowKit
theorem ncnt_le (s o : List Nat) : ncnt s o ≤ s.length + 1 := by unfold ncnt; have := Lib.count_le (U s) (U o); rw [U_len] at this; exact this
/-- the buffer: D lies ahead -/
def RpB (w : World) (g tot : Nat) (D : List Nat) (wr : World) : Prop := ∃ cur : List Value, wr.heap[g]? = some (.cells cur.toArray 5 (0, 0)) ∧ cur.length = tot ∧ cur.take D.length = bV D ∧ D.length ≤ tot ∧ Below w.heap.size w wr ∧ w.heap.size ≤ g
theorem RpB.drewN {w wr : World} {g tot : Nat} {D : List Nat} (h : RpB w g tot D wr) (q : Nat) : RpB w g tot D (wr.drewN q) := by
  obtain ⟨cur, h1, h2, h3, h4, h5, h6⟩ := h; exact ⟨cur, h1, h2, h3, h4, below_drewN h5 q, h6⟩
theorem RpB.old {w wr : World} {g tot : Nat} {D : List Nat} (h : RpB w g tot D wr) : Below w.heap.size w wr := by
  obtain ⟨cur, h1, h2, h3, h4, h5, h6⟩ := h; exact h5
theorem add_two (p : Addr) (i j : Nat) : (p.add i).add j = p.add (i + j) := by
  unfold Addr.add
  by_cases hi : i = 0
  · subst hi; simp
  · by_cases hj : j = 0
    · subst hj; simp
    · simp [hi, hj, Nat.add_assoc]
theorem bytes_drop {w : World} {p : Addr} {st : Nat} {s : List Nat} (h : BytesAt w (some p) s) (hs : st ≤ s.length) : BytesAt w (some (p.add st)) (s.drop st) := by
  refine ⟨fun x hx => h.1 x (List.mem_of_mem_drop hx), fun i hi => ?_⟩
  rw [List.length_drop] at hi
  obtain ⟨p', hp, h1, h2⟩ := h.2 (st + i) (by omega)
  obtain rfl : p = p' := by simpa using hp
  refine ⟨_, rfl, ?_, ?_⟩
  · rw [add_two]; exact h1
  · rw [add_two, h2]
    simp [List.getD, List.getElem?_drop]
theorem bV_app (a b : List Nat) : bV (a ++ b) = bV a ++ bV b := by simp [bV]
theorem bV_len (a : List Nat) : (bV a).length = a.length := by simp [bV]
/-- X is laid behind D -/
theorem rpb_step {w w4 : World} {g tot : Nat} {D X : List Nat} {cur : List Value} (b2 : cur.length = tot) (b3 : cur.take D.length = bV D) (hr : D.length + X.length ≤ tot) (hg : w4.heap[g]? = some (.cells (splice cur D.length (bV X)).toArray 5 (0, 0))) (hb : Below w.heap.size w w4) (h6 : w.heap.size ≤ g) : RpB w g tot (D ++ X) w4 := by
  refine ⟨_, hg, ?_, ?_, by simpa using hr, hb, h6⟩
  · rw [length_splice _ _ _ (by rw [bV_len, b2]; exact hr), b2]
  · unfold splice
    rw [b3, bV_app, List.length_append, ← List.append_assoc]
    rw [show D.length + X.length = (bV D ++ bV X).length from by simp [bV_len], List.take_left]
/-- the cells of a part of bytes -/
theorem bytes_part {w : World} {p : Addr} {st j : Nat} {s : List Nat} (h : BytesAt w (some p) s) (hj : st + j ≤ s.length) : ∀ i v, (bV ((s.drop st).take j))[i]? = some v → w.cell? ((p.add st).add i) = some v := fun i v hv => by
  rw [bV_get] at hv
  have hi : i < j := by
    by_cases q : i < j
    · exact q
    · rw [List.getElem?_eq_none (by simp; omega)] at hv; simp at hv
  obtain ⟨p', hp, h1, h2⟩ := h.2 (st + i) (by omega)
  obtain rfl : p = p' := by simpa using hp
  rw [add_two, h2, ← hv]
  simp [List.getElem?_take, hi, List.getElem?_drop, List.getD, List.getElem?_eq_getElem (show st + i < s.length by omega)]
theorem bytes_all {w : World} {g : Nat} {s : List Nat} (h : BytesAt w (some ⟨g, 0, none⟩) s) : ∀ i v, (bV s)[i]? = some v → w.cell? ((⟨g, 0, none⟩ : Addr).add i) = some v := fun i v hv => by
  have := bytes_part (st := 0) (j := s.length) h (by omega) i v (by simpa using hv)
  rw [add_two, Nat.zero_add] at this
  exact this
theorem szB : (Tryd.prog.info? 5).map (·.size) = some 1 := by kernel_rfl
theorem rpb_start (w : World) (q tot : Nat) : RpB w w.heap.size tot [] ((w.drewN q).alloc (.cells (List.replicate tot (.int .u8 0)).toArray 5)) :=
  ⟨List.replicate tot (.int .u8 0), heap_alloc_new (w.drewN q) _, by simp, by simp [bV], Nat.zero_le _, (below_drewN (Below.refl _ w) q).alloc (Nat.le_refl _) _, Nat.le_refl _⟩
/-- all is laid -/
theorem rpb_end {w wr : World} {g tot : Nat} {F : List Nat} (h : RpB w g tot F wr) (hF : F.length = tot) (hm : tot ≤ maxLen) : clonePost 5 (bV F) w (.returned (.slice (some ⟨g, 0, none⟩) tot tot)) wr := by
  obtain ⟨cur, h1, h2, h3, h4, h5, h6⟩ := h
  refine ⟨_, some g, rfl, Or.inr ⟨g, tot, cur.toArray, rfl, by rw [bV_len, hF], h1, by rw [bV_len, hF]; exact Nat.le_refl _, hm, by simpa using h2, ?_⟩, h5, Or.inr ⟨g, rfl, h6⟩⟩
  rw [bV_len]; simpa using h3
set_option maxHeartbeats 1000000 in
set_option maxRecDepth 100000 in
theorem rep_some_a {w : World} {m : Int} (hM : MaxAt w m) (p : Addr) (n c : Nat) (s : List Nat) (h1 : BytesAt w (some p) s) (l1 : s.length = n) (hc : n ≤ c) (hcm : c ≤ maxLen) (hn : n ≤ 4000) (g1 c1 g2 c2 : Nat) (o nw : List Nat) (h2 : BytesAt w (some ⟨g1, 0, none⟩) o) (h3 : BytesAt w (some ⟨g2, 0, none⟩) nw) (l2 : o.length = 1) (l3 : nw.length = 2) (h0 : 0 < ncnt s o) :
    Calls Tryd.prog 21 #[.slice (some p) n c, .slice (some ⟨g1, 0, none⟩) 1 c1, .slice (some ⟨g2, 0, none⟩) 2 c2, .int .i64 (-1)] w (clonePost 5 (bV (nrep o nw (ncnt s o) s)) w) := by
  have hC := Lib.hid (lib_count hM (some p) g1 n c 1 c1 s o h1 h2 l1 l2 hc (by omega) (by omega) (by omega) (fun e => by cases e))
  have hkn := ncnt_le s o
  have Hn4 : Hid (n ≤ 4000 ∧ s.length = n ∧ n ≤ c) := ⟨hn, l1, hc⟩
  have hlen := nrep_len (old := o) (new := nw) (by intro e; rw [e] at l2; simp at l2) (ncnt s o) s (Nat.le_refl _)
  obtain ⟨tot, htot⟩ : ∃ tot, tot = (nrep o nw (ncnt s o) s).length := ⟨_, rfl⟩
  rw [← htot, l1, l2, l3] at hlen
  have hkk := ncnt_le s o
  have htb : tot ≤ 9000 := by omega
  clear hkk
  have Ht := Lib.hid htot
  clear htot
  obtain ⟨k, hk⟩ : ∃ k, k = ncnt s o := ⟨_, rfl⟩
  have Hk := Lib.hid hk
  rw [← hk] at hC h0 hkn hlen
  clear hk
  have hk0 : ((k : Nat) : Int) ≠ 0 := by omega
  have Hkn := Lib.hid hkn
  go_enter Tryd.func21, Tryd.ntmps21
  have hmk : ∀ w, (Instr.makeSlice 22 (.int .i64 ((n:Int)+(k:Int))) (.int .i64 ((n:Int)+(k:Int)))).run Tryd.prog w = .ok (.slice (some ⟨w.heap.size, 0, none⟩) tot tot) (w.alloc (.cells (List.replicate tot (.int .u8 0)).toArray 5)) := fun w => by rw [show ((n:Int)+(k:Int)) = (tot : Nat) from by omega]; exact make_u8 w tot (by omega)
  go_wp2_with (go_at_call 17; refine hC.out.mono ?_; rintro e w' ⟨rfl, q, rfl⟩)
  clear hmk
  have hR := Lib.hid (rpb_start w q tot)
  change Code.wp _ _ _ _ ((w.drewN q).alloc (.cells (List.replicate tot (.int .u8 0)).toArray 5))
  generalize (w.drewN q).alloc (.cells (List.replicate tot (.int .u8 0)).toArray 5) = w1 at *
  generalize hg : w.heap.size = g at *
  have HB := Lib.hid (fun wr (q : RpB w g tot [] wr → False) => q)
  have H1 : Hid (∀ D wr, RpB w g tot D wr → BytesAt wr (some p) s) := fun D wr h => h1.below h.old
  have H2 : Hid (∀ D wr, RpB w g tot D wr → BytesAt wr (some ⟨g1, 0, none⟩) o) := fun D wr h => h2.below h.old
  have H3 : Hid (∀ D wr, RpB w g tot D wr → BytesAt wr (some ⟨g2, 0, none⟩) nw) := fun D wr h => h3.below h.old
  have HM : Hid (∀ D wr, RpB w g tot D wr → MaxAt wr m) := fun D wr h => hM.below h.old
  have hT := Lib.hid hlen
  clear h1 h2 h3 hM hC HB hlen
  go_loopw [49, 11, 12] (fun vi vw vs wr => ∃ (i st : Nat) (D : List Nat), vi = .int .i64 (i : Nat) ∧ vw = .int .i64 (D.length : Nat) ∧ vs = .int .i64 (st : Nat) ∧ i ≤ k ∧ st ≤ n ∧ Hid (ncnt (s.drop st) o = k - i ∧ D ++ nrep o nw (k - i) (s.drop st) = nrep o nw k s) ∧ Hid (RpB w g tot D wr)) (fun vi _ _ _ => (k - intOf vi).toNat)
  case atStart => exact ⟨0, 0, [], rfl, rfl, rfl, by omega, by omega, ⟨by rw [List.drop_zero, ← Hk.out]; rfl, by simp⟩, hR⟩
  case round =>
    obtain ⟨i, st, D, rfl, rfl, rfl, hi, hst, hcd, hs⟩ := hrel
    by_cases hlt : i < k
    · have hlt2 : (i : Int) < (k : Nat) := by omega
      obtain ⟨j, hj, hjr⟩ := nidx_of_cnt (s := s.drop st) (old := o) (by have := hcd.out.1; omega)
      rw [List.length_drop, l1, l2] at hjr
      have hIx := Lib.hid (lib_index (HM.out _ _ hs.out) (p.add st) ⟨g1, 0, none⟩ (n - st) (c - st) 1 c1 (s.drop st) o (bytes_drop (H1.out _ _ hs.out) (by omega)) (H2.out _ _ hs.out) (by rw [List.length_drop, l1]) l2 (by omega) (by omega) (by omega))
      rw [hj] at hIx
      have q1 : (st : Int) ≤ (n : Int) := by omega
      have q2 : (st : Int) < (n : Int) := by omega
      have q3 : (n : Int) ≤ (c : Int) := by omega
      clear hlt
      obtain ⟨en, hen⟩ : ∃ en : Nat, en = st + j := ⟨_, rfl⟩
      have hens : Hid ((st : Int) + (j : Int) = (en : Int)) := by show _ = _; omega
      go_upto_region 15 with (go_at_call 24; refine hIx.out.mono ?_; rintro e w' ⟨rfl, q4, rfl⟩; have hs2 := Lib.hid (hs.out.drewN q4))
      rw [hens.out]
      have hX : ((s.drop st).take j).length = j := by rw [List.length_take, List.length_drop, l1]; omega
      have hnx : Hid (ncnt (s.drop (en + 1)) o = k - (i + 1) ∧ (D ++ (s.drop st).take j) ++ nw ++ nrep o nw (k - (i + 1)) (s.drop (en + 1)) = nrep o nw k s) := by
        have e1 := ncnt_hit (by intro e; rw [e] at l2; simp at l2) hj
        have e2 := nrep_hit (new := nw) (k := k - (i + 1)) hj
        rw [List.drop_drop, l2] at e1 e2
        rw [show k - (i + 1) + 1 = k - i from by omega] at e2
        have e3 := hcd.out
        refine ⟨by rw [show en + 1 = st + (j + 1) from by omega]; omega, ?_⟩
        rw [show en + 1 = st + (j + 1) from by omega, ← e3.2, e2]
        simp
      have hroom : D.length + j + 2 ≤ tot := by
        have e := congrArg List.length hnx.out.2
        rw [List.length_append, List.length_append, List.length_append, hX, l3, Hk.out, ← Ht.out] at e
        omega
      clear hj hIx
      generalize wr.drewN q4 = w2 at *
      obtain ⟨cur, b1, b2, b3, b4, b5, b6⟩ := hs2.out
      have q5 : (D.length : Int) < (tot : Int) := by omega
      have q6 : (D.length : Int) ≤ (tot : Int) := by omega
      have q7 : (en : Int) ≤ (c : Int) := by omega
      have q8 : (st : Int) ≤ (en : Int) := by omega
      have q12 : ¬ tot = D.length := by omega
      have q13 : ¬ c = st := by omega
      have hn1 : Hid ((bV ((s.drop st).take j)).length = Nat.min (en - st) (tot - D.length)) := by
        show _ = _
        rw [bV_len, hX, show en - st = j from by omega]; exact (Nat.min_eq_left (by omega)).symm
      have hp1 : Hid (0 < (bV ((s.drop st).take j)).length → (some ⟨g, D.length, none⟩ : Option Addr) = some ⟨g, D.length, none⟩ ∧ ∃ ad, (some (p.add st) : Option Addr) = some ad ∧ ∀ i v, (bV ((s.drop st).take j))[i]? = some v → w2.drew.cell? (ad.add i) = some v) := fun _ =>
        ⟨rfl, _, rfl, bytes_part (H1.out _ _ (hs2.out.drewN 1)) (by omega)⟩
      have hf1 : Hid (D.length + (bV ((s.drop st).take j)).length ≤ cur.length) := by show _ ≤ _; rw [bV_len, hX, b2]; omega
      have ho1 := Lib.hid (bV_one ((s.drop st).take j))
      have B1d : Hid (w2.drew.heap[g]? = some (.cells cur.toArray 5 (0, 0))) := b1
      have B5d : Hid (Below w.heap.size w w2.drew) := below_drewN b5 1
      have hX2 : Hid ((bV ((s.drop st).take j)).length = j) := by show _ = _; rw [bV_len, hX]
      have KK := Lib.hid (And.intro b2 (And.intro b3 (And.intro hX (And.intro hroom (And.intro hen (And.intro hjr (And.intro hst (And.intro hi (And.intro l3 q3)))))))))
      clear b1 b2 b3 b4 b5 hX hroom hen hjr hst hi hkn hn hcm hc l1 l2 l3
      go_region_law (refine step_copy_splice rfl (.tmp 61) (.tmp 65) 22 22 rfl 5 underB szB (some ⟨g, D.length, none⟩) (some (p.add st)) (tot - D.length) (tot - D.length) (en - st) (c - st) (by simp [Act.eval, Act.put]) (by simp [Act.eval, Act.put]) g D.length cur 5 B1d.out (bV ((s.drop st).take j)) hn1.out hp1.out hf1.out ho1.out w.heap.size w B5d.out b6 ?_; intro w4 hg4 hb4; rw [hX2.out])
      obtain ⟨b2, b3, hX, hroom, hen, hjr, hst, hi, l3, q3⟩ := KK.out
      have r4 := Lib.hid (rpb_step (X := (s.drop st).take j) b2 b3 (by rw [hX]; omega) hg4.out hb4 b6)
      clear hn1 hp1 hf1 ho1 B1d B5d hg4 hb4 b2 b3
      obtain ⟨cur2, d1, d2, d3, d4, d5, d6⟩ := r4.out
      obtain ⟨E1, hE1⟩ : ∃ E1, E1 = D.length + j := ⟨_, rfl⟩
      have hDX : (D ++ (s.drop st).take j).length = E1 := by rw [List.length_append, hX, hE1]
      have q9 : (E1 : Int) ≤ (tot : Int) := by omega
      have q10 : (E1 : Int) < (tot : Int) := by omega
      have q11 : ¬ tot = E1 := by omega
      rw [hDX] at d3
      have Bd1 := Lib.hid d1
      have Bd5 := Lib.hid d5
      have hn2 : Hid ((bV nw).length = Nat.min 2 (tot - E1)) := by show _ = _; rw [bV_len, l3]; exact (Nat.min_eq_left (by omega)).symm
      have hp2 : Hid (0 < (bV nw).length → (some ⟨g, E1, none⟩ : Option Addr) = some ⟨g, E1, none⟩ ∧ ∃ ad, (some ⟨g2, 0, none⟩ : Option Addr) = some ad ∧ ∀ i v, (bV nw)[i]? = some v → w4.cell? (ad.add i) = some v) := fun _ => ⟨rfl, _, rfl, bytes_all (H3.out _ _ r4.out)⟩
      have hf2 : Hid (E1 + (bV nw).length ≤ cur2.length) := by show _ ≤ _; rw [bV_len, l3, d2]; omega
      have ho2 := Lib.hid (bV_one nw)
      have hB2 : Hid ((bV nw).length = 2) := by show _ = _; rw [bV_len, l3]
      have KS : Hid ((D.length : Int) + (j : Int) = ((E1 : Nat) : Int)) := by show _ = _; omega
      have hDb : (D.length : Int) ≤ 9000 := by omega
      have hjb : (j : Int) ≤ 9000 := by omega
      have K2 := Lib.hid (And.intro hDX (And.intro d2 (And.intro d3 (And.intro hE1 (And.intro hroom (And.intro hen (And.intro hjr (And.intro hst (And.intro hi (And.intro l3 q3))))))))))
      clear hE1 hDX hX d1 d2 d3 d4 d5 hroom hjr hen hst hi q1 q2 q3 q5 q6 q7 q8 q12 q13 l3 KK
      go_upto_region 16 with fail
      rw [KS.out]
      have q14 : (en : Int) ≤ 4000 := by obtain ⟨_, _, _, _, _, _, _, _, _, _, _⟩ := K2.out; have := Hn4.out.1; omega
      have q15 : (i : Int) ≤ 4001 := by have := Hn4.out; have := Hkn.out; omega
      have hen1 : Hid ((en : Int) + 1 = ((en + 1 : Nat) : Int)) := by show _ = _; omega
      have hE2 : Hid ((E1 : Int) + 2 = ((E1 + 2 : Nat) : Int)) := by show _ = _; omega
      go_wp2_with (with_reducible show wpList _ _ _ (⟨some 73, _, _, _, _, _⟩ :: _) _ _; refine wpList_copy_splice (o := ⟨some 73, _, _, _, _, _⟩) rfl (.tmp 71) (.tmp 72) 22 22 rfl 5 underB szB (some ⟨g, E1, none⟩) (some ⟨g2, 0, none⟩) (tot - E1) (tot - E1) 2 c2 rfl rfl g E1 cur2 5 Bd1.out (bV nw) hn2.out hp2.out hf2.out ho2.out w.heap.size w Bd5.out d6 ?_; intro w5 hg5 hb5; rw [hB2.out])
      obtain ⟨hDX, d2, d3, hE1, hroom, hen, hjr, hst, hi, l3, q3⟩ := K2.out
      have r5 := Lib.hid (rpb_step (X := nw) (D := D ++ (s.drop st).take j) d2 (by rw [hDX]; exact d3) (by rw [hDX, l3]; omega) (by rw [hDX]; exact hg5.out) hb5 d6)
      have hn4 := Hn4.out
      refine ⟨⟨_, _, _, _, ⟨i + 1, rfl, en + 1, (D ++ (s.drop st).take j) ++ nw, rfl, rfl, by omega, by omega, hnx, r5⟩, ?_, ?_, rfl, ?_⟩, ?_⟩
      · rw [hE2.out, List.length_append, hDX, l3]
      · rw [hen1.out]
      · rfl
      · show max _ _ < _
        simp only [intOf]; omega
    · have hnt := Hn4.out
      have hTD : tot = D.length + (n - st) ∧ nrep o nw k s = D ++ s.drop st := by
        have e1 := hcd.out
        rw [show k - i = 0 from by omega] at e1
        have e2 : D ++ s.drop st = nrep o nw k s := e1.2
        refine ⟨?_, e2.symm⟩
        have e3 := congrArg List.length e2
        rw [List.length_append, List.length_drop, Hk.out, ← Ht.out] at e3
        omega
      have hX : (s.drop st).length = n - st := by rw [List.length_drop]; omega
      have hX2 : Hid ((bV (s.drop st)).length = n - st) := by show _ = _; rw [bV_len, hX]
      have hlt2 : ¬ ((i : Int) < (k : Nat)) := by omega
      obtain ⟨cur, b1, b2, b3, b4, b5, b6⟩ := hs.out
      have B1d : Hid (wr.drew.heap[g]? = some (.cells cur.toArray 5 (0, 0))) := b1
      have B5d : Hid (Below w.heap.size w wr.drew) := below_drewN b5 1
      have hf1 : Hid (D.length + (bV (s.drop st)).length ≤ cur.length) := by show _ ≤ _; rw [bV_len, hX, b2]; omega
      have ho1 := Lib.hid (bV_one (s.drop st))
      have KS : Hid ((D.length : Int) + ((n - st : Nat) : Int) = (tot : Int)) := by show _ = _; omega
      have hR : Hid (∀ w4 : World, w4.heap[g]? = some (.cells (splice cur D.length (bV (s.drop st))).toArray 5 (0, 0)) → Below w.heap.size w w4 → clonePost 5 (bV (nrep o nw (ncnt s o) s)) w (.returned (.slice (some ⟨g, 0, none⟩) tot tot)) w4) := fun w4 hg4 hb4 => by
        rw [← Hk.out, hTD.2]
        exact rpb_end (rpb_step b2 b3 (by rw [hX]; omega) hg4 hb4 b6) (by rw [List.length_append, hX]; omega) (by have : maxLen = 9223372036854775807 := rfl; omega)
      have q5 : (D.length : Int) ≤ (tot : Int) := by omega
      have q6 : (st : Int) ≤ (n : Int) := by omega
      have q7 : (n : Int) ≤ (c : Int) := by omega
      have hDb : (D.length : Int) ≤ 9000 := by omega
      have hjb : ((n - st : Nat) : Int) ≤ 9000 := by omega
      clear b1 b2 b4 b5
      by_cases hsn : st < n
      · have q12 : ¬ tot = D.length := by omega
        have q13 : ¬ c = st := by omega
        clear hsn
        have hn1 : Hid ((bV (s.drop st)).length = Nat.min (n - st) (tot - D.length)) := by
          show _ = _
          rw [bV_len, hX, show tot - D.length = n - st from by omega]; exact (Nat.min_self _).symm
        have hp1 : Hid (0 < (bV (s.drop st)).length → (some ⟨g, D.length, none⟩ : Option Addr) = some ⟨g, D.length, none⟩ ∧ ∃ ad, (some (p.add st) : Option Addr) = some ad ∧ ∀ i v, (bV (s.drop st))[i]? = some v → wr.drew.cell? (ad.add i) = some v) := fun h0 => by
          rw [bV_len, hX] at h0
          exact ⟨rfl, _, rfl, fun i v hv => by have := bytes_part (st := st) (j := n - st) (H1.out _ _ (hs.out.drewN 1)) (by omega) i v (by rw [List.take_of_length_le (by omega)]; exact hv); exact this⟩
        clear hX hnt b3 hi hst hlt hTD
        go_upto_region 28 with fail
        go_region_law (refine step_copy_splice rfl (.tmp 123) (.tmp 126) 22 22 rfl 5 underB szB (some ⟨g, D.length, none⟩) (some (p.add st)) (tot - D.length) (tot - D.length) (n - st) (c - st) (by simp [Act.eval, Act.put]) (by simp [Act.eval, Act.put]) g D.length cur 5 B1d.out (bV (s.drop st)) hn1.out hp1.out hf1.out ho1.out w.heap.size w B5d.out b6 ?_; intro w4 hg4 hb4; rw [hX2.out])
        have hE := hR.out w4 hg4.out hb4
        go_upto_region 29 with fail
        rw [KS.out]
        go_wp2_with fail
        go_ret
        exact hE
      · obtain rfl : n = st := by omega
        have hnil : Hid (bV (s.drop n) = []) := by show _ = _; rw [List.eq_nil_of_length_eq_zero (show (s.drop n).length = 0 from by omega)]; rfl
        have eT : tot = D.length := by omega
        subst eT
        have hf2 : Hid (D.length + ([] : List Value).length ≤ cur.length) := by have h := hf1.out; show _ ≤ _; simp only [List.length_nil]; omega
        clear hX hnt b3 hi hst hlt hTD hsn hjb hX2 hf1 ho1 KS
        by_cases hcs : c = n
        · subst hcs
          go_upto_region 28 with fail
          go_region_law (refine step_copy_splice rfl (.tmp 123) (.tmp 126) 22 22 rfl 5 underB szB (some ⟨g, 0, none⟩) (some p) 0 0 0 (0) (by simp [Act.eval, Act.put]) (by simp [Act.eval, Act.put]) g D.length cur 5 B1d.out [] rfl (fun h => by cases h) hf2.out (fun u hu => by cases hu) w.heap.size w B5d.out b6 ?_; intro w4 hg4 hb4)
          have hE := hR.out w4 (by rw [hnil.out]; exact hg4.out) hb4
          go_wp2_with fail
          go_ret
          exact hE
        · have q13 : ¬ c = n := hcs
          go_upto_region 28 with fail
          go_region_law (refine step_copy_splice rfl (.tmp 123) (.tmp 126) 22 22 rfl 5 underB szB (some ⟨g, 0, none⟩) (some (p.add n)) 0 0 0 (c - n) (by simp [Act.eval, Act.put]) (by simp [Act.eval, Act.put]) g D.length cur 5 B1d.out [] rfl (fun h => by cases h) hf2.out (fun u hu => by cases hu) w.heap.size w B5d.out b6 ?_; intro w4 hg4 hb4)
          have hE := hR.out w4 (by rw [hnil.out]; exact hg4.out) hb4
          go_wp2_with fail
          go_ret
          exact hE

set_option maxHeartbeats 1000000 in
set_option maxRecDepth 100000 in
theorem rep_some_b {w : World} {m : Int} (hM : MaxAt w m) (p : Addr) (n c : Nat) (s : List Nat) (h1 : BytesAt w (some p) s) (l1 : s.length = n) (hc : n ≤ c) (hcm : c ≤ maxLen) (hn : n ≤ 4000) (g1 c1 g2 c2 : Nat) (o nw : List Nat) (h2 : BytesAt w (some ⟨g1, 0, none⟩) o) (h3 : BytesAt w (some ⟨g2, 0, none⟩) nw) (l2 : o.length = 2) (l3 : nw.length = 1) (h0 : 0 < ncnt s o) :
    Calls Tryd.prog 21 #[.slice (some p) n c, .slice (some ⟨g1, 0, none⟩) 2 c1, .slice (some ⟨g2, 0, none⟩) 1 c2, .int .i64 (-1)] w (clonePost 5 (bV (nrep o nw (ncnt s o) s)) w) := by
  have hC := Lib.hid (lib_count hM (some p) g1 n c 2 c1 s o h1 h2 l1 l2 hc (by omega) (by omega) (by omega) (fun e => by cases e))
  have hkn := ncnt_le s o
  have Hn4 : Hid (n ≤ 4000 ∧ s.length = n ∧ n ≤ c) := ⟨hn, l1, hc⟩
  have hlen := nrep_len (old := o) (new := nw) (by intro e; rw [e] at l2; simp at l2) (ncnt s o) s (Nat.le_refl _)
  obtain ⟨tot, htot⟩ : ∃ tot, tot = (nrep o nw (ncnt s o) s).length := ⟨_, rfl⟩
  rw [← htot, l1, l2, l3] at hlen
  have hkk := ncnt_le s o
  have htb : tot ≤ 9000 := by omega
  clear hkk
  have Ht := Lib.hid htot
  clear htot
  obtain ⟨k, hk⟩ : ∃ k, k = ncnt s o := ⟨_, rfl⟩
  have Hk := Lib.hid hk
  rw [← hk] at hC h0 hkn hlen
  clear hk
  have hk0 : ((k : Nat) : Int) ≠ 0 := by omega
  have Hkn := Lib.hid hkn
  go_enter Tryd.func21, Tryd.ntmps21
  have hmk : ∀ w, (Instr.makeSlice 22 (.int .i64 ((n:Int)+-(k:Int))) (.int .i64 ((n:Int)+-(k:Int)))).run Tryd.prog w = .ok (.slice (some ⟨w.heap.size, 0, none⟩) tot tot) (w.alloc (.cells (List.replicate tot (.int .u8 0)).toArray 5)) := fun w => by rw [show ((n:Int)+-(k:Int)) = (tot : Nat) from by omega]; exact make_u8 w tot (by omega)
  go_wp2_with (go_at_call 17; refine hC.out.mono ?_; rintro e w' ⟨rfl, q, rfl⟩)
  clear hmk
  have hR := Lib.hid (rpb_start w q tot)
  change Code.wp _ _ _ _ ((w.drewN q).alloc (.cells (List.replicate tot (.int .u8 0)).toArray 5))
  generalize (w.drewN q).alloc (.cells (List.replicate tot (.int .u8 0)).toArray 5) = w1 at *
  generalize hg : w.heap.size = g at *
  have HB := Lib.hid (fun wr (q : RpB w g tot [] wr → False) => q)
  have H1 : Hid (∀ D wr, RpB w g tot D wr → BytesAt wr (some p) s) := fun D wr h => h1.below h.old
  have H2 : Hid (∀ D wr, RpB w g tot D wr → BytesAt wr (some ⟨g1, 0, none⟩) o) := fun D wr h => h2.below h.old
  have H3 : Hid (∀ D wr, RpB w g tot D wr → BytesAt wr (some ⟨g2, 0, none⟩) nw) := fun D wr h => h3.below h.old
  have HM : Hid (∀ D wr, RpB w g tot D wr → MaxAt wr m) := fun D wr h => hM.below h.old
  have hT := Lib.hid hlen
  clear h1 h2 h3 hM hC HB hlen
  go_loopw [49, 11, 12] (fun vi vw vs wr => ∃ (i st : Nat) (D : List Nat), vi = .int .i64 (i : Nat) ∧ vw = .int .i64 (D.length : Nat) ∧ vs = .int .i64 (st : Nat) ∧ i ≤ k ∧ st ≤ n ∧ Hid (ncnt (s.drop st) o = k - i ∧ D ++ nrep o nw (k - i) (s.drop st) = nrep o nw k s) ∧ Hid (RpB w g tot D wr)) (fun vi _ _ _ => (k - intOf vi).toNat)
  case atStart => exact ⟨0, 0, [], rfl, rfl, rfl, by omega, by omega, ⟨by rw [List.drop_zero, ← Hk.out]; rfl, by simp⟩, hR⟩
  case round =>
    obtain ⟨i, st, D, rfl, rfl, rfl, hi, hst, hcd, hs⟩ := hrel
    by_cases hlt : i < k
    · have hlt2 : (i : Int) < (k : Nat) := by omega
      obtain ⟨j, hj, hjr⟩ := nidx_of_cnt (s := s.drop st) (old := o) (by have := hcd.out.1; omega)
      rw [List.length_drop, l1, l2] at hjr
      have hIx := Lib.hid (lib_index (HM.out _ _ hs.out) (p.add st) ⟨g1, 0, none⟩ (n - st) (c - st) 2 c1 (s.drop st) o (bytes_drop (H1.out _ _ hs.out) (by omega)) (H2.out _ _ hs.out) (by rw [List.length_drop, l1]) l2 (by omega) (by omega) (by omega))
      rw [hj] at hIx
      have q1 : (st : Int) ≤ (n : Int) := by omega
      have q2 : (st : Int) < (n : Int) := by omega
      have q3 : (n : Int) ≤ (c : Int) := by omega
      clear hlt
      obtain ⟨en, hen⟩ : ∃ en : Nat, en = st + j := ⟨_, rfl⟩
      have hens : Hid ((st : Int) + (j : Int) = (en : Int)) := by show _ = _; omega
      go_upto_region 15 with (go_at_call 24; refine hIx.out.mono ?_; rintro e w' ⟨rfl, q4, rfl⟩; have hs2 := Lib.hid (hs.out.drewN q4))
      rw [hens.out]
      have hX : ((s.drop st).take j).length = j := by rw [List.length_take, List.length_drop, l1]; omega
      have hnx : Hid (ncnt (s.drop (en + 2)) o = k - (i + 1) ∧ (D ++ (s.drop st).take j) ++ nw ++ nrep o nw (k - (i + 1)) (s.drop (en + 2)) = nrep o nw k s) := by
        have e1 := ncnt_hit (by intro e; rw [e] at l2; simp at l2) hj
        have e2 := nrep_hit (new := nw) (k := k - (i + 1)) hj
        rw [List.drop_drop, l2] at e1 e2
        rw [show k - (i + 1) + 1 = k - i from by omega] at e2
        have e3 := hcd.out
        refine ⟨by rw [show en + 2 = st + (j + 2) from by omega]; omega, ?_⟩
        rw [show en + 2 = st + (j + 2) from by omega, ← e3.2, e2]
        simp
      have hroom : D.length + j + 1 ≤ tot := by
        have e := congrArg List.length hnx.out.2
        rw [List.length_append, List.length_append, List.length_append, hX, l3, Hk.out, ← Ht.out] at e
        omega
      clear hj hIx
      generalize wr.drewN q4 = w2 at *
      obtain ⟨cur, b1, b2, b3, b4, b5, b6⟩ := hs2.out
      have q5 : (D.length : Int) < (tot : Int) := by omega
      have q6 : (D.length : Int) ≤ (tot : Int) := by omega
      have q7 : (en : Int) ≤ (c : Int) := by omega
      have q8 : (st : Int) ≤ (en : Int) := by omega
      have q12 : ¬ tot = D.length := by omega
      have q13 : ¬ c = st := by omega
      have hn1 : Hid ((bV ((s.drop st).take j)).length = Nat.min (en - st) (tot - D.length)) := by
        show _ = _
        rw [bV_len, hX, show en - st = j from by omega]; exact (Nat.min_eq_left (by omega)).symm
      have hp1 : Hid (0 < (bV ((s.drop st).take j)).length → (some ⟨g, D.length, none⟩ : Option Addr) = some ⟨g, D.length, none⟩ ∧ ∃ ad, (some (p.add st) : Option Addr) = some ad ∧ ∀ i v, (bV ((s.drop st).take j))[i]? = some v → w2.drew.cell? (ad.add i) = some v) := fun _ =>
        ⟨rfl, _, rfl, bytes_part (H1.out _ _ (hs2.out.drewN 1)) (by omega)⟩
      have hf1 : Hid (D.length + (bV ((s.drop st).take j)).length ≤ cur.length) := by show _ ≤ _; rw [bV_len, hX, b2]; omega
      have ho1 := Lib.hid (bV_one ((s.drop st).take j))
      have B1d : Hid (w2.drew.heap[g]? = some (.cells cur.toArray 5 (0, 0))) := b1
      have B5d : Hid (Below w.heap.size w w2.drew) := below_drewN b5 1
      have hX2 : Hid ((bV ((s.drop st).take j)).length = j) := by show _ = _; rw [bV_len, hX]
      have KK := Lib.hid (And.intro b2 (And.intro b3 (And.intro hX (And.intro hroom (And.intro hen (And.intro hjr (And.intro hst (And.intro hi (And.intro l3 q3)))))))))
      clear b1 b2 b3 b4 b5 hX hroom hen hjr hst hi hkn hn hcm hc l1 l2 l3
      go_region_law (refine step_copy_splice rfl (.tmp 61) (.tmp 65) 22 22 rfl 5 underB szB (some ⟨g, D.length, none⟩) (some (p.add st)) (tot - D.length) (tot - D.length) (en - st) (c - st) (by simp [Act.eval, Act.put]) (by simp [Act.eval, Act.put]) g D.length cur 5 B1d.out (bV ((s.drop st).take j)) hn1.out hp1.out hf1.out ho1.out w.heap.size w B5d.out b6 ?_; intro w4 hg4 hb4; rw [hX2.out])
      obtain ⟨b2, b3, hX, hroom, hen, hjr, hst, hi, l3, q3⟩ := KK.out
      have r4 := Lib.hid (rpb_step (X := (s.drop st).take j) b2 b3 (by rw [hX]; omega) hg4.out hb4 b6)
      clear hn1 hp1 hf1 ho1 B1d B5d hg4 hb4 b2 b3
      obtain ⟨cur2, d1, d2, d3, d4, d5, d6⟩ := r4.out
      obtain ⟨E1, hE1⟩ : ∃ E1, E1 = D.length + j := ⟨_, rfl⟩
      have hDX : (D ++ (s.drop st).take j).length = E1 := by rw [List.length_append, hX, hE1]
      have q9 : (E1 : Int) ≤ (tot : Int) := by omega
      have q10 : (E1 : Int) < (tot : Int) := by omega
      have q11 : ¬ tot = E1 := by omega
      rw [hDX] at d3
      have Bd1 := Lib.hid d1
      have Bd5 := Lib.hid d5
      have hn2 : Hid ((bV nw).length = Nat.min 1 (tot - E1)) := by show _ = _; rw [bV_len, l3]; exact (Nat.min_eq_left (by omega)).symm
      have hp2 : Hid (0 < (bV nw).length → (some ⟨g, E1, none⟩ : Option Addr) = some ⟨g, E1, none⟩ ∧ ∃ ad, (some ⟨g2, 0, none⟩ : Option Addr) = some ad ∧ ∀ i v, (bV nw)[i]? = some v → w4.cell? (ad.add i) = some v) := fun _ => ⟨rfl, _, rfl, bytes_all (H3.out _ _ r4.out)⟩
      have hf2 : Hid (E1 + (bV nw).length ≤ cur2.length) := by show _ ≤ _; rw [bV_len, l3, d2]; omega
      have ho2 := Lib.hid (bV_one nw)
      have hB2 : Hid ((bV nw).length = 1) := by show _ = _; rw [bV_len, l3]
      have KS : Hid ((D.length : Int) + (j : Int) = ((E1 : Nat) : Int)) := by show _ = _; omega
      have hDb : (D.length : Int) ≤ 9000 := by omega
      have hjb : (j : Int) ≤ 9000 := by omega
      have K2 := Lib.hid (And.intro hDX (And.intro d2 (And.intro d3 (And.intro hE1 (And.intro hroom (And.intro hen (And.intro hjr (And.intro hst (And.intro hi (And.intro l3 q3))))))))))
      clear hE1 hDX hX d1 d2 d3 d4 d5 hroom hjr hen hst hi q1 q2 q3 q5 q6 q7 q8 q12 q13 l3 KK
      go_upto_region 16 with fail
      rw [KS.out]
      have q14 : (en : Int) ≤ 4000 := by obtain ⟨_, _, _, _, _, _, _, _, _, _, _⟩ := K2.out; have := Hn4.out.1; omega
      have q15 : (i : Int) ≤ 4001 := by have := Hn4.out; have := Hkn.out; omega
      have hen1 : Hid ((en : Int) + 2 = ((en + 2 : Nat) : Int)) := by show _ = _; omega
      have hE2 : Hid ((E1 : Int) + 1 = ((E1 + 1 : Nat) : Int)) := by show _ = _; omega
      go_wp2_with (with_reducible show wpList _ _ _ (⟨some 73, _, _, _, _, _⟩ :: _) _ _; refine wpList_copy_splice (o := ⟨some 73, _, _, _, _, _⟩) rfl (.tmp 71) (.tmp 72) 22 22 rfl 5 underB szB (some ⟨g, E1, none⟩) (some ⟨g2, 0, none⟩) (tot - E1) (tot - E1) 1 c2 rfl rfl g E1 cur2 5 Bd1.out (bV nw) hn2.out hp2.out hf2.out ho2.out w.heap.size w Bd5.out d6 ?_; intro w5 hg5 hb5; rw [hB2.out])
      obtain ⟨hDX, d2, d3, hE1, hroom, hen, hjr, hst, hi, l3, q3⟩ := K2.out
      have r5 := Lib.hid (rpb_step (X := nw) (D := D ++ (s.drop st).take j) d2 (by rw [hDX]; exact d3) (by rw [hDX, l3]; omega) (by rw [hDX]; exact hg5.out) hb5 d6)
      have hn4 := Hn4.out
      refine ⟨⟨_, _, _, _, ⟨i + 1, rfl, en + 2, (D ++ (s.drop st).take j) ++ nw, rfl, rfl, by omega, by omega, hnx, r5⟩, ?_, ?_, rfl, ?_⟩, ?_⟩
      · rw [hE2.out, List.length_append, hDX, l3]
      · rw [hen1.out]
      · rfl
      · show max _ _ < _
        simp only [intOf]; omega
    · have hnt := Hn4.out
      have hTD : tot = D.length + (n - st) ∧ nrep o nw k s = D ++ s.drop st := by
        have e1 := hcd.out
        rw [show k - i = 0 from by omega] at e1
        have e2 : D ++ s.drop st = nrep o nw k s := e1.2
        refine ⟨?_, e2.symm⟩
        have e3 := congrArg List.length e2
        rw [List.length_append, List.length_drop, Hk.out, ← Ht.out] at e3
        omega
      have hX : (s.drop st).length = n - st := by rw [List.length_drop]; omega
      have hX2 : Hid ((bV (s.drop st)).length = n - st) := by show _ = _; rw [bV_len, hX]
      have hlt2 : ¬ ((i : Int) < (k : Nat)) := by omega
      obtain ⟨cur, b1, b2, b3, b4, b5, b6⟩ := hs.out
      have B1d : Hid (wr.drew.heap[g]? = some (.cells cur.toArray 5 (0, 0))) := b1
      have B5d : Hid (Below w.heap.size w wr.drew) := below_drewN b5 1
      have hf1 : Hid (D.length + (bV (s.drop st)).length ≤ cur.length) := by show _ ≤ _; rw [bV_len, hX, b2]; omega
      have ho1 := Lib.hid (bV_one (s.drop st))
      have KS : Hid ((D.length : Int) + ((n - st : Nat) : Int) = (tot : Int)) := by show _ = _; omega
      have hR : Hid (∀ w4 : World, w4.heap[g]? = some (.cells (splice cur D.length (bV (s.drop st))).toArray 5 (0, 0)) → Below w.heap.size w w4 → clonePost 5 (bV (nrep o nw (ncnt s o) s)) w (.returned (.slice (some ⟨g, 0, none⟩) tot tot)) w4) := fun w4 hg4 hb4 => by
        rw [← Hk.out, hTD.2]
        exact rpb_end (rpb_step b2 b3 (by rw [hX]; omega) hg4 hb4 b6) (by rw [List.length_append, hX]; omega) (by have : maxLen = 9223372036854775807 := rfl; omega)
      have q5 : (D.length : Int) ≤ (tot : Int) := by omega
      have q6 : (st : Int) ≤ (n : Int) := by omega
      have q7 : (n : Int) ≤ (c : Int) := by omega
      have hDb : (D.length : Int) ≤ 9000 := by omega
      have hjb : ((n - st : Nat) : Int) ≤ 9000 := by omega
      clear b1 b2 b4 b5
      by_cases hsn : st < n
      · have q12 : ¬ tot = D.length := by omega
        have q13 : ¬ c = st := by omega
        clear hsn
        have hn1 : Hid ((bV (s.drop st)).length = Nat.min (n - st) (tot - D.length)) := by
          show _ = _
          rw [bV_len, hX, show tot - D.length = n - st from by omega]; exact (Nat.min_self _).symm
        have hp1 : Hid (0 < (bV (s.drop st)).length → (some ⟨g, D.length, none⟩ : Option Addr) = some ⟨g, D.length, none⟩ ∧ ∃ ad, (some (p.add st) : Option Addr) = some ad ∧ ∀ i v, (bV (s.drop st))[i]? = some v → wr.drew.cell? (ad.add i) = some v) := fun h0 => by
          rw [bV_len, hX] at h0
          exact ⟨rfl, _, rfl, fun i v hv => by have := bytes_part (st := st) (j := n - st) (H1.out _ _ (hs.out.drewN 1)) (by omega) i v (by rw [List.take_of_length_le (by omega)]; exact hv); exact this⟩
        clear hX hnt b3 hi hst hlt hTD
        go_upto_region 28 with fail
        go_region_law (refine step_copy_splice rfl (.tmp 123) (.tmp 126) 22 22 rfl 5 underB szB (some ⟨g, D.length, none⟩) (some (p.add st)) (tot - D.length) (tot - D.length) (n - st) (c - st) (by simp [Act.eval, Act.put]) (by simp [Act.eval, Act.put]) g D.length cur 5 B1d.out (bV (s.drop st)) hn1.out hp1.out hf1.out ho1.out w.heap.size w B5d.out b6 ?_; intro w4 hg4 hb4; rw [hX2.out])
        have hE := hR.out w4 hg4.out hb4
        go_upto_region 29 with fail
        rw [KS.out]
        go_wp2_with fail
        go_ret
        exact hE
      · obtain rfl : n = st := by omega
        have hnil : Hid (bV (s.drop n) = []) := by show _ = _; rw [List.eq_nil_of_length_eq_zero (show (s.drop n).length = 0 from by omega)]; rfl
        have eT : tot = D.length := by omega
        subst eT
        have hf2 : Hid (D.length + ([] : List Value).length ≤ cur.length) := by have h := hf1.out; show _ ≤ _; simp only [List.length_nil]; omega
        clear hX hnt b3 hi hst hlt hTD hsn hjb hX2 hf1 ho1 KS
        by_cases hcs : c = n
        · subst hcs
          go_upto_region 28 with fail
          go_region_law (refine step_copy_splice rfl (.tmp 123) (.tmp 126) 22 22 rfl 5 underB szB (some ⟨g, 0, none⟩) (some p) 0 0 0 (0) (by simp [Act.eval, Act.put]) (by simp [Act.eval, Act.put]) g D.length cur 5 B1d.out [] rfl (fun h => by cases h) hf2.out (fun u hu => by cases hu) w.heap.size w B5d.out b6 ?_; intro w4 hg4 hb4)
          have hE := hR.out w4 (by rw [hnil.out]; exact hg4.out) hb4
          go_wp2_with fail
          go_ret
          exact hE
        · have q13 : ¬ c = n := hcs
          go_upto_region 28 with fail
          go_region_law (refine step_copy_splice rfl (.tmp 123) (.tmp 126) 22 22 rfl 5 underB szB (some ⟨g, 0, none⟩) (some (p.add n)) 0 0 0 (c - n) (by simp [Act.eval, Act.put]) (by simp [Act.eval, Act.put]) g D.length cur 5 B1d.out [] rfl (fun h => by cases h) hf2.out (fun u hu => by cases hu) w.heap.size w B5d.out b6 ?_; intro w4 hg4 hb4)
          have hE := hR.out w4 (by rw [hnil.out]; exact hg4.out) hb4
          go_wp2_with fail
          go_ret
          exact hE
end Go.Proofs.YtkknddlijhjieaaDoor
