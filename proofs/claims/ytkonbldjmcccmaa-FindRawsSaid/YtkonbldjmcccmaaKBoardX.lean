/- Boards: Set at a new byte, Drop, Copy. -/
import Derived.Test.YtkonbldjmcccmaaKBoardW
set_option linter.unusedVariables false
set_option linter.unusedSimpArgs false
namespace Go.Proofs.Ytkonbldjmcccmaa
open Go.RowKit
namespace I
variable {w : World} {r rm : Nat} {l : KV} {p : Nat → Nat} {vx : Value} {xs : List Value} {bx : Option Nat} {vf : Value} {fs : List Nat} {bf : Option Nat}
set_option maxHeartbeats 1000000 in
set_option maxRecDepth 100000 in
theorem bd_set_free {q : Nat} (h : BdIs bdT elT u16T w r rm l p vx xs bx vf (fs ++ [q + 1]) bf) (b : Nat) (hb : b < 256) (hh : has l b = false) (hf : l.length < rm) (x : Int) : Calls Try.prog 187 #[.pointer (some ⟨r, 0, none⟩), .int .u8 b, .int .i64 x] w (bsetPost r rm l b (.int .i64 x) (bdS r bx bf) w) := by
  have c0 := h.c0
  have c1 := h.c1
  have hr := h.r1
  have cA := h.cA b hb
  rw [(h.pl.zero b hb).2 hh] at cA
  have cA' : w.cell? ⟨r, 2 + b, none⟩ = some (.int .u16 0) := cA
  have hfin := h.pl.fin (q + 1) (by simp)
  obtain ⟨g, cap, e1, e2, e3, e4, e5⟩ := h.ownX.at_ (j := q) (by omega)
  have cX := h.cX
  rw [e2] at cX
  have hgr : g ≠ r := fun e => h.neX (by rw [e1, e])
  have hx : xs.length ≤ 256 := by have := h.pl.leX; have := h.r256; omega
  have hpl : ∀ m, Hid (Calls Try.prog 206 #[.pointer (some ⟨r, 0, none⟩)] (w.drewN m) (placeFree r (q + 1) fs bf (w.drewN m))) := fun m => bd_place_free (h.keep (w' := w.drewN m) fun _ _ => rfl)
  have hw : ∀ n vf', Own u16T w vf' (fsV fs) bf → Hid (bsetPost r rm l b (.int .i64 x) (bdS r bx bf) w (.returned (.int .i64 0)) (((((w.setCell ⟨r, 259, none⟩ vf').setCell ⟨r, 2 + b, none⟩ (.int .u16 ((q + 1 : Nat) : Int))).setCell ⟨r, 1, none⟩ (.int .i64 ((l.length + 1 : Nat) : Int))).drewN n).setCell ⟨g, q, none⟩ (.int .i64 x))) := fun n vf' ho => bset_free h b hb hh hf x g cap e1 n vf' ho
  have Hw := Lib.hid hw
  have frr := frozen_of_blk h.blk
  have hln : l.length ≤ 256 := by have := h.r256; omega
  generalize hy : xs[q]'(by omega) = y at *
  have hq1 : q < xs.length := by omega
  clear hy
  generalize xs.length = k at *
  generalize l.length = n at *
  have hnm : ((n : Int) == (rm : Int)) = false := beq_eq_false_iff_ne.mpr (by omega)
  have hnm2 : (n == rm) = false := beq_eq_false_iff_ne.mpr (by omega)
  have hbi : (b : Int) < 256 := by omega
  have hq2 : (q : Int) < (k : Int) := by omega
  clear h hh cA e1 e2 hfin hw
  go_enter Try.func187, Try.ntmps187
  go_wp2_with (go_at_call 184; refine (bok_yes _ _ _ c0 hr).mono ?_; rintro e w' ⟨rfl, rfl⟩)
  go_quiet (fail)
  go_wp2_with fail
  go_region_with (go_at_call 206; refine (hpl _).out.mono ?_; rintro e w1 ⟨rfl, vf1, hw1, Hf⟩)
  have HF := Lib.hid Hf
  clear Hf hw1 hpl
  have n1 : ¬ (258 = 2 + b) := by omega
  have n2 : ¬ (2 + b = 258) := by omega
  have n3 : ¬ (b = 256) := by omega
  go_wp2_with fail
  have k1 : IntKind.u16.wrap ((q : Int) + 1 - 1) = (q : Int) := by rw [IntWalk.u16_in _ (by omega)]; omega
  go_region
  go_wp2_with fail
  go_ret
  exact (Hw.out (nq + 2) vf1 HF.out).out
theorem new_facts (h : BdIs bdT elT u16T w r rm l p vx xs bx vf [] bf) (m : Nat) {vx1 : Value} {w1 : World} {bo1 : Option Nat} (HO : Own elT w1 vx1 (xs ++ [(.int .i64 0)]) bo1) (HM : Mod (fun k => bx = some k) (w.drewN m) w1) (HN : NewOr (w.drewN m) bx bo1) :
    ∃ g cap, vx1 = .slice (some ⟨g, 0, none⟩) (xs.length + 1) cap ∧ bo1 = some g ∧ g ≠ r ∧ bf ≠ some g ∧ w1.cell? ⟨g, xs.length, none⟩ = some (.int .i64 0) ∧ w1.frozen? ⟨g, xs.length, none⟩ = false ∧ w1.heap[r]? = w.heap[r]? ∧ xs.length + 1 ≤ cap := by
  have hl : (xs ++ ([(.int .i64 0)] : List Value)).length = xs.length + 1 := by simp
  obtain ⟨g, cap, e1, e2, e3, e4, e5⟩ := HO.at_ (j := xs.length) (by omega)
  rw [hl] at e2 e5
  have hg : g ≠ r ∧ bf ≠ some g := by
    rcases HN with e | ⟨g', e, hg'⟩
    · rw [e1] at e
      exact ⟨fun e' => h.neX (by rw [← e, e']), fun e' => h.neXF g e.symm e'⟩
    · rw [e1] at e; cases e
      have hlt := h.lt
      simp only [World.heap_drewN] at hg'
      refine ⟨by omega, fun e' => ?_⟩
      have ho := h.ownF
      rw [e'] at ho
      have := ho.lt
      omega
  refine ⟨g, cap, e2, e1, hg.1, hg.2, by rw [e3]; simp, e4, HM.same r h.lt h.neX, e5⟩
theorem bset_new (h : BdIs bdT elT u16T w r rm l p vx xs bx vf [] bf) (b : Nat) (hb : b < 256) (hh : has l b = false) (hr : l.length < rm) (x : Int) (m n : Nat) {w1 : World} {g cap : Nat} (HO : Own elT w1 (.slice (some ⟨g, 0, none⟩) (xs.length + 1) cap) (xs ++ [(.int .i64 0)]) (some g)) (HM : Mod (fun k => bx = some k) (w.drewN m) w1) (HN : NewOr (w.drewN m) bx (some g)) (hgr : g ≠ r) (hfg : bf ≠ some g) :
    bsetPost r rm l b (.int .i64 x) (bdS r bx bf) w (.returned (.int .i64 0)) (((((w1.setCell ⟨r, 258, none⟩ (.slice (some ⟨g, 0, none⟩) (xs.length + 1) cap)).setCell ⟨r, 2 + b, none⟩ (.int .u16 ((xs.length + 1 : Nat) : Int))).setCell ⟨r, 1, none⟩ (.int .i64 ((l.length + 1 : Nat) : Int))).drewN n).setCell ⟨g, xs.length, none⟩ (.int .i64 x)) := by
  have hcnt := h.pl.cnt
  simp only [List.length_nil, Nat.add_zero] at hcnt
  have hp := h.pl.fresh (xs' := xs ++ [(.int .i64 0)]) (fs' := []) (q := xs.length) hb hh (.int .i64 x) rfl (by simp) (fun j hj _ => List.getElem?_append_left hj) (by simp [hcnt]) (by simp) (by simp; omega) hr List.nodup_nil (by simp)
    (fun c hc e => by have := h.pl.at_ c hc (by omega); omega) (fun v hv => by
      rcases List.mem_append.1 hv with hv | hv
      · exact h.pl.one v hv
      · simp at hv; rw [hv]; rfl)
  have blk1 : w1.heap[r]? = some (.cells (bdL rm l.length p vx vf).toArray bdT (0, 0)) := (HM.same r h.lt h.neX).trans h.blk
  have b1 := setCell_list w1 r 258 _ bdT (.slice (some ⟨g, 0, none⟩) (xs.length + 1) cap) blk1
  rw [bdL_setX] at b1
  have k1 := setRow_heap w1 r _ (bdL rm l.length p (.slice (some ⟨g, 0, none⟩) (xs.length + 1) cap) vf).toArray _ _ blk1
  rw [← b1] at k1
  have b2 := setCell_list _ r (2 + b) _ bdT (.int .u16 ((xs.length + 1 : Nat) : Int)) k1
  rw [bdL_setA _ _ _ _ _ _ _ hb] at b2
  have k2 := setRow_heap _ r _ (bdL rm l.length (upd p b (xs.length + 1)) (.slice (some ⟨g, 0, none⟩) (xs.length + 1) cap) vf).toArray _ _ k1
  rw [← b2] at k2
  have b3 := setCell_list _ r 1 _ bdT (.int .i64 ((l.length + 1 : Nat) : Int)) k2
  rw [bdL_set1] at b3
  have k3 := setRow_heap _ r _ (bdL rm (l.length + 1) (upd p b (xs.length + 1)) (.slice (some ⟨g, 0, none⟩) (xs.length + 1) cap) vf).toArray _ _ k2
  rw [← b3] at k3
  have kS : ∀ k, k ≠ r → (((w1.setCell ⟨r, 258, none⟩ (.slice (some ⟨g, 0, none⟩) (xs.length + 1) cap)).setCell ⟨r, 2 + b, none⟩ (.int .u16 ((xs.length + 1 : Nat) : Int))).setCell ⟨r, 1, none⟩ (.int .i64 ((l.length + 1 : Nat) : Int))).heap[k]? = w1.heap[k]? := fun k hk => by
    rw [Below.heap_setCell _ _ _ _ hk, Below.heap_setCell _ _ _ _ hk, Below.heap_setCell _ _ _ _ hk]
  refine ⟨rfl, _, ⟨_, .slice (some ⟨g, 0, none⟩) (xs.length + 1) cap, _, some g, vf, [], bf, ⟨?_, ?_, ?_, fun e => hgr (by simpa using e), h.neF, fun g' e => by cases e; exact hfg, hp⟩, rfl⟩, ?_, fun k hk => ?_⟩
  · rw [Below.heap_setCell _ _ _ _ (fun e => hgr e.symm), ins_len h.pl.srt hh]
    exact k3
  · exact (HO.keep (w' := World.drewN _ n) fun g' e => by cases e; exact kS g hgr).set xs.length (.int .i64 x)
  · exact h.ownF.keep fun g' e => by
      rw [Below.heap_setCell _ _ _ _ (fun e' => hfg (by rw [e, e']))]
      have hl : g' < w.heap.size := by have ho := h.ownF; rw [e] at ho; exact ho.lt
      exact (kS g' (fun e' => h.neF (by rw [e, e']))).trans (HM.same g' hl (fun e' => h.neXF g' e' e))
  · have m1 : Mod (bdS r bx bf) w w1 := ((Mod.refl _ w).drewN m).then HM (fun i _ e => Or.inr (Or.inl e))
    refine ((((m1.setCell ⟨r, _, none⟩ _ (fun _ => Or.inl rfl)).setCell ⟨r, _, none⟩ _ (fun _ => Or.inl rfl)).setCell ⟨r, _, none⟩ _ (fun _ => Or.inl rfl)).drewN n).setCell ⟨g, _, none⟩ _ (fun hg => ?_)
    rcases HN with e | ⟨g', e, hg'⟩
    · exact Or.inr (Or.inl e.symm)
    · cases e; have hg2 : g < w.heap.size := hg; have hg3 : w.heap.size ≤ g := hg'; omega
  · rcases hk with hk | hk | hk
    · exact Or.inl (Or.inl hk)
    · cases hk
      rcases HN with e | ⟨g', e, hg'⟩
      · exact Or.inl (Or.inr (Or.inl e.symm))
      · cases e; exact Or.inr hg'
    · exact Or.inl (Or.inr (Or.inr hk))
set_option maxHeartbeats 1000000 in
set_option maxRecDepth 100000 in
theorem bd_set_fresh (h : BdIs bdT elT u16T w r rm l p vx xs bx vf [] bf) (b : Nat) (hb : b < 256) (hh : has l b = false) (hf : l.length < rm) (x : Int) : Calls Try.prog 187 #[.pointer (some ⟨r, 0, none⟩), .int .u8 b, .int .i64 x] w (bsetPost r rm l b (.int .i64 x) (bdS r bx bf) w) := by
  have c0 := h.c0
  have c1 := h.c1
  have hr := h.r1
  have cA := h.cA b hb
  rw [(h.pl.zero b hb).2 hh] at cA
  have cA' : w.cell? ⟨r, 2 + b, none⟩ = some (.int .u16 0) := cA
  have cX := h.cX
  have hx : xs.length ≤ 256 := by have := h.pl.leX; have := h.r256; omega
  have hpl : ∀ m, Hid (Calls Try.prog 206 #[.pointer (some ⟨r, 0, none⟩)] (w.drewN m) (placeNew r xs bx (w.drewN m))) := fun m => bd_place_new (h.keep (w' := w.drewN m) fun _ _ => rfl)
  have HH := Lib.hid h
  have Hh := Lib.hid hh
  have Hf := Lib.hid hf
  have frr := frozen_of_blk h.blk
  have hln : l.length ≤ 256 := by have := h.r256; omega
  have hnm : ((l.length : Int) == (rm : Int)) = false := beq_eq_false_iff_ne.mpr (by omega)
  have hnm2 : (l.length == rm) = false := beq_eq_false_iff_ne.mpr (by omega)
  have hbi : (b : Int) < 256 := by omega
  clear h hh cA hf
  go_enter Try.func187, Try.ntmps187
  go_wp2_with (go_at_call 184; refine (bok_yes _ _ _ c0 hr).mono ?_; rintro e w' ⟨rfl, rfl⟩)
  go_quiet (fail)
  go_wp2_with fail
  go_region_with (go_at_call 206; refine (hpl _).out.mono ?_; rintro e w2 ⟨rfl, vx1, w1, bo1, hw1, HO, HM, HN⟩; obtain ⟨g, cap, rfl, rfl, hgr, hfg, q1, q2, q3, q4⟩ := new_facts HH.out _ HO HM HN; have HO := Lib.hid HO; have HM := Lib.hid HM; have HN := Lib.hid HN; have hfg := Lib.hid hfg; have d1 := (World.cell?_of_block (a := ⟨r, 2 + b, none⟩) q3).trans cA'; have d2 := (World.cell?_of_block (a := ⟨r, 1, none⟩) q3).trans c1; have d3 := (World.cell?_of_block (a := ⟨r, 258, none⟩) q3).trans cX; have d4 : ∀ j, w1.frozen? ⟨r, j, none⟩ = false := fun j => (World.frozen?_of_block (a := ⟨r, j, none⟩) q3).trans (frr j); clear q3)
  clear hw1 hpl cX cA' c1 frr
  have n1 : ¬ (258 = 2 + b) := by omega
  have n2 : ¬ (2 + b = 258) := by omega
  have n3 : ¬ (b = 256) := by omega
  have n4 : xs.length < xs.length + 1 := by omega
  have n5 : (xs.length : Int) < (xs.length : Int) + 1 := by omega
  go_wp2_with fail
  have k1 : IntKind.u16.wrap ((xs.length : Int) + 1 - 1) = (xs.length : Int) := by rw [IntWalk.u16_in _ (by omega)]; omega
  go_region
  go_wp2_with fail
  go_ret
  exact bset_new HH.out b hb Hh.out Hf.out x _ 1 HO.out HM.out HN.out hgr hfg.out
end I

namespace N
variable {w : World} {r rm : Nat} {l : KV} {p : Nat → Nat} {vx : Value} {xs : List Value} {bx : Option Nat} {vf : Value} {fs : List Nat} {bf : Option Nat}
set_option maxHeartbeats 1000000 in
set_option maxRecDepth 100000 in
theorem bd_set_free {q : Nat} (h : BdIs bdT elT u16T w r rm l p vx xs bx vf (fs ++ [q + 1]) bf) (b : Nat) (hb : b < 256) (hh : has l b = false) (hf : l.length < rm) (x : (Option Addr)) : Calls Try.prog 198 #[.pointer (some ⟨r, 0, none⟩), .int .u8 b, .pointer x] w (bsetPost r rm l b (.pointer x) (bdS r bx bf) w) := by
  have c0 := h.c0
  have c1 := h.c1
  have hr := h.r1
  have cA := h.cA b hb
  rw [(h.pl.zero b hb).2 hh] at cA
  have cA' : w.cell? ⟨r, 2 + b, none⟩ = some (.int .u16 0) := cA
  have hfin := h.pl.fin (q + 1) (by simp)
  obtain ⟨g, cap, e1, e2, e3, e4, e5⟩ := h.ownX.at_ (j := q) (by omega)
  have cX := h.cX
  rw [e2] at cX
  have hgr : g ≠ r := fun e => h.neX (by rw [e1, e])
  have hx : xs.length ≤ 256 := by have := h.pl.leX; have := h.r256; omega
  have hpl : ∀ m, Hid (Calls Try.prog 208 #[.pointer (some ⟨r, 0, none⟩)] (w.drewN m) (placeFree r (q + 1) fs bf (w.drewN m))) := fun m => bd_place_free (h.keep (w' := w.drewN m) fun _ _ => rfl)
  have hw : ∀ n vf', Own u16T w vf' (fsV fs) bf → Hid (bsetPost r rm l b (.pointer x) (bdS r bx bf) w (.returned (.int .i64 0)) (((((w.setCell ⟨r, 259, none⟩ vf').setCell ⟨r, 2 + b, none⟩ (.int .u16 ((q + 1 : Nat) : Int))).setCell ⟨r, 1, none⟩ (.int .i64 ((l.length + 1 : Nat) : Int))).drewN n).setCell ⟨g, q, none⟩ (.pointer x))) := fun n vf' ho => bset_free h b hb hh hf x g cap e1 n vf' ho
  have Hw := Lib.hid hw
  have frr := frozen_of_blk h.blk
  have hln : l.length ≤ 256 := by have := h.r256; omega
  generalize hy : xs[q]'(by omega) = y at *
  have hq1 : q < xs.length := by omega
  clear hy
  generalize xs.length = k at *
  generalize l.length = n at *
  have hnm : ((n : Int) == (rm : Int)) = false := beq_eq_false_iff_ne.mpr (by omega)
  have hnm2 : (n == rm) = false := beq_eq_false_iff_ne.mpr (by omega)
  have hbi : (b : Int) < 256 := by omega
  have hq2 : (q : Int) < (k : Int) := by omega
  clear h hh cA e1 e2 hfin hw
  go_enter Try.func198, Try.ntmps198
  go_wp2_with (go_at_call 194; refine (bok_yes _ _ _ c0 hr).mono ?_; rintro e w' ⟨rfl, rfl⟩)
  go_quiet (fail)
  go_wp2_with fail
  go_region_with (go_at_call 208; refine (hpl _).out.mono ?_; rintro e w1 ⟨rfl, vf1, hw1, Hf⟩)
  have HF := Lib.hid Hf
  clear Hf hw1 hpl
  have n1 : ¬ (258 = 2 + b) := by omega
  have n2 : ¬ (2 + b = 258) := by omega
  have n3 : ¬ (b = 256) := by omega
  go_wp2_with fail
  have k1 : IntKind.u16.wrap ((q : Int) + 1 - 1) = (q : Int) := by rw [IntWalk.u16_in _ (by omega)]; omega
  go_region
  go_wp2_with fail
  go_ret
  exact (Hw.out (nq + 2) vf1 HF.out).out
theorem new_facts (h : BdIs bdT elT u16T w r rm l p vx xs bx vf [] bf) (m : Nat) {vx1 : Value} {w1 : World} {bo1 : Option Nat} (HO : Own elT w1 vx1 (xs ++ [(.pointer none)]) bo1) (HM : Mod (fun k => bx = some k) (w.drewN m) w1) (HN : NewOr (w.drewN m) bx bo1) :
    ∃ g cap, vx1 = .slice (some ⟨g, 0, none⟩) (xs.length + 1) cap ∧ bo1 = some g ∧ g ≠ r ∧ bf ≠ some g ∧ w1.cell? ⟨g, xs.length, none⟩ = some (.pointer none) ∧ w1.frozen? ⟨g, xs.length, none⟩ = false ∧ w1.heap[r]? = w.heap[r]? ∧ xs.length + 1 ≤ cap := by
  have hl : (xs ++ ([(.pointer none)] : List Value)).length = xs.length + 1 := by simp
  obtain ⟨g, cap, e1, e2, e3, e4, e5⟩ := HO.at_ (j := xs.length) (by omega)
  rw [hl] at e2 e5
  have hg : g ≠ r ∧ bf ≠ some g := by
    rcases HN with e | ⟨g', e, hg'⟩
    · rw [e1] at e
      exact ⟨fun e' => h.neX (by rw [← e, e']), fun e' => h.neXF g e.symm e'⟩
    · rw [e1] at e; cases e
      have hlt := h.lt
      simp only [World.heap_drewN] at hg'
      refine ⟨by omega, fun e' => ?_⟩
      have ho := h.ownF
      rw [e'] at ho
      have := ho.lt
      omega
  refine ⟨g, cap, e2, e1, hg.1, hg.2, by rw [e3]; simp, e4, HM.same r h.lt h.neX, e5⟩
theorem bset_new (h : BdIs bdT elT u16T w r rm l p vx xs bx vf [] bf) (b : Nat) (hb : b < 256) (hh : has l b = false) (hr : l.length < rm) (x : (Option Addr)) (m n : Nat) {w1 : World} {g cap : Nat} (HO : Own elT w1 (.slice (some ⟨g, 0, none⟩) (xs.length + 1) cap) (xs ++ [(.pointer none)]) (some g)) (HM : Mod (fun k => bx = some k) (w.drewN m) w1) (HN : NewOr (w.drewN m) bx (some g)) (hgr : g ≠ r) (hfg : bf ≠ some g) :
    bsetPost r rm l b (.pointer x) (bdS r bx bf) w (.returned (.int .i64 0)) (((((w1.setCell ⟨r, 258, none⟩ (.slice (some ⟨g, 0, none⟩) (xs.length + 1) cap)).setCell ⟨r, 2 + b, none⟩ (.int .u16 ((xs.length + 1 : Nat) : Int))).setCell ⟨r, 1, none⟩ (.int .i64 ((l.length + 1 : Nat) : Int))).drewN n).setCell ⟨g, xs.length, none⟩ (.pointer x)) := by
  have hcnt := h.pl.cnt
  simp only [List.length_nil, Nat.add_zero] at hcnt
  have hp := h.pl.fresh (xs' := xs ++ [(.pointer none)]) (fs' := []) (q := xs.length) hb hh (.pointer x) rfl (by simp) (fun j hj _ => List.getElem?_append_left hj) (by simp [hcnt]) (by simp) (by simp; omega) hr List.nodup_nil (by simp)
    (fun c hc e => by have := h.pl.at_ c hc (by omega); omega) (fun v hv => by
      rcases List.mem_append.1 hv with hv | hv
      · exact h.pl.one v hv
      · simp at hv; rw [hv]; rfl)
  have blk1 : w1.heap[r]? = some (.cells (bdL rm l.length p vx vf).toArray bdT (0, 0)) := (HM.same r h.lt h.neX).trans h.blk
  have b1 := setCell_list w1 r 258 _ bdT (.slice (some ⟨g, 0, none⟩) (xs.length + 1) cap) blk1
  rw [bdL_setX] at b1
  have k1 := setRow_heap w1 r _ (bdL rm l.length p (.slice (some ⟨g, 0, none⟩) (xs.length + 1) cap) vf).toArray _ _ blk1
  rw [← b1] at k1
  have b2 := setCell_list _ r (2 + b) _ bdT (.int .u16 ((xs.length + 1 : Nat) : Int)) k1
  rw [bdL_setA _ _ _ _ _ _ _ hb] at b2
  have k2 := setRow_heap _ r _ (bdL rm l.length (upd p b (xs.length + 1)) (.slice (some ⟨g, 0, none⟩) (xs.length + 1) cap) vf).toArray _ _ k1
  rw [← b2] at k2
  have b3 := setCell_list _ r 1 _ bdT (.int .i64 ((l.length + 1 : Nat) : Int)) k2
  rw [bdL_set1] at b3
  have k3 := setRow_heap _ r _ (bdL rm (l.length + 1) (upd p b (xs.length + 1)) (.slice (some ⟨g, 0, none⟩) (xs.length + 1) cap) vf).toArray _ _ k2
  rw [← b3] at k3
  have kS : ∀ k, k ≠ r → (((w1.setCell ⟨r, 258, none⟩ (.slice (some ⟨g, 0, none⟩) (xs.length + 1) cap)).setCell ⟨r, 2 + b, none⟩ (.int .u16 ((xs.length + 1 : Nat) : Int))).setCell ⟨r, 1, none⟩ (.int .i64 ((l.length + 1 : Nat) : Int))).heap[k]? = w1.heap[k]? := fun k hk => by
    rw [Below.heap_setCell _ _ _ _ hk, Below.heap_setCell _ _ _ _ hk, Below.heap_setCell _ _ _ _ hk]
  refine ⟨rfl, _, ⟨_, .slice (some ⟨g, 0, none⟩) (xs.length + 1) cap, _, some g, vf, [], bf, ⟨?_, ?_, ?_, fun e => hgr (by simpa using e), h.neF, fun g' e => by cases e; exact hfg, hp⟩, rfl⟩, ?_, fun k hk => ?_⟩
  · rw [Below.heap_setCell _ _ _ _ (fun e => hgr e.symm), ins_len h.pl.srt hh]
    exact k3
  · exact (HO.keep (w' := World.drewN _ n) fun g' e => by cases e; exact kS g hgr).set xs.length (.pointer x)
  · exact h.ownF.keep fun g' e => by
      rw [Below.heap_setCell _ _ _ _ (fun e' => hfg (by rw [e, e']))]
      have hl : g' < w.heap.size := by have ho := h.ownF; rw [e] at ho; exact ho.lt
      exact (kS g' (fun e' => h.neF (by rw [e, e']))).trans (HM.same g' hl (fun e' => h.neXF g' e' e))
  · have m1 : Mod (bdS r bx bf) w w1 := ((Mod.refl _ w).drewN m).then HM (fun i _ e => Or.inr (Or.inl e))
    refine ((((m1.setCell ⟨r, _, none⟩ _ (fun _ => Or.inl rfl)).setCell ⟨r, _, none⟩ _ (fun _ => Or.inl rfl)).setCell ⟨r, _, none⟩ _ (fun _ => Or.inl rfl)).drewN n).setCell ⟨g, _, none⟩ _ (fun hg => ?_)
    rcases HN with e | ⟨g', e, hg'⟩
    · exact Or.inr (Or.inl e.symm)
    · cases e; have hg2 : g < w.heap.size := hg; have hg3 : w.heap.size ≤ g := hg'; omega
  · rcases hk with hk | hk | hk
    · exact Or.inl (Or.inl hk)
    · cases hk
      rcases HN with e | ⟨g', e, hg'⟩
      · exact Or.inl (Or.inr (Or.inl e.symm))
      · cases e; exact Or.inr hg'
    · exact Or.inl (Or.inr (Or.inr hk))
set_option maxHeartbeats 1000000 in
set_option maxRecDepth 100000 in
theorem bd_set_fresh (h : BdIs bdT elT u16T w r rm l p vx xs bx vf [] bf) (b : Nat) (hb : b < 256) (hh : has l b = false) (hf : l.length < rm) (x : (Option Addr)) : Calls Try.prog 198 #[.pointer (some ⟨r, 0, none⟩), .int .u8 b, .pointer x] w (bsetPost r rm l b (.pointer x) (bdS r bx bf) w) := by
  have c0 := h.c0
  have c1 := h.c1
  have hr := h.r1
  have cA := h.cA b hb
  rw [(h.pl.zero b hb).2 hh] at cA
  have cA' : w.cell? ⟨r, 2 + b, none⟩ = some (.int .u16 0) := cA
  have cX := h.cX
  have hx : xs.length ≤ 256 := by have := h.pl.leX; have := h.r256; omega
  have hpl : ∀ m, Hid (Calls Try.prog 208 #[.pointer (some ⟨r, 0, none⟩)] (w.drewN m) (placeNew r xs bx (w.drewN m))) := fun m => bd_place_new (h.keep (w' := w.drewN m) fun _ _ => rfl)
  have HH := Lib.hid h
  have Hh := Lib.hid hh
  have Hf := Lib.hid hf
  have frr := frozen_of_blk h.blk
  have hln : l.length ≤ 256 := by have := h.r256; omega
  have hnm : ((l.length : Int) == (rm : Int)) = false := beq_eq_false_iff_ne.mpr (by omega)
  have hnm2 : (l.length == rm) = false := beq_eq_false_iff_ne.mpr (by omega)
  have hbi : (b : Int) < 256 := by omega
  clear h hh cA hf
  go_enter Try.func198, Try.ntmps198
  go_wp2_with (go_at_call 194; refine (bok_yes _ _ _ c0 hr).mono ?_; rintro e w' ⟨rfl, rfl⟩)
  go_quiet (fail)
  go_wp2_with fail
  go_region_with (go_at_call 208; refine (hpl _).out.mono ?_; rintro e w2 ⟨rfl, vx1, w1, bo1, hw1, HO, HM, HN⟩; obtain ⟨g, cap, rfl, rfl, hgr, hfg, q1, q2, q3, q4⟩ := new_facts HH.out _ HO HM HN; have HO := Lib.hid HO; have HM := Lib.hid HM; have HN := Lib.hid HN; have hfg := Lib.hid hfg; have d1 := (World.cell?_of_block (a := ⟨r, 2 + b, none⟩) q3).trans cA'; have d2 := (World.cell?_of_block (a := ⟨r, 1, none⟩) q3).trans c1; have d3 := (World.cell?_of_block (a := ⟨r, 258, none⟩) q3).trans cX; have d4 : ∀ j, w1.frozen? ⟨r, j, none⟩ = false := fun j => (World.frozen?_of_block (a := ⟨r, j, none⟩) q3).trans (frr j); clear q3)
  clear hw1 hpl cX cA' c1 frr
  have n1 : ¬ (258 = 2 + b) := by omega
  have n2 : ¬ (2 + b = 258) := by omega
  have n3 : ¬ (b = 256) := by omega
  have n4 : xs.length < xs.length + 1 := by omega
  have n5 : (xs.length : Int) < (xs.length : Int) + 1 := by omega
  go_wp2_with fail
  have k1 : IntKind.u16.wrap ((xs.length : Int) + 1 - 1) = (xs.length : Int) := by rw [IntWalk.u16_in _ (by omega)]; omega
  go_region
  go_wp2_with fail
  go_ret
  exact bset_new HH.out b hb Hh.out Hf.out x _ 1 HO.out HM.out HN.out hgr hfg.out
end N
end Go.Proofs.Ytkonbldjmcccmaa
