/- The document's Sorted and Check; the law's same; The document's Fine of a tree; The document's depth of a tree (XQDep's text, for seats without the chapters 30 and 32); How many nodes the document's tree has, as the document tells; The document's Digits; The document's Text; The document's Shape of a tree; The document's Shape of an inner node; law CanonBuilds: the walk. -/
import Derived.Test.YtfhdiimcimafkaaGreatDoorJ3
import Derived.Test.YtfhdiimcimafkaaGreatDoorJ4
import Derived.Test.YtfhdiimcimafkaaGreatDoorJ5
import Derived.Deep.RegionHeld3
set_option linter.unusedVariables false
set_option linter.unusedSimpArgs false
/- The document's Sorted and Check; the law's same. -/
namespace Go.Proofs.YtfhdiimcimafkaaGreatDoor
open Go.RowKit
set_option maxHeartbeats 1000000 in
set_option maxRecDepth 100000 in
theorem ref_sorted (w : World) (a : Option Addr) (n c : Nat) (l : PL) (h : Prs w a n c l) : Calls Tryz.prog 57 #[.slice a n c] w (drewPost (.bool (srtB l)) w) := by
  have H := Lib.hid h
  obtain ⟨V, hV⟩ : ∃ V, V = srtB l := ⟨_, rfl⟩
  have HV := Lib.hid hV
  have hl := Lib.hid h.len
  have hn : n ≤ 9223372036854775807 := Nat.le_trans h.cap h.capm
  rw [← hV]
  clear h hV
  go_enter Tryz.func57, Tryz.ntmps57
  go_wp2_with fail
  go_loopw [3] (fun vi wr => ∃ i : Nat, vi = .int .i64 (i : Nat) ∧ 1 ≤ i ∧ i ≤ n + 1 ∧ Hid (∀ j, j + 1 < i → j + 1 < n → slt (l.getD j ([], 0)).1 (l.getD (j + 1) ([], 0)).1) ∧ Hid (∃ k, wr = w.drewN k)) (fun vi _ => (n + 1 - intOf vi).toNat)
  case atStart => exact ⟨1, rfl, by omega, by omega, fun j hj => absurd hj (by omega), 0, rfl⟩
  case round =>
    obtain ⟨i, rfl, hi1, hi2, hA, hw⟩ := hrel
    by_cases hlt : i < n
    · have hlt2 : (i : Int) < (n : Int) := by omega
      obtain ⟨j, rfl⟩ : ∃ j, i = j + 1 := ⟨i - 1, by omega⟩
      have HP : Hid (Prs wr a n c l) := by
        obtain ⟨k, rfl⟩ := hw.out
        exact H.out.drewN k
      obtain ⟨p, rfl, q⟩ := HP.out.at_ (j + 1) (by rw [hl.out]; exact hlt)
      obtain ⟨p', hp', q'⟩ := HP.out.at_ j (by rw [hl.out]; omega)
      obtain rfl : p = p' := by simpa using hp'
      obtain ⟨a3, n3, c3, q1, q2, q3⟩ := q.cells
      obtain ⟨a4, n4, c4, q4, q5, q6⟩ := q'.cells
      have hw0 : IntKind.i64.wrap (((j + 1 : Nat) : Int) - 1) = (j : Nat) := by rw [show ((j + 1 : Nat) : Int) - 1 = (j : Nat) by omega]; exact IntWalk.i64_in _ (by omega)
      have hw8 : (0 : Int) ≤ (j : Nat) := by omega
      have hw7 : ((j : Nat) : Int) < (n : Int) := by omega
      have hw9 : IntKind.i64.wrap (((j + 1 : Nat) : Int) + 1) = ((j + 1 + 1 : Nat) : Int) := by rw [show ((j + 1 : Nat) : Int) + 1 = ((j + 1 + 1 : Nat) : Int) by omega]; exact IntWalk.i64_in _ (by omega)
      have hC : Hid (∀ k, Calls Tryz.prog 31 #[.slice a4 n4 c4, .slice a3 n3 c3] (wr.drewN k) fun e w' => e = .returned (.int .i64 (bcmp (l.getD j ([], 0)).1 (l.getD (j + 1) ([], 0)).1)) ∧ ∃ p, w' = (wr.drewN k).drewN p) := fun k => quiet_cmp q6 q3 k
      clear q q' q2 q5 q3 q6 hp'
      by_cases hx : slt (l.getD j ([], 0)).1 (l.getD (j + 1) ([], 0)).1
      · have hA2 : Hid (∀ j', j' + 1 < j + 1 + 1 → j' + 1 < n → slt (l.getD j' ([], 0)).1 (l.getD (j' + 1) ([], 0)).1) := fun j' h1 h2 => by
          by_cases e : j' = j
          · subst e; exact hx
          · exact hA.out j' (by omega) h2
        have hx2 := bcmp_neg.2 hx
        have hx3 : ¬ 0 ≤ bcmp (l.getD j ([], 0)).1 (l.getD (j + 1) ([], 0)).1 := by omega
        generalize bcmp (l.getD j ([], 0)).1 (l.getD (j + 1) ([], 0)).1 = V' at *
        clear hx hA
        go_wp2_with fail
        go_quiet ((go_at_call 31; exact Calls.quiet_of (hC.out _)))
        go_wp2_with fail
        go_roundw
        case rel => exact ⟨j + 1 + 1, (by first | rfl | go_num), by omega, by omega, hA2, by obtain ⟨k, rfl⟩ := hw.out; exact ⟨k + nq, by simp⟩⟩
        case measure => (simp [intOf]) <;> omega
      · have hR : Hid (false = V) := by
          show _ = _
          rw [HV.out]
          cases e : srtB l with
          | false => rfl
          | true => exact absurd (srtB_iff.1 e j (by rw [hl.out]; exact hlt)) hx
        have hx2 : ¬ bcmp (l.getD j ([], 0)).1 (l.getD (j + 1) ([], 0)).1 < 0 := fun q => hx (bcmp_neg.1 q)
        have hx3 : 0 ≤ bcmp (l.getD j ([], 0)).1 (l.getD (j + 1) ([], 0)).1 := by omega
        generalize bcmp (l.getD j ([], 0)).1 (l.getD (j + 1) ([], 0)).1 = V' at *
        clear hx hx2 hA
        go_wp2_with fail
        go_quiet ((go_at_call 31; exact Calls.quiet_of (hC.out _)))
        go_wp2_with fail
        go_ret
        rw [← hR.out]
        exact ⟨rfl, by obtain ⟨k, rfl⟩ := hw.out; exact ⟨k + nq, by simp⟩⟩
    · have hlt2 : ¬ (i : Int) < (n : Int) := by omega
      have hR : Hid (true = V) := by
        show _ = _
        rw [HV.out]
        refine (srtB_iff.2 fun j hj => hA.out j ?_ ?_).symm
        · rw [hl.out] at hj; omega
        · rw [hl.out] at hj; exact hj
      clear hA
      go_wp2_with fail
      go_ret
      rw [← hR.out]
      exact ⟨rfl, hw.out⟩
set_option maxHeartbeats 1000000 in
/-- the document's Check of pairs that are not too long -/
theorem ref_check (w : World) (a : Option Addr) (n c : Nat) (l : PL) (h : Prs w a n c l) (hk : ∀ x ∈ l, x.1.length ≤ 65535) : Calls Tryz.prog 27 #[.slice a n c] w (belowPost (.int .i64 (chkE l)) w) := by
  have H := Lib.hid h
  have hl := Lib.hid h.len
  have hn : n ≤ 9223372036854775807 := Nat.le_trans h.cap h.capm
  have hB0 : Hid (Below w.heap.size w w) := Below.refl _ _
  have hkk : Hid (∀ j, j < n → (l.getD j ([], 0)).1.length ≤ 65535) := fun j hj => hk _ (mem_getD (by rw [h.len]; exact hj))
  have hV : chkE l = if srtB l then 0 else 12 := by
    unfold chkE
    rw [farL_no (fun i hi => hk _ (mem_getD hi))]
    rfl
  rw [hV]
  obtain ⟨V, hV2⟩ : ∃ V : Int, V = if srtB l then 0 else 12 := ⟨_, rfl⟩
  rw [← hV2]
  have HV := Lib.hid hV2
  clear h hV hV2 hk
  go_enter Tryz.func27, Tryz.ntmps27
  go_wp2_with fail
  go_loopw [3] (fun vi wr => ∃ i : Nat, vi = .int .i64 (i : Nat) ∧ i ≤ n ∧ Hid (Below w.heap.size w wr)) (fun vi _ => (n - intOf vi).toNat)
  case atStart => exact ⟨0, rfl, by omega, hB0⟩
  case round =>
    clear hB0
    obtain ⟨i, rfl, hi, hB⟩ := hrel
    by_cases hlt : i < n
    · have hlt2 : (i : Int) < (n : Int) := by omega
      have hi0 : (0 : Int) ≤ (i : Int) := by omega
      obtain ⟨p, rfl, q⟩ := (H.out.below hB.out).at_ i (by rw [hl.out]; exact hlt)
      obtain ⟨a3, n3, c3, q1, q2, q3⟩ := q.cells
      have hl3 := q3.len
      have hl4 := hkk.out i hlt
      have hx : ¬ (65535 : Int) < (n3 : Int) := by omega
      have hw9 : IntKind.i64.wrap (((i : Nat) : Int) + 1) = ((i + 1 : Nat) : Int) := by rw [show ((i : Nat) : Int) + 1 = ((i + 1 : Nat) : Int) by omega]; exact IntWalk.i64_in _ (by omega)
      generalize (l.getD i ([], 0)).2 = v at *
      clear q q3 hl3 hl4
      go_wp2_with fail
      go_roundw
      case rel => exact ⟨i + 1, (by first | rfl | go_num), by omega, hB⟩
      case measure => (simp [intOf]) <;> omega
    · have hlt2 : ¬ (i : Int) < (n : Int) := by omega
      have hS := Lib.hid (ref_sorted wr a n c l (H.out.below hB.out))
      have hBd : Hid (∀ k, Below w.heap.size w (wr.drewN k)) := fun k => below_drewN hB.out k
      cases hs : srtB l with
      | true =>
        rw [hs] at hS
        have hR : Hid (V = 0) := by show _ = _; rw [HV.out, hs]; rfl
        go_wp2_with (go_at_call 57; refine hS.out.mono ?_; rintro e w' ⟨rfl, k, rfl⟩)
        go_ret
        rw [hR.out]
        exact ⟨rfl, hBd.out k⟩
      | false =>
        rw [hs] at hS
        have hR : Hid (V = 12) := by show _ = _; rw [HV.out, hs]; rfl
        go_wp2_with (go_at_call 57; refine hS.out.mono ?_; rintro e w' ⟨rfl, k, rfl⟩)
        go_ret
        rw [hR.out]
        exact ⟨rfl, hBd.out k⟩
set_option maxHeartbeats 2000000 in
set_option maxRecDepth 100000 in
/-- the same pairs, twice -/
theorem same_13 (w : World) (a : Option Addr) (n c : Nat) (b : Option Addr) (d : Nat) (l : PL) (h : Prs w a n c l) (h' : Prs w b n d l) : Calls Tryz.prog 24 #[.slice a n c, .slice b n d] w (belowPost (.bool true) w) := by
  have H := Lib.hid h
  have H' := Lib.hid h'
  have hl := Lib.hid h.len
  have hn : n ≤ 9223372036854775807 := Nat.le_trans h.cap h.capm
  clear h h'
  go_enter Tryz.func24, Tryz.ntmps24
  go_wp2_with fail
  go_loopw [13] (fun vi wr => ∃ i : Nat, vi = .int .i64 (i : Nat) ∧ i ≤ n ∧ Hid (∃ k, wr = w.drewN k)) (fun vi _ => (n - intOf vi).toNat)
  case atStart => exact ⟨0, rfl, by omega, 0, rfl⟩
  case round =>
    obtain ⟨i, rfl, hi, hw⟩ := hrel
    by_cases hlt : i < n
    · have hlt2 : (i : Int) < (n : Int) := by omega
      have hi0 : (0 : Int) ≤ (i : Int) := by omega
      have HP : Hid (Prs wr a n c l ∧ Prs wr b n d l) := by
        obtain ⟨k, rfl⟩ := hw.out
        exact ⟨H.out.drewN k, H'.out.drewN k⟩
      obtain ⟨p, rfl, q⟩ := HP.out.1.at_ i (by rw [hl.out]; exact hlt)
      obtain ⟨p', rfl, q'⟩ := HP.out.2.at_ i (by rw [hl.out]; exact hlt)
      obtain ⟨a3, n3, c3, q1, q2, q3⟩ := q.cells
      obtain ⟨a4, n4, c4, q4, q5, q6⟩ := q'.cells
      have hC : Hid (∀ k, Calls Tryz.prog 14 #[.slice a3 n3 c3, .slice a4 n4 c4] (wr.drewN k) fun e w' => e = .returned (.bool true) ∧ ∃ p, w' = (wr.drewN k).drewN p) := fun k => by
        have := quiet_same q3 q6 k
        rwa [decide_eq_true rfl] at this
      have hw9 : IntKind.i64.wrap (((i : Nat) : Int) + 1) = ((i + 1 : Nat) : Int) := by rw [show ((i : Nat) : Int) + 1 = ((i + 1 : Nat) : Int) by omega]; exact IntWalk.i64_in _ (by omega)
      generalize (l.getD i ([], 0)).2 = v at *
      clear q q' q3 q6
      go_wp2_with fail
      go_quiet ((go_at_call 14; exact Calls.quiet_of (hC.out _)))
      go_wp2_with fail
      go_roundw
      case rel => exact ⟨i + 1, (by first | rfl | go_num), by omega, by obtain ⟨k, rfl⟩ := hw.out; exact ⟨k + nq, by simp⟩⟩
      case measure => (simp [intOf]) <;> omega
    · have hlt2 : ¬ (i : Int) < (n : Int) := by omega
      go_wp2_with fail
      go_ret
      obtain ⟨k, rfl⟩ := hw.out
      exact ⟨rfl, below_drewN (Below.refl _ _) k⟩
end Go.Proofs.YtfhdiimcimafkaaGreatDoor
/- The document's Fine of a tree. -/
namespace Go.Proofs.YtfhdiimcimafkaaGreatDoor
open Go.RowKit
/-- whether a tree is canonical -/
def canB : Tr → Bool
  | .nil => true
  | .kid _ t r => canB t && canB r
  | .node _ _ has leaf ks => canB ks && (leaf || decide (2 ≤ (if has then 1 else 0) + (chain ks).length))
theorem canB_iff : ∀ t : Tr, canB t = true ↔ Can t
  | .nil => by simp [canB, Can]
  | .kid b t r => by simp only [canB, Can, Bool.and_eq_true, canB_iff t, canB_iff r]
  | .node bs v has leaf ks => by
    simp only [canB, Can, Bool.and_eq_true, canB_iff ks, Bool.or_eq_true, decide_eq_true_eq]
    cases leaf <;> simp
def FnAsk (N : Nat) : Prop := ∀ (bs : List Nat) (v : Int) (has leaf : Bool) (ks : Tr) (c : List Value) {w : World} {G : Nat → Prop}, tdep (.node bs v has leaf ks) ≤ N → RT w G (.node bs v has leaf ks) none 0 c → (∀ j, G j → j < w.heap.size) → TOk (.node bs v has leaf ks) → tdep (.node bs v has leaf ks) ≤ 1000000 → Calls Tryz.prog 26 #[.agg c.toArray] w (belowPost (.bool (canB (.node bs v has leaf ks))) w)
theorem canB_drop {L : List (Nat × Tr)} {i : Nat} {x : Nat × Tr} (h : L[i]? = some x) : canB (ofL (L.drop i)) = (canB x.2 && canB (ofL (L.drop (i + 1)))) := by
  have hi : i < L.length := (List.getElem?_eq_some_iff.1 h).1
  have e : L[i] = x := (List.getElem?_eq_some_iff.1 h).2
  rw [List.drop_eq_getElem_cons hi, e]; rfl
theorem tdep_ofL2 : ∀ {L : List (Nat × Tr)} {x : Nat × Tr}, x ∈ L → tdep x.2 ≤ tdep (ofL L)
  | y :: L, x, h => by
    show _ ≤ max (tdep y.2) (tdep (ofL L))
    rcases List.mem_cons.1 h with rfl | h
    · omega
    · have := tdep_ofL2 h; omega
set_option maxHeartbeats 4000000 in
set_option maxRecDepth 100000 in
theorem fn_in (N : Nat) (IH : FnAsk N) (bs : List Nat) (v : Int) (has leaf : Bool) (ks : Tr) (c : List Value) {w : World} {G : Nat → Prop} (hdp : tdep ks ≤ N) (hR : RT w G (.node bs v has leaf ks) none 0 c) (hG : ∀ j, G j → j < w.heap.size) (hO : TOk (.node bs v has leaf ks)) (hD : tdep (.node bs v has leaf ks) ≤ 1000000) :
    Calls Tryz.prog 26 #[.agg c.toArray] w (belowPost (.bool (canB (.node bs v has leaf ks))) w) := by
  obtain ⟨pa, pn, pc, ba, bn, bc, ka, rn, kc, rfl, h2, h3, rfl, h5, h6⟩ := hR
  obtain ⟨o1, o2, o3, o4, o5, o6, o7⟩ := hO
  have hR6 := rt_chain h6 o6 o7
  have hke := ofL_chain ks o6 o7
  obtain ⟨L, hL⟩ : ∃ L, L = chain ks := ⟨_, rfl⟩
  rw [← hL] at hR6 hke ⊢
  obtain ⟨m, hm⟩ : ∃ m, m = L.length := ⟨_, rfl⟩
  rw [← hm]
  have hm2 : m ≤ 256 := by have := chain256 o6 o7; rw [← hL, ← hm] at this; exact this
  have hT : canB (.node bs v has leaf ks) = (canB ks && (leaf || decide (2 ≤ (if has then 1 else 0) + m))) := by rw [hm, hL]; rfl
  rw [hT]
  have hkd : (leaf = true ∧ rkind leaf ks = 1 ∧ m = 0) ∨ (leaf = false ∧ 1 < rkind leaf ks) := by
    cases leaf with
    | true => exact Or.inl ⟨rfl, rfl, by rw [hm, hL, (o5 rfl).2]; rfl⟩
    | false => exact Or.inr ⟨rfl, by unfold rkind kindOf; simp; split <;> (try split) <;> (try split) <;> omega⟩
  show Calls _ _ #[.agg #[.int .i64 ((rkind leaf ks : Nat) : Int), .slice pa pn pc, .bool has, .int .u64 v, .slice ba bn bc, .slice ka m kc]] _ _
  obtain ⟨KD, hKD⟩ : ∃ x : Int, x = ((rkind leaf ks : Nat) : Int) := ⟨_, rfl⟩
  rw [← hKD]
  obtain ⟨V, hV⟩ : ∃ V, V = canB ks := ⟨_, rfl⟩
  rw [← hV]
  have HS : Hid (canB (ofL (L.drop 0)) = V) := by show _ = _; rw [List.drop_zero, hke, hV]
  have HOL : Hid (TOk (ofL L)) := by rw [hke]; exact o7
  have HdL : Hid (tdep (ofL L) ≤ N ∧ tdep (ofL L) ≤ 1000000) := by rw [hke]; exact ⟨hdp, by simp only [tdep] at hD; omega⟩
  have H6 := Lib.hid hR6
  have HG := Lib.hid hG
  have HIH := Lib.hid IH
  have hmL := Lib.hid (fun (_ : Unit) => hm)
  obtain ⟨wb, hwb⟩ : ∃ wb, wb = w.alloc (.cells #[.int .i64 KD, .slice pa pn pc, .bool has, .int .u64 v, .slice ba bn bc, .slice ka m kc] rnT) := ⟨_, rfl⟩
  have hbox : wb.heap[w.heap.size]? = some (.cells [.int .i64 KD, .slice pa pn pc, .bool has, .int .u64 v, .slice ba bn bc, .slice ka m kc].toArray rnT (0, 0)) := by rw [hwb]; exact six_new w _ _ _ _ _ _ rnT
  have hB : Hid (Below w.heap.size w wb) := by rw [hwb]; exact below_al w _
  have hall : Hid (∀ X, Below wb.heap.size wb X → X.cell? ⟨w.heap.size, 0, none⟩ = some (.int .i64 KD) ∧ X.cell? ⟨w.heap.size, 2, none⟩ = some (.bool has) ∧ X.cell? ⟨w.heap.size, 5, none⟩ = some (.slice ka m kc)) := fun X hb => by
    obtain ⟨x0, x1, x2, x3, x4, x5, _⟩ := six_facts ((hb.block w.heap.size (Array.getElem?_eq_some_iff.1 hbox).1).trans hbox)
    exact ⟨x0, x2, x5⟩
  obtain ⟨x0, x2, x5⟩ := hall.out wb (Below.refl _ _)
  have hpre : (leaf || decide (2 ≤ (if has then 1 else 0) + m)) = false ∨ (leaf || decide (2 ≤ (if has then 1 else 0) + m)) = true := by cases (leaf || decide (2 ≤ (if has then 1 else 0) + m)) <;> simp
  have hrk : (leaf = true ∧ KD = 1 ∧ m = 0) ∨ (leaf = false ∧ 1 < KD) := by
    rcases hkd with ⟨a, b, c⟩ | ⟨a, b⟩
    · exact Or.inl ⟨a, by rw [hKD, b]; rfl, c⟩
    · exact Or.inr ⟨a, by rw [hKD]; exact Int.ofNat_lt.2 b⟩
  clear h2 h3 h5 h6 o1 o2 o3 o4 o5 o6 o7 hR6 hke hL hkd hKD hdp hD hV hT IH hG hm hbox
  rcases hpre with hpr | hpr
  · rw [hpr, Bool.and_false]
    rcases hrk with ⟨rfl, _, _⟩ | ⟨rfl, hKD⟩
    · simp at hpr
    · have h1 : ¬ 2 ≤ (if has = true then 1 else 0) + m := by simpa using hpr
      have hm' : m = 0 ∨ (m = 1 ∧ has = false) := by
        cases has with
        | true =>
          have h2 : ¬ 2 ≤ 1 + m := h1
          exact Or.inl (by omega)
        | false =>
          have h2 : ¬ 2 ≤ 0 + m := h1
          by_cases e : m = 0
          · exact Or.inl e
          · exact Or.inr ⟨by omega, rfl⟩
      clear h1
      clear hpr
      rcases hm' with rfl | ⟨rfl, rfl⟩
      · go_enter Tryz.func26, Tryz.ntmps26
        go_upto_region 1 with fail
        rw [← hwb]
        clear hwb
        go_wp2_with fail
        go_ret
        exact ⟨rfl, hB.out⟩
      · go_enter Tryz.func26, Tryz.ntmps26
        go_upto_region 1 with fail
        rw [← hwb]
        clear hwb
        go_wp2_with fail
        go_ret
        exact ⟨rfl, hB.out⟩
  · rw [hpr, Bool.and_true]
    have hc : KD = 1 ∨ (1 < KD ∧ ((m : Int) == 0) = false ∧ ((m : Int) == 1) = false) ∨ (1 < KD ∧ ((m : Int) == 0) = false ∧ ((m : Int) == 1) = true ∧ has = true) := by
      rcases hrk with ⟨_, h, _⟩ | ⟨rfl, h⟩
      · exact Or.inl h
      · have h1 : 2 ≤ (if has = true then 1 else 0) + m := by simpa using hpr
        by_cases e : m = 1
        · refine Or.inr (Or.inr ⟨h, by rw [e]; rfl, by rw [e]; rfl, ?_⟩)
          cases has with
          | true => rfl
          | false => simp at h1; omega
        · refine Or.inr (Or.inl ⟨h, ?_, ?_⟩)
          · rw [beq_eq_false_iff_ne]; cases has <;> simp at h1 <;> omega
          · rw [beq_eq_false_iff_ne]; omega
    clear hpr hrk
    go_enter Tryz.func26, Tryz.ntmps26
    go_upto_region 1 with fail
    rw [← hwb]
    clear hwb
    rcases hc with rfl | ⟨hKD, hm0, hm1⟩ | ⟨hKD, hm0, hm1, rfl⟩
    all_goals (
      go_wp2_with fail
      go_loopw [3] (fun v3 wr => ∃ (i : Nat), v3 = .int .i64 (i : Nat) ∧ i ≤ m ∧ Hid (canB (ofL (L.drop i)) = V) ∧ Hid (Below wb.heap.size wb wr)) (fun v3 _ => (m - intOf v3).toNat)
      case atStart => exact ⟨0, rfl, Nat.zero_le _, HS, Below.refl _ _⟩
      case round =>
        clear x0 x2 x5 HS
        obtain ⟨i, rfl, him, hE, hBr⟩ := hrel
        obtain ⟨x0, x2, x5⟩ := hall.out wr hBr.out
        by_cases hlt : i < m
        · have l1 : (i : Int) < (m : Int) := by omega
          have l0 : (0 : Int) ≤ (i : Int) := by omega
          have hiL : i < L.length := by rw [← hmL.out ()]; exact hlt
          obtain ⟨y, hy⟩ : ∃ y, L[i]? = some y := ⟨_, List.getElem?_eq_getElem hiL⟩
          obtain ⟨g, c', hg1, hg2, hg3, hg4, hg5⟩ := rt_at H6.out i y hy
          have hE2 : Hid ((canB y.2 && canB (ofL (L.drop (i + 1)))) = V) := by
            have e := hE.out
            rw [canB_drop hy] at e
            exact e
          obtain ⟨yb, yt⟩ := y
          have hym := List.mem_of_getElem? hy
          have hyT := ((tok_ofL L).1 HOL.out).1 (yb, yt) hym
          have hyD : tdep yt ≤ tdep (ofL L) := tdep_ofL2 hym
          have hyN : tdep yt ≤ N := Nat.le_trans hyD HdL.out.1
          have hyM : tdep yt ≤ 1000000 := Nat.le_trans hyD HdL.out.2
          cases yt with
          | nil => exact hyT.2.1.elim
          | kid => exact hyT.2.1.elim
          | node bs' v' has' leaf' ks' =>
            have hE2 : Hid ((canB (.node bs' v' has' leaf' ks') && canB (ofL (L.drop (i + 1)))) = V) := hE2
            have hg5 : RT w G (.node bs' v' has' leaf' ks') none 0 c' := hg5
            have hdn : Hid (∀ X, Below w.heap.size w X → Calls Tryz.prog 26 #[.agg c'.toArray] X (belowPost (.bool (canB (.node bs' v' has' leaf' ks'))) X)) := fun X hb =>
              HIH.out bs' v' has' leaf' ks' c' hyN (hg5.keep hb.size fun j hj => hb.block j (HG.out j hj)) (fun j hj => Nat.lt_of_lt_of_le (HG.out j hj) hb.size) hyT.2.2 hyM
            obtain ⟨pa', pn', pc', ba', bn', bc', ka', kn', kc', hc', hx'⟩ := hg5
            clear hx'
            subst hc'
            obtain ⟨KD', hKD'⟩ : ∃ x : Int, x = ((rkind leaf' ks' : Nat) : Int) := ⟨_, rfl⟩
            rw [← hKD'] at hdn hg4
            generalize canB (.node bs' v' has' leaf' ks') = u at *
            subst hg1
            rw [Nat.zero_add] at hg4
            have hS : Hid (∀ X, Below w.heap.size w X → X.cell? ⟨g, i * 6, none⟩ = some (.int .i64 KD') ∧ X.cell? ⟨g, i * 6 + 1, none⟩ = some (.slice pa' pn' pc') ∧ X.cell? ⟨g, i * 6 + 2, none⟩ = some (.bool has') ∧ X.cell? ⟨g, i * 6 + 3, none⟩ = some (.int .u64 v') ∧ X.cell? ⟨g, i * 6 + 4, none⟩ = some (.slice ba' bn' bc') ∧ X.cell? ⟨g, i * 6 + 5, none⟩ = some (.slice ka' kn' kc')) := fun X hb => by
              have hgl := HG.out g hg2
              have e : ∀ j, X.cell? ⟨g, j, none⟩ = w.cell? ⟨g, j, none⟩ := fun j => hb.cell (p := ⟨g, j, none⟩) hgl
              exact ⟨by rw [e]; exact hg4 0 (by omega), by rw [e]; exact hg4 1 (by omega), by rw [e]; exact hg4 2 (by omega), by rw [e]; exact hg4 3 (by omega), by rw [e]; exact hg4 4 (by omega), by rw [e]; exact hg4 5 (by omega)⟩
            have hBw := Lib.hid (hB.out.trans (hBr.out.mono hB.out.size))
            obtain ⟨y0, y1, y2, y3, y4, y5⟩ := hS.out wr hBw.out
            have hw9 : IntKind.i64.wrap (((i : Nat) : Int) + 1) = ((i + 1 : Nat) : Int) := by rw [show ((i : Nat) : Int) + 1 = ((i + 1 : Nat) : Int) by omega]; exact IntWalk.i64_in _ (by omega)
            clear hy hiL hg4 hyT hKD' hg3 hym hyD hyN hyM hS hE
            cases u with
            | false =>
              have hVf : false = V := hE2.out
              subst hVf
              go_wp2_with (first
                | (go_at_call 26; refine (hdn.out _ hBw.out).mono ?_; rintro e w7 ⟨rfl, q7⟩
                   have B7 := Lib.hid (hBr.out.trans (q7.mono hBr.out.size))
                   clear q7))
              go_ret
              exact ⟨rfl, hB.out.trans (B7.out.mono hB.out.size)⟩
            | true =>
              go_wp2_with (first
                | (go_at_call 26; refine (hdn.out _ hBw.out).mono ?_; rintro e w7 ⟨rfl, q7⟩
                   have B7 := Lib.hid (hBr.out.trans (q7.mono hBr.out.size))
                   clear q7))
              go_roundw
              case rel => exact ⟨i + 1, (by first | rfl | go_num), by omega, by have e := hE2.out; rw [Bool.true_and] at e; exact e, B7⟩
              case measure => (simp [intOf]) <;> omega
        · have l1 : ¬ (i : Int) < (m : Int) := by omega
          obtain rfl : i = m := by omega
          have hVt : true = V := by
            have e := hE.out
            rw [hmL.out (), List.drop_length] at e
            exact e
          subst hVt
          go_wp2_with fail
          go_ret
          exact ⟨rfl, hB.out.trans (hBr.out.mono hB.out.size)⟩)
theorem fn_any : ∀ N, FnAsk N
  | 0 => fun bs v has leaf ks c w G hd => absurd hd (by simp only [tdep]; omega)
  | N + 1 => fun bs v has leaf ks c w G hd hR hG hO hD => fn_in N (fn_any N) bs v has leaf ks c (by simp only [tdep] at hd; omega) hR hG hO hD
end Go.Proofs.YtfhdiimcimafkaaGreatDoor
/- The document's depth of a tree (XQDep's text, for seats without the chapters 30 and 32). -/
namespace Go.Proofs.YtfhdiimcimafkaaGreatDoor
open Go.RowKit
def DpAsk (N : Nat) : Prop := ∀ (bs : List Nat) (v : Int) (has leaf : Bool) (ks : Tr) (c : List Value) {w : World} {G : Nat → Prop}, tdep (.node bs v has leaf ks) ≤ N → RT w G (.node bs v has leaf ks) none 0 c → (∀ j, G j → j < w.heap.size) → TOk (.node bs v has leaf ks) → tdep (.node bs v has leaf ks) ≤ 1000000 → Calls Tryz.prog 25 #[.agg c.toArray] w (belowPost (.int .i64 (tdep (.node bs v has leaf ks) : Nat)) w)
theorem tdep_drop {L : List (Nat × Tr)} {i : Nat} {x : Nat × Tr} (h : L[i]? = some x) : tdep (ofL (L.drop i)) = max (tdep x.2) (tdep (ofL (L.drop (i + 1)))) := by
  have hi : i < L.length := (List.getElem?_eq_some_iff.1 h).1
  have e : L[i] = x := (List.getElem?_eq_some_iff.1 h).2
  rw [List.drop_eq_getElem_cons hi, e]; rfl
set_option maxHeartbeats 4000000 in
set_option maxRecDepth 100000 in
theorem dp_in (N : Nat) (IH : DpAsk N) (bs : List Nat) (v : Int) (has leaf : Bool) (ks : Tr) (c : List Value) {w : World} {G : Nat → Prop} (hdp : tdep ks ≤ N) (hR : RT w G (.node bs v has leaf ks) none 0 c) (hG : ∀ j, G j → j < w.heap.size) (hO : TOk (.node bs v has leaf ks)) (hD : tdep (.node bs v has leaf ks) ≤ 1000000) :
    Calls Tryz.prog 25 #[.agg c.toArray] w (belowPost (.int .i64 (tdep (.node bs v has leaf ks) : Nat)) w) := by
  obtain ⟨pa, pn, pc, ba, bn, bc, ka, rn, kc, rfl, h2, h3, rfl, h5, h6⟩ := hR
  obtain ⟨o1, o2, o3, o4, o5, o6, o7⟩ := hO
  have hR6 := rt_chain h6 o6 o7
  have hke := ofL_chain ks o6 o7
  obtain ⟨L, hL⟩ : ∃ L, L = chain ks := ⟨_, rfl⟩
  rw [← hL] at hR6 hke ⊢
  obtain ⟨m, hm⟩ : ∃ m, m = L.length := ⟨_, rfl⟩
  rw [← hm]
  have hm2 : m ≤ 256 := by have := chain256 o6 o7; rw [← hL, ← hm] at this; exact this
  have hrk : ((rkind leaf ks : Nat) : Int) ≠ 0 := by
    unfold rkind
    split
    · omega
    · unfold kindOf; split <;> (try split) <;> (try split) <;> omega
  show Calls _ _ #[.agg #[.int .i64 ((rkind leaf ks : Nat) : Int), .slice pa pn pc, .bool has, .int .u64 v, .slice ba bn bc, .slice ka m kc]] _ _
  obtain ⟨KD, hKD⟩ : ∃ x : Int, x = ((rkind leaf ks : Nat) : Int) := ⟨_, rfl⟩
  rw [← hKD] at hrk ⊢
  have hk0 : (KD == 0) = false := by rw [beq_eq_false_iff_ne]; exact hrk
  obtain ⟨V, hV⟩ : ∃ V, V = tdep ks := ⟨_, rfl⟩
  have hT : tdep (.node bs v has leaf ks) = 1 + V := by rw [hV]; rfl
  rw [hT] at hD ⊢
  obtain ⟨Z, hZ⟩ : ∃ Z, Z = 1 + V := ⟨_, rfl⟩
  rw [← hZ] at hD ⊢
  have HZ : Hid (∀ x, x = V → IntKind.i64.wrap ((x : Nat) + 1 : Int) = (Z : Int)) := fun x e => by
    rw [e, show ((V : Nat) : Int) + 1 = ((Z : Nat) : Int) by omega]; exact IntWalk.i64_in _ (by omega)
  have HS : Hid (max 0 (tdep (ofL (L.drop 0))) = V) := by show _ = _; rw [List.drop_zero, hke, hV]; omega
  have HOL : Hid (TOk (ofL L)) := by rw [hke]; exact o7
  have HdL : Hid (tdep (ofL L) ≤ N ∧ tdep (ofL L) ≤ 1000000) := by rw [hke]; exact ⟨hdp, by omega⟩
  have H6 := Lib.hid hR6
  have HG := Lib.hid hG
  have HIH := Lib.hid IH
  have hmL := Lib.hid (fun (_ : Unit) => hm)
  obtain ⟨wb, hwb⟩ : ∃ wb, wb = w.alloc (.cells #[.int .i64 KD, .slice pa pn pc, .bool has, .int .u64 v, .slice ba bn bc, .slice ka m kc] rnT) := ⟨_, rfl⟩
  have hbox : wb.heap[w.heap.size]? = some (.cells [.int .i64 KD, .slice pa pn pc, .bool has, .int .u64 v, .slice ba bn bc, .slice ka m kc].toArray rnT (0, 0)) := by rw [hwb]; exact six_new w _ _ _ _ _ _ rnT
  have hB : Hid (Below w.heap.size w wb) := by rw [hwb]; exact below_al w _
  have hall : Hid (∀ X, Below wb.heap.size wb X → X.cell? ⟨w.heap.size, 0, none⟩ = some (.int .i64 KD) ∧ X.cell? ⟨w.heap.size, 5, none⟩ = some (.slice ka m kc)) := fun X hb => by
    obtain ⟨x0, x1, x2, x3, x4, x5, _⟩ := six_facts ((hb.block w.heap.size (Array.getElem?_eq_some_iff.1 hbox).1).trans hbox)
    exact ⟨x0, x5⟩
  obtain ⟨x0, x5⟩ := hall.out wb (Below.refl _ _)
  clear h2 h3 h5 h6 o1 o2 o3 o4 o5 o6 o7 hR6 hke hL hrk hKD hdp hD hV hT hZ IH hG hm hbox
  go_enter Tryz.func25, Tryz.ntmps25
  go_upto_region 1 with fail
  rw [← hwb]
  clear hwb
  go_wp2_with fail
  go_loopw [3, 4] (fun v3 v4 wr => ∃ (i d : Nat), v3 = .int .i64 (d : Nat) ∧ v4 = .int .i64 (i : Nat) ∧ i ≤ m ∧ Hid (max d (tdep (ofL (L.drop i))) = V) ∧ Hid (Below wb.heap.size wb wr)) (fun _ v4 _ => (m - intOf v4).toNat)
  case atStart => exact ⟨0, 0, rfl, rfl, Nat.zero_le _, HS, Below.refl _ _⟩
  case round =>
    clear x0 x5 HS
    obtain ⟨i, d, rfl, rfl, him, hE, hBr⟩ := hrel
    obtain ⟨x0, x5⟩ := hall.out wr hBr.out
    by_cases hlt : i < m
    · have l1 : (i : Int) < (m : Int) := by omega
      have l0 : (0 : Int) ≤ (i : Int) := by omega
      have hiL : i < L.length := by rw [← hmL.out ()]; exact hlt
      obtain ⟨y, hy⟩ : ∃ y, L[i]? = some y := ⟨_, List.getElem?_eq_getElem hiL⟩
      obtain ⟨g, c', hg1, hg2, hg3, hg4, hg5⟩ := rt_at H6.out i y hy
      have hE2 : Hid (max (max d (tdep y.2)) (tdep (ofL (L.drop (i + 1)))) = V) := by
        have e := hE.out
        rw [tdep_drop hy] at e
        show _ = _
        omega
      obtain ⟨yb, yt⟩ := y
      have hym := List.mem_of_getElem? hy
      have hyT := ((tok_ofL L).1 HOL.out).1 (yb, yt) hym
      have hyD : tdep yt ≤ tdep (ofL L) := tdep_ofL2 hym
      have hyN : tdep yt ≤ N := Nat.le_trans hyD HdL.out.1
      have hyM : tdep yt ≤ 1000000 := Nat.le_trans hyD HdL.out.2
      cases yt with
      | nil => exact hyT.2.1.elim
      | kid => exact hyT.2.1.elim
      | node bs' v' has' leaf' ks' =>
        have hE2 : Hid (max (max d (tdep (.node bs' v' has' leaf' ks'))) (tdep (ofL (L.drop (i + 1)))) = V) := hE2
        have hg5 : RT w G (.node bs' v' has' leaf' ks') none 0 c' := hg5
        have hdn : Hid (∀ X, Below w.heap.size w X → Calls Tryz.prog 25 #[.agg c'.toArray] X (belowPost (.int .i64 (tdep (.node bs' v' has' leaf' ks') : Nat)) X)) := fun X hb =>
          HIH.out bs' v' has' leaf' ks' c' hyN (hg5.keep hb.size fun j hj => hb.block j (HG.out j hj)) (fun j hj => Nat.lt_of_lt_of_le (HG.out j hj) hb.size) hyT.2.2 hyM
        obtain ⟨pa', pn', pc', ba', bn', bc', ka', kn', kc', hc', hx'⟩ := hg5
        clear hx'
        subst hc'
        obtain ⟨KD', hKD'⟩ : ∃ x : Int, x = ((rkind leaf' ks' : Nat) : Int) := ⟨_, rfl⟩
        rw [← hKD'] at hdn hg4
        generalize tdep (.node bs' v' has' leaf' ks') = u at *
        subst hg1
        rw [Nat.zero_add] at hg4
        obtain ⟨z, hz⟩ : ∃ z, z = max d u := ⟨_, rfl⟩
        rw [← hz] at hE2
        have hmx : max (d : Int) (u : Int) = (z : Int) := by omega
        have hS : Hid (∀ X, Below w.heap.size w X → X.cell? ⟨g, i * 6, none⟩ = some (.int .i64 KD') ∧ X.cell? ⟨g, i * 6 + 1, none⟩ = some (.slice pa' pn' pc') ∧ X.cell? ⟨g, i * 6 + 2, none⟩ = some (.bool has') ∧ X.cell? ⟨g, i * 6 + 3, none⟩ = some (.int .u64 v') ∧ X.cell? ⟨g, i * 6 + 4, none⟩ = some (.slice ba' bn' bc') ∧ X.cell? ⟨g, i * 6 + 5, none⟩ = some (.slice ka' kn' kc')) := fun X hb => by
          have hgl := HG.out g hg2
          have e : ∀ j, X.cell? ⟨g, j, none⟩ = w.cell? ⟨g, j, none⟩ := fun j => hb.cell (p := ⟨g, j, none⟩) hgl
          exact ⟨by rw [e]; exact hg4 0 (by omega), by rw [e]; exact hg4 1 (by omega), by rw [e]; exact hg4 2 (by omega), by rw [e]; exact hg4 3 (by omega), by rw [e]; exact hg4 4 (by omega), by rw [e]; exact hg4 5 (by omega)⟩
        have hBw := Lib.hid (hB.out.trans (hBr.out.mono hB.out.size))
        obtain ⟨y0, y1, y2, y3, y4, y5⟩ := hS.out wr hBw.out
        have hw9 : IntKind.i64.wrap (((i : Nat) : Int) + 1) = ((i + 1 : Nat) : Int) := by rw [show ((i : Nat) : Int) + 1 = ((i + 1 : Nat) : Int) by omega]; exact IntWalk.i64_in _ (by omega)
        clear hy hiL hg4 hyT hKD' hg3 hym hyD hyN hyM hS hE hz
        go_wp2_with (first
          | (go_at_call 25; refine (hdn.out _ hBw.out).mono ?_; rintro e w7 ⟨rfl, q7⟩
             have B7 := Lib.hid (hBr.out.trans (q7.mono hBr.out.size))
             clear q7))
        go_roundw
        case rel => exact ⟨i + 1, z, rfl, (by first | rfl | go_num), by omega, hE2, B7⟩
        case measure => (simp [intOf]) <;> omega
    · have l1 : ¬ (i : Int) < (m : Int) := by omega
      obtain rfl : i = m := by omega
      have hdV : d = V := by
        have e := hE.out
        rw [hmL.out (), List.drop_length, show tdep (ofL ([] : List (Nat × Tr))) = 0 from rfl] at e
        omega
      have hzz := HZ.out d hdV
      clear hdV
      go_wp2_with fail
      go_ret
      exact ⟨rfl, hB.out.trans (hBr.out.mono hB.out.size)⟩
theorem dp_any : ∀ N, DpAsk N
  | 0 => fun bs v has leaf ks c w G hd => absurd hd (by simp only [tdep]; omega)
  | N + 1 => fun bs v has leaf ks c w G hd hR hG hO hD => dp_in N (dp_any N) bs v has leaf ks c (by simp only [tdep] at hd; omega) hR hG hO hD
end Go.Proofs.YtfhdiimcimafkaaGreatDoor
/- How many nodes the document's tree has, as the document tells. -/
namespace Go.Proofs.YtfhdiimcimafkaaGreatDoor
open Go.RowKit
def MdAsk (N : Nat) : Prop := ∀ (bs : List Nat) (v : Int) (has leaf : Bool) (ks : Tr) (c : List Value) {w : World} {G : Nat → Prop}, tdep (.node bs v has leaf ks) ≤ N → RT w G (.node bs v has leaf ks) none 0 c → (∀ j, G j → j < w.heap.size) → TOk (.node bs v has leaf ks) → tsz (.node bs v has leaf ks) ≤ 1000000 → Calls Tryz.prog 30 #[.agg c.toArray] w (belowPost (.int .i64 (tsz (.node bs v has leaf ks) : Nat)) w)
theorem tsz_drop {L : List (Nat × Tr)} {i : Nat} {x : Nat × Tr} (h : L[i]? = some x) : tsz (ofL (L.drop i)) = tsz x.2 + tsz (ofL (L.drop (i + 1))) := by
  have hi : i < L.length := (List.getElem?_eq_some_iff.1 h).1
  have e : L[i] = x := (List.getElem?_eq_some_iff.1 h).2
  rw [List.drop_eq_getElem_cons hi, e]; rfl
theorem tsz_ofL2 : ∀ {L : List (Nat × Tr)} {x : Nat × Tr}, x ∈ L → tsz x.2 ≤ tsz (ofL L)
  | y :: L, x, h => by
    show _ ≤ tsz y.2 + tsz (ofL L)
    rcases List.mem_cons.1 h with rfl | h
    · omega
    · have := tsz_ofL2 h; omega
set_option maxHeartbeats 4000000 in
set_option maxRecDepth 100000 in
theorem md_in (N : Nat) (IH : MdAsk N) (bs : List Nat) (v : Int) (has leaf : Bool) (ks : Tr) (c : List Value) {w : World} {G : Nat → Prop} (hdp : tdep ks ≤ N) (hR : RT w G (.node bs v has leaf ks) none 0 c) (hG : ∀ j, G j → j < w.heap.size) (hO : TOk (.node bs v has leaf ks)) (hD : tsz (.node bs v has leaf ks) ≤ 1000000) :
    Calls Tryz.prog 30 #[.agg c.toArray] w (belowPost (.int .i64 (tsz (.node bs v has leaf ks) : Nat)) w) := by
  obtain ⟨pa, pn, pc, ba, bn, bc, ka, rn, kc, rfl, h2, h3, rfl, h5, h6⟩ := hR
  obtain ⟨o1, o2, o3, o4, o5, o6, o7⟩ := hO
  have hR6 := rt_chain h6 o6 o7
  have hke := ofL_chain ks o6 o7
  obtain ⟨L, hL⟩ : ∃ L, L = chain ks := ⟨_, rfl⟩
  rw [← hL] at hR6 hke ⊢
  obtain ⟨m, hm⟩ : ∃ m, m = L.length := ⟨_, rfl⟩
  rw [← hm]
  have hm2 : m ≤ 256 := by have := chain256 o6 o7; rw [← hL, ← hm] at this; exact this
  have hrk : ((rkind leaf ks : Nat) : Int) ≠ 0 := by
    unfold rkind
    split
    · omega
    · unfold kindOf; split <;> (try split) <;> (try split) <;> omega
  show Calls _ _ #[.agg #[.int .i64 ((rkind leaf ks : Nat) : Int), .slice pa pn pc, .bool has, .int .u64 v, .slice ba bn bc, .slice ka m kc]] _ _
  obtain ⟨KD, hKD⟩ : ∃ x : Int, x = ((rkind leaf ks : Nat) : Int) := ⟨_, rfl⟩
  rw [← hKD] at hrk ⊢
  have hk0 : (KD == 0) = false := by rw [beq_eq_false_iff_ne]; exact hrk
  obtain ⟨V, hV⟩ : ∃ V, V = tsz ks := ⟨_, rfl⟩
  have hT : tsz (.node bs v has leaf ks) = 1 + V := by rw [hV]; rfl
  rw [hT] at hD ⊢
  obtain ⟨Z, hZ⟩ : ∃ Z, Z = 1 + V := ⟨_, rfl⟩
  rw [← hZ] at hD ⊢
  have HZ : Hid (Z ≤ 1000000) := hD
  have HS : Hid (1 + tsz (ofL (L.drop 0)) = Z) := by show _ = _; rw [List.drop_zero, hke, hZ, hV]
  have HOL : Hid (TOk (ofL L)) := by rw [hke]; exact o7
  have HdL : Hid (tdep (ofL L) ≤ N ∧ tsz (ofL L) ≤ 1000000) := by rw [hke]; exact ⟨hdp, by omega⟩
  have H6 := Lib.hid hR6
  have HG := Lib.hid hG
  have HIH := Lib.hid IH
  have hmL := Lib.hid (fun (_ : Unit) => hm)
  obtain ⟨wb, hwb⟩ : ∃ wb, wb = w.alloc (.cells #[.int .i64 KD, .slice pa pn pc, .bool has, .int .u64 v, .slice ba bn bc, .slice ka m kc] rnT) := ⟨_, rfl⟩
  have hbox : wb.heap[w.heap.size]? = some (.cells [.int .i64 KD, .slice pa pn pc, .bool has, .int .u64 v, .slice ba bn bc, .slice ka m kc].toArray rnT (0, 0)) := by rw [hwb]; exact six_new w _ _ _ _ _ _ rnT
  have hB : Hid (Below w.heap.size w wb) := by rw [hwb]; exact below_al w _
  have hall : Hid (∀ X, Below wb.heap.size wb X → X.cell? ⟨w.heap.size, 0, none⟩ = some (.int .i64 KD) ∧ X.cell? ⟨w.heap.size, 5, none⟩ = some (.slice ka m kc)) := fun X hb => by
    obtain ⟨x0, x1, x2, x3, x4, x5, _⟩ := six_facts ((hb.block w.heap.size (Array.getElem?_eq_some_iff.1 hbox).1).trans hbox)
    exact ⟨x0, x5⟩
  obtain ⟨x0, x5⟩ := hall.out wb (Below.refl _ _)
  clear h2 h3 h5 h6 o1 o2 o3 o4 o5 o6 o7 hR6 hke hL hrk hKD hdp hD hV hT hZ IH hG hm hbox
  go_enter Tryz.func30, Tryz.ntmps30
  go_upto_region 1 with fail
  rw [← hwb]
  clear hwb
  go_wp2_with fail
  go_loopw [3, 4] (fun v3 v4 wr => ∃ (i d : Nat), v3 = .int .i64 (d : Nat) ∧ v4 = .int .i64 (i : Nat) ∧ i ≤ m ∧ Hid (d + tsz (ofL (L.drop i)) = Z) ∧ Hid (Below wb.heap.size wb wr)) (fun _ v4 _ => (m - intOf v4).toNat)
  case atStart => exact ⟨0, 1, rfl, rfl, Nat.zero_le _, HS, Below.refl _ _⟩
  case round =>
    clear x0 x5 HS
    obtain ⟨i, d, rfl, rfl, him, hE, hBr⟩ := hrel
    obtain ⟨x0, x5⟩ := hall.out wr hBr.out
    by_cases hlt : i < m
    · have l1 : (i : Int) < (m : Int) := by omega
      have l0 : (0 : Int) ≤ (i : Int) := by omega
      have hiL : i < L.length := by rw [← hmL.out ()]; exact hlt
      obtain ⟨y, hy⟩ : ∃ y, L[i]? = some y := ⟨_, List.getElem?_eq_getElem hiL⟩
      obtain ⟨g, c', hg1, hg2, hg3, hg4, hg5⟩ := rt_at H6.out i y hy
      have hE2 : Hid (d + tsz y.2 + tsz (ofL (L.drop (i + 1))) = Z) := by
        have e := hE.out
        rw [tsz_drop hy] at e
        show _ = _
        omega
      obtain ⟨yb, yt⟩ := y
      have hym := List.mem_of_getElem? hy
      have hyT := ((tok_ofL L).1 HOL.out).1 (yb, yt) hym
      have hyD : tdep yt ≤ tdep (ofL L) := tdep_ofL2 hym
      have hyN : tdep yt ≤ N := Nat.le_trans hyD HdL.out.1
      have hyM : tsz yt ≤ 1000000 := Nat.le_trans (tsz_ofL2 hym) HdL.out.2
      cases yt with
      | nil => exact hyT.2.1.elim
      | kid => exact hyT.2.1.elim
      | node bs' v' has' leaf' ks' =>
        have hE2 : Hid (d + tsz (.node bs' v' has' leaf' ks') + tsz (ofL (L.drop (i + 1))) = Z) := hE2
        have hg5 : RT w G (.node bs' v' has' leaf' ks') none 0 c' := hg5
        have hdn : Hid (∀ X, Below w.heap.size w X → Calls Tryz.prog 30 #[.agg c'.toArray] X (belowPost (.int .i64 (tsz (.node bs' v' has' leaf' ks') : Nat)) X)) := fun X hb =>
          HIH.out bs' v' has' leaf' ks' c' hyN (hg5.keep hb.size fun j hj => hb.block j (HG.out j hj)) (fun j hj => Nat.lt_of_lt_of_le (HG.out j hj) hb.size) hyT.2.2 hyM
        obtain ⟨pa', pn', pc', ba', bn', bc', ka', kn', kc', hc', hx'⟩ := hg5
        clear hx'
        subst hc'
        obtain ⟨KD', hKD'⟩ : ∃ x : Int, x = ((rkind leaf' ks' : Nat) : Int) := ⟨_, rfl⟩
        rw [← hKD'] at hdn hg4
        generalize tsz (.node bs' v' has' leaf' ks') = u at *
        subst hg1
        rw [Nat.zero_add] at hg4
        obtain ⟨z, hz⟩ : ∃ z, z = d + u := ⟨_, rfl⟩
        rw [← hz] at hE2
        have hmx : IntKind.i64.wrap ((d : Int) + (u : Int)) = (z : Int) := by
          have h1 := hE2.out
          have h2 := HZ.out
          rw [show (d : Int) + (u : Int) = (z : Int) by omega]; exact IntWalk.i64_in _ (by omega)
        have hS : Hid (∀ X, Below w.heap.size w X → X.cell? ⟨g, i * 6, none⟩ = some (.int .i64 KD') ∧ X.cell? ⟨g, i * 6 + 1, none⟩ = some (.slice pa' pn' pc') ∧ X.cell? ⟨g, i * 6 + 2, none⟩ = some (.bool has') ∧ X.cell? ⟨g, i * 6 + 3, none⟩ = some (.int .u64 v') ∧ X.cell? ⟨g, i * 6 + 4, none⟩ = some (.slice ba' bn' bc') ∧ X.cell? ⟨g, i * 6 + 5, none⟩ = some (.slice ka' kn' kc')) := fun X hb => by
          have hgl := HG.out g hg2
          have e : ∀ j, X.cell? ⟨g, j, none⟩ = w.cell? ⟨g, j, none⟩ := fun j => hb.cell (p := ⟨g, j, none⟩) hgl
          exact ⟨by rw [e]; exact hg4 0 (by omega), by rw [e]; exact hg4 1 (by omega), by rw [e]; exact hg4 2 (by omega), by rw [e]; exact hg4 3 (by omega), by rw [e]; exact hg4 4 (by omega), by rw [e]; exact hg4 5 (by omega)⟩
        have hBw := Lib.hid (hB.out.trans (hBr.out.mono hB.out.size))
        obtain ⟨y0, y1, y2, y3, y4, y5⟩ := hS.out wr hBw.out
        have hw9 : IntKind.i64.wrap (((i : Nat) : Int) + 1) = ((i + 1 : Nat) : Int) := by rw [show ((i : Nat) : Int) + 1 = ((i + 1 : Nat) : Int) by omega]; exact IntWalk.i64_in _ (by omega)
        clear hy hiL hg4 hyT hKD' hg3 hym hyD hyN hyM hS hE hz
        go_wp2_with (first
          | (go_at_call 30; refine (hdn.out _ hBw.out).mono ?_; rintro e w7 ⟨rfl, q7⟩
             have B7 := Lib.hid (hBr.out.trans (q7.mono hBr.out.size))
             clear q7))
        go_roundw
        case rel => exact ⟨i + 1, z, rfl, (by first | rfl | go_num), by omega, hE2, B7⟩
        case measure => (simp [intOf]) <;> omega
    · have l1 : ¬ (i : Int) < (m : Int) := by omega
      obtain rfl : i = m := by omega
      have hdV : d = Z := by
        have e := hE.out
        rw [hmL.out (), List.drop_length, show tsz (ofL ([] : List (Nat × Tr))) = 0 from rfl] at e
        omega
      subst hdV
      go_wp2_with fail
      go_ret
      exact ⟨rfl, hB.out.trans (hBr.out.mono hB.out.size)⟩
theorem md_any : ∀ N, MdAsk N
  | 0 => fun bs v has leaf ks c w G hd => absurd hd (by simp only [tdep]; omega)
  | N + 1 => fun bs v has leaf ks c w G hd hR hG hO hD => md_in N (md_any N) bs v has leaf ks c (by simp only [tdep] at hd; omega) hR hG hO hD
end Go.Proofs.YtfhdiimcimafkaaGreatDoor
/- The document's Digits. -/
namespace Go.Proofs.YtfhdiimcimafkaaGreatDoor
open Go.RowKit
theorem dec_split (u : Nat) : decU u = if u < 10 then [UInt8.ofNat (48 + u)] else decU (u / 10) ++ [UInt8.ofNat (48 + u % 10)] := by
  unfold decU
  conv => lhs; unfold Lib.decDigits
  split <;> rfl
theorem dig_ext (d : Nat) (h : d < 10) : (⟨#[48, 49, 50, 51, 52, 53, 54, 55, 56, 57]⟩ : ByteArray).extract d (d + 1) = ⟨[UInt8.ofNat (48 + d)].toArray⟩ := by
  have : d = 0 ∨ d = 1 ∨ d = 2 ∨ d = 3 ∨ d = 4 ∨ d = 5 ∨ d = 6 ∨ d = 7 ∨ d = 8 ∨ d = 9 := by omega
  rcases this with rfl | rfl | rfl | rfl | rfl | rfl | rfl | rfl | rfl | rfl <;> decide
set_option maxHeartbeats 1000000 in
theorem ref_digits (w : World) (u : Nat) (hu : u < 18446744073709551616) : Calls Tryz.prog 56 #[.int .u64 (u : Nat)] w (belowPost (.string ⟨(decU u).toArray⟩) w) := by
  have hB : Hid (∃ k, w = w.drewN k) := ⟨0, rfl⟩
  go_enter Tryz.func56, Tryz.ntmps56
  go_wp2_with fail
  go_loopw [0, 3] (fun v0 v3 wr => ∃ (m : Nat) (t : ByteArray), v0 = .int .u64 (m : Nat) ∧ v3 = .string t ∧ m < 18446744073709551616 ∧ t.size ≤ 100 ∧ Hid (∃ acc : List UInt8, t = ⟨acc.toArray⟩ ∧ decU m ++ acc = decU u) ∧ Hid (Below w.heap.size w wr)) (fun v0 _ _ => (intOf v0).toNat)
  case atStart => exact ⟨u, ⟨#[]⟩, rfl, rfl, hu, by decide, ⟨[], rfl, by simp⟩, Below.refl _ _⟩
  case round =>
    obtain ⟨m, t, rfl, rfl, hm, ht, hA, B⟩ := hrel
    obtain ⟨d, hd⟩ : ∃ d, d = m % 10 := ⟨_, rfl⟩
    obtain ⟨q, hq⟩ : ∃ q, q = m / 10 := ⟨_, rfl⟩
    have hd10 : d < 10 := by omega
    have hqi : (m : Int) / 10 = (q : Nat) := by omega
    have hdi : (m : Int) % 10 = (d : Nat) := by omega
    have hd1 : (d : Int) < 10 := by omega
    have hd2 : (d : Int) + 1 ≤ 10 := by omega
    have hd0 : (0 : Int) ≤ (d : Int) := by omega
    have hw1 : IntKind.i64.wrap ((d : Int) + 1) = ((d + 1 : Nat) : Int) := by rw [show (d : Int) + 1 = ((d + 1 : Nat) : Int) by omega]; exact IntWalk.i64_in _ (by omega)
    obtain ⟨X, hX⟩ : ∃ X : ByteArray, X = (⟨#[48, 49, 50, 51, 52, 53, 54, 55, 56, 57]⟩ : ByteArray).extract d (d + 1) ++ t := ⟨_, rfl⟩
    have hXa : Hid (∀ acc : List UInt8, t = ⟨acc.toArray⟩ → X = ⟨(UInt8.ofNat (48 + d) :: acc).toArray⟩) := fun acc e => by rw [hX, dig_ext d hd10, e, cat_str]; rfl
    by_cases hq0 : q = 0
    · have hq1 : ((q : Nat) : Int) = 0 := by omega
      have hE : Hid (X = ⟨(decU u).toArray⟩) := by
        obtain ⟨acc, e1, e2⟩ := hA.out
        show _ = _
        rw [hXa.out acc e1, ← e2, dec_split m, if_pos (by omega), show m = d by omega]
        rfl
      rw [hq1] at hqi
      clear hA hB hd hq hXa
      go_wp2_with fail
      go_ret
      rw [← hX, hE.out]
      exact ⟨rfl, B.out⟩
    · have hq1 : ((q : Nat) : Int) ≠ 0 := by omega
      have hq2 : (((q : Nat) : Int) == 0) = false := by rw [beq_eq_false_iff_ne]; exact hq1
      have hE : Hid (∃ acc : List UInt8, X = ⟨acc.toArray⟩ ∧ decU q ++ acc = decU u) := by
        obtain ⟨acc, e1, e2⟩ := hA.out
        refine ⟨_, hXa.out acc e1, ?_⟩
        rw [← e2, dec_split m, if_neg (by omega), ← hq, ← hd, List.append_assoc]
        rfl
      have hXs : X.size ≤ 100 := by
        obtain ⟨acc, e1, e2⟩ := hE.out
        have := congrArg List.length e2
        have hl := decU_len hu
        rw [List.length_append] at this
        rw [e1]
        show acc.toArray.size ≤ 100
        rw [List.size_toArray]
        omega
      have hqm : q < m := by omega
      have hqu : q < 18446744073709551616 := by omega
      clear hA hB hd hq hXa hq1
      go_wp2_with fail
      go_roundw
      case rel => exact ⟨q, X, rfl, by rw [hX], hqu, hXs, hE, B⟩
      case measure => (simp [intOf]) <;> omega
end Go.Proofs.YtfhdiimcimafkaaGreatDoor
/- The document's Text. -/
namespace Go.Proofs.YtfhdiimcimafkaaGreatDoor
open Go.RowKit
abbrev hexA : ByteArray := ⟨#[48, 49, 50, 51, 52, 53, 54, 55, 56, 57, 97, 98, 99, 100, 101, 102]⟩
theorem hex_ext (d : Nat) (h : d < 16) : hexA.extract d (d + 1) = ⟨[UInt8.ofNat (hexN d)].toArray⟩ := by
  have : d = 0 ∨ d = 1 ∨ d = 2 ∨ d = 3 ∨ d = 4 ∨ d = 5 ∨ d = 6 ∨ d = 7 ∨ d = 8 ∨ d = 9 ∨ d = 10 ∨ d = 11 ∨ d = 12 ∨ d = 13 ∨ d = 14 ∨ d = 15 := by omega
  rcases this with rfl | rfl | rfl | rfl | rfl | rfl | rfl | rfl | rfl | rfl | rfl | rfl | rfl | rfl | rfl | rfl <;> decide
set_option maxHeartbeats 1000000 in
theorem ref_digs (w : World) (b : Nat) (hb : b < 256) : Calls Tryz.prog 79 #[.int .u8 (b : Nat)] w (belowPost (.string ⟨(u8s (hexL [b])).toArray⟩) w) := by
  obtain ⟨h, hh⟩ : ∃ h, h = b / 16 := ⟨_, rfl⟩
  obtain ⟨d, hd⟩ : ∃ d, d = b % 16 := ⟨_, rfl⟩
  have e1 : (b : Int) / 16 = (h : Nat) := by omega
  have e2 : (b : Int) % 16 = (d : Nat) := by omega
  have h1 : (h : Int) + 1 ≤ 16 := by omega
  have h2 : (h : Int) < 16 := by omega
  have h0 : (0 : Int) ≤ (h : Int) := by omega
  have d1 : (d : Int) + 1 ≤ 16 := by omega
  have d2 : (d : Int) < 16 := by omega
  have d0 : (0 : Int) ≤ (d : Int) := by omega
  have b0 : (b : Int) < 256 := by omega
  have hw1 : IntKind.i64.wrap ((h : Int) + 1) = ((h + 1 : Nat) : Int) := by rw [show (h : Int) + 1 = ((h + 1 : Nat) : Int) by omega]; exact IntWalk.i64_in _ (by omega)
  have hw2 : IntKind.i64.wrap ((d : Int) + 1) = ((d + 1 : Nat) : Int) := by rw [show (d : Int) + 1 = ((d + 1 : Nat) : Int) by omega]; exact IntWalk.i64_in _ (by omega)
  have hE : Hid (hexA.extract h (h + 1) ++ hexA.extract d (d + 1) = ⟨(u8s (hexL [b])).toArray⟩) := by
    show _ = _
    rw [hex_ext h (by omega), hex_ext d (by omega), cat_str, hh, hd]
    rfl
  clear hh hd
  go_enter Tryz.func79, Tryz.ntmps79
  go_wp2_with fail
  rw [e2]
  go_region
  go_wp2_with fail
  go_ret
  exact ⟨congrArg (fun x => Ending.returned (.string x)) hE.out, (Below.refl _ w).drew⟩
set_option maxHeartbeats 1000000 in
theorem ref_text {w : World} {a : Option Addr} {n c : Nat} {bs : List Nat} (h : Sl w a n c bs) (hn : n ≤ 400000) : Calls Tryz.prog 55 #[.slice a n c] w (belowPost (.string ⟨(u8s (hexL bs)).toArray⟩) w) := by
  have H := Lib.hid h
  have hl := Lib.hid h.len
  have hB : Hid (Below w.heap.size w w) := Below.refl _ w
  have hS0 : Hid ((⟨#[]⟩ : ByteArray) = ⟨(u8s (hexL (bs.take 0))).toArray⟩) := rfl
  clear h
  go_enter Tryz.func55, Tryz.ntmps55
  go_wp2_with fail
  go_loopw [4, 3] (fun v4 v3 wr => ∃ (i : Nat) (t : ByteArray), v4 = .int .i64 (i : Nat) ∧ v3 = .string t ∧ i ≤ n ∧ Hid (t = ⟨(u8s (hexL (bs.take i))).toArray⟩) ∧ Hid (Below w.heap.size w wr)) (fun v4 _ _ => (n - intOf v4).toNat)
  case atStart => exact ⟨0, ⟨#[]⟩, rfl, rfl, Nat.zero_le _, hS0, hB⟩
  case round =>
    clear hS0 hB
    obtain ⟨i, t, rfl, rfl, hi, hT, B⟩ := hrel
    by_cases hlt : i < n
    · have l1 : (i : Int) < (n : Int) := by omega
      have l0 : (0 : Int) ≤ (i : Int) := by omega
      have hib : i < bs.length := by rw [hl.out]; exact hlt
      obtain ⟨p, rfl, q1, q2⟩ := (H.out.below B.out).at_.2 i hib
      have hb8 := (H.out.at_.1) (bs.getD i 0) (by simp [List.getD, List.getElem?_eq_getElem hib])
      have htk : bs.take (i + 1) = bs.take i ++ [bs.getD i 0] := by rw [List.take_succ_eq_append_getElem hib]; simp [List.getD, List.getElem?_eq_getElem hib]
      generalize bs.getD i 0 = b at *
      obtain ⟨X, hX⟩ : ∃ X : ByteArray, X = ⟨(u8s (hexL [b])).toArray⟩ := ⟨_, rfl⟩
      have hDg : Hid (Calls Tryz.prog 79 #[.int .u8 (b : Nat)] wr (belowPost (.string X) wr)) := by rw [hX]; exact ref_digs wr b hb8
      have hT2 : Hid (t ++ X = ⟨(u8s (hexL (bs.take (i + 1)))).toArray⟩) := by
        show _ = _
        rw [hT.out, hX, cat_str, htk, ← u8s_app]
        unfold hexL
        rw [List.flatMap_append]
      have hts : t.size ≤ 800000 := by
        rw [hT.out]; show (u8s (hexL (bs.take i))).toArray.size ≤ _
        rw [List.size_toArray, u8s, List.length_map, hexL_len, List.length_take]; omega
      have hXs : X.size = 2 := by rw [hX]; rfl
      have hsz : ¬ 9223372036854775807 < t.size + X.size := by omega
      have hw9 : IntKind.i64.wrap (((i : Nat) : Int) + 1) = ((i + 1 : Nat) : Int) := by rw [show ((i : Nat) : Int) + 1 = ((i + 1 : Nat) : Int) by omega]; exact IntWalk.i64_in _ (by omega)
      clear hT hX htk hb8 hib q1 hts hXs
      go_wp2_with (go_at_call 79; refine hDg.out.mono ?_; rintro e w1 ⟨rfl, z⟩; have B1 := Lib.hid (B.out.trans (z.mono B.out.size)); clear z)
      go_roundw
      case rel => exact ⟨i + 1, t ++ X, (by first | rfl | go_num), rfl, by omega, hT2, B1⟩
      case measure => (simp [intOf]) <;> omega
    · have l1 : ¬ (i : Int) < (n : Int) := by omega
      obtain rfl : i = n := by omega
      have hT2 : t = ⟨(u8s (hexL bs)).toArray⟩ := by
        rw [hT.out, List.take_of_length_le (by rw [hl.out]; exact Nat.le_refl _)]
      clear hT
      go_wp2_with fail
      go_ret
      exact ⟨rfl, B.out⟩
end Go.Proofs.YtfhdiimcimafkaaGreatDoor
/- The document's Shape of a tree. -/
namespace Go.Proofs.YtfhdiimcimafkaaGreatDoor
open Go.RowKit
def SpAsk (N : Nat) : Prop := ∀ (bs : List Nat) (v : Int) (has leaf : Bool) (ks : Tr) (c : List Value) {w : World} {G : Nat → Prop}, tdep (.node bs v has leaf ks) ≤ N → RT w G (.node bs v has leaf ks) none 0 c → (∀ j, G j → j < w.heap.size) → TOk (.node bs v has leaf ks) → tway (.node bs v has leaf ks) ≤ 400000 → (shp (.node bs v has leaf ks)).length ≤ 40000000 → Calls Tryz.prog 23 #[.agg c.toArray] w (belowPost (.string ⟨(shp (.node bs v has leaf ks)).toArray⟩) w)
theorem shp_drop {L : List (Nat × Tr)} {i : Nat} {x : Nat × Tr} (h : L[i]? = some x) : shp (ofL (L.drop i)) = 58 :: (u8s (hexL [x.1]) ++ (shp x.2 ++ shp (ofL (L.drop (i + 1))))) := by
  have hi : i < L.length := (List.getElem?_eq_some_iff.1 h).1
  have e : L[i] = x := (List.getElem?_eq_some_iff.1 h).2
  rw [List.drop_eq_getElem_cons hi, e]; rfl
theorem tway_ofL2 : ∀ {L : List (Nat × Tr)} {x : Nat × Tr}, x ∈ L → tway x.2 ≤ tway (ofL L)
  | y :: L, x, h => by
    show _ ≤ max (1 + tway y.2) (tway (ofL L))
    rcases List.mem_cons.1 h with rfl | h
    · omega
    · have := tway_ofL2 h; omega
theorem ba_size (l : List UInt8) : (⟨l.toArray⟩ : ByteArray).size = l.length := by simp [ByteArray.size]
theorem hex_size (bs : List Nat) : (⟨(u8s (hexL bs)).toArray⟩ : ByteArray).size = 2 * bs.length := by rw [ba_size]; simp [u8s, hexL_len]
set_option maxHeartbeats 2000000 in
set_option maxRecDepth 100000 in
/-- a leaf's shape -/
theorem sp_leaf_ (bs : List Nat) (v : Int) (c : List Value) {w : World} {G : Nat → Prop} (hR : RT w G (.node bs v true true .nil) none 0 c) (hO : TOk (.node bs v true true .nil)) (hw : bs.length ≤ 400000) :
    Calls Tryz.prog 23 #[.agg c.toArray] w (belowPost (.string ⟨(shp (.node bs v true true .nil)).toArray⟩) w) := by
  obtain ⟨pa, pn, pc, ba, bn, bc, ka, rn, kc, rfl, h2, h3, rfl, h5, h6⟩ := hR
  obtain ⟨o1, o2, o3, o4, o5, o6, o7⟩ := hO
  obtain ⟨y, rfl⟩ : ∃ y : Nat, v = (y : Nat) := ⟨v.toNat, by omega⟩
  have hy : y < 18446744073709551616 := by omega
  show Calls _ _ #[.agg #[.int .i64 1, .slice pa pn pc, .bool true, .int .u64 (y : Nat), .slice ba bn bc, .slice ka 0 kc]] _ _
  obtain ⟨tx, htx⟩ : ∃ s : ByteArray, s = ⟨(u8s (hexL bs)).toArray⟩ := ⟨_, rfl⟩
  obtain ⟨sv, hsv⟩ : ∃ s : ByteArray, s = ⟨(decU y).toArray⟩ := ⟨_, rfl⟩
  obtain ⟨X1, hX1⟩ : ∃ s : ByteArray, (⟨#[76]⟩ : ByteArray) ++ tx = s := ⟨_, rfl⟩
  obtain ⟨X2, hX2⟩ : ∃ s : ByteArray, X1 ++ ⟨#[61]⟩ = s := ⟨_, rfl⟩
  obtain ⟨X3, hX3⟩ : ∃ s : ByteArray, X2 ++ sv = s := ⟨_, rfl⟩
  have e1 : X1 = ⟨(76 :: u8s (hexL bs)).toArray⟩ := by rw [← hX1, htx]; exact cat_str [76] _
  have e2 : X2 = ⟨(76 :: u8s (hexL bs) ++ [61]).toArray⟩ := by rw [← hX2, e1]; exact cat_str _ [61]
  have e3 : X3 = ⟨(shp (.node bs (y : Nat) true true .nil)).toArray⟩ := by rw [← hX3, e2, hsv, cat_str]; simp [shp]
  have d1 := decU_len hy
  have t1 : tx.size ≤ 800000 := by rw [htx, hex_size]; omega
  have t2 : sv.size ≤ 20 := by rw [hsv, ba_size]; exact d1
  have t3 : X1.size ≤ 800001 := by rw [e1, ba_size]; simp [u8s, hexL_len]; omega
  have t4 : X2.size ≤ 800002 := by rw [e2, ba_size]; simp [u8s, hexL_len]; omega
  have n1 : ¬ 9223372036854775807 < 1 + tx.size := by omega
  have n2 : ¬ 9223372036854775807 < X1.size + 1 := by omega
  have n3 : ¬ 9223372036854775807 < X2.size + sv.size := by omega
  have E3 := Lib.hid e3
  obtain ⟨wb, hwb⟩ : ∃ wb, wb = w.alloc (.cells #[.int .i64 1, .slice pa pn pc, .bool true, .int .u64 (y : Nat), .slice ba bn bc, .slice ka 0 kc] rnT) := ⟨_, rfl⟩
  have hbox : wb.heap[w.heap.size]? = some (.cells [.int .i64 1, .slice pa pn pc, .bool true, .int .u64 (y : Nat), .slice ba bn bc, .slice ka 0 kc].toArray rnT (0, 0)) := by rw [hwb]; exact six_new w _ _ _ _ _ _ rnT
  have hB : Hid (Below w.heap.size w wb) := by rw [hwb]; exact below_al w _
  have hall : Hid (∀ X, Below wb.heap.size wb X → X.cell? ⟨w.heap.size, 0, none⟩ = some (.int .i64 1) ∧ X.cell? ⟨w.heap.size, 1, none⟩ = some (.slice pa pn pc) ∧ X.cell? ⟨w.heap.size, 3, none⟩ = some (.int .u64 (y : Nat))) := fun X hb => by
    obtain ⟨x0, x1, x2, x3, x4, x5, _⟩ := six_facts ((hb.block w.heap.size (Array.getElem?_eq_some_iff.1 hbox).1).trans hbox)
    exact ⟨x0, x1, x3⟩
  obtain ⟨x0, x1, x3⟩ := hall.out wb (Below.refl _ _)
  have hTx : Hid (∀ X, Below w.heap.size w X → Calls Tryz.prog 55 #[.slice pa pn pc] X (belowPost (.string tx) X)) := fun X hb => by rw [htx]; exact ref_text (h2.sl.below hb) (by rw [← h2.sl.len]; omega)
  have hDg : Hid (∀ X, Calls Tryz.prog 56 #[.int .u64 (y : Nat)] X (belowPost (.string sv) X)) := fun X => by rw [hsv]; exact ref_digits X y hy
  have Hx1 := Lib.hid hX1
  have Hx2 := Lib.hid hX2
  have Hx3 := Lib.hid hX3
  have R0 := Lib.hid (Below.refl wb.heap.size wb)
  have R1 : Hid (Below wb.heap.size wb wb.drew) := (Below.refl wb.heap.size wb).drew
  clear h2 h3 h5 h6 o1 o2 o3 o4 o5 o6 o7 hbox e1 e2 e3 htx hsv d1 hy hw
  go_enter Tryz.func23, Tryz.ntmps23
  go_upto_region 1 with fail
  rw [← hwb]
  clear hwb
  go_wp2_with fail
  go_region_held3 (fun w' => w'.cell? ⟨w.heap.size, 0, none⟩ = some (.int .i64 1) ∧ w'.cell? ⟨w.heap.size, 1, none⟩ = some (.slice pa pn pc) ∧ w'.cell? ⟨w.heap.size, 3, none⟩ = some (.int .u64 (y : Nat)))
    (first | exact hall.out _ B2.out | exact hall.out _ B1.out | exact hall.out _ R1.out | exact hall.out _ R0.out)
    (first
      | (go_simp; go_at_call 56; have g0 := B1; refine (hDg.out _).mono ?_; rintro e w2 ⟨rfl, z⟩; have B2 := Lib.hid (B1.out.trans (z.mono B1.out.size)); clear z)
      | (go_simp; go_at_call 55; refine (hTx.out _ (hB.out.trans (R1.out.mono hB.out.size))).mono ?_; rintro e w1 ⟨rfl, z⟩; have B1 := Lib.hid (R1.out.trans (z.mono R1.out.size)); clear z))
  (try simp only [Exit.then, Exit.inBlock])
  go_wp2_with fail
  go_ret
  exact ⟨by rw [E3.out]; rfl, hB.out.trans (B2.out.mono hB.out.size)⟩
end Go.Proofs.YtfhdiimcimafkaaGreatDoor
/- The document's Shape of an inner node. -/
namespace Go.Proofs.YtfhdiimcimafkaaGreatDoor
open Go.RowKit
set_option maxHeartbeats 8000000 in
set_option maxRecDepth 100000 in
theorem sp_in_true (N : Nat) (IH : SpAsk N) (bs : List Nat) (v : Int) (ks : Tr) (c : List Value) {w : World} {G : Nat → Prop} (hdp : tdep ks ≤ N) (hR : RT w G (.node bs v true false ks) none 0 c) (hG : ∀ j, G j → j < w.heap.size) (hO : TOk (.node bs v true false ks)) (hw : tway (.node bs v true false ks) ≤ 400000) (hL40 : (shp (.node bs v true false ks)).length ≤ 40000000) :
    Calls Tryz.prog 23 #[.agg c.toArray] w (belowPost (.string ⟨(shp (.node bs v true false ks)).toArray⟩) w) := by
  obtain ⟨pa, pn, pc, ba, bn, bc, ka, rn, rc, rfl, h2, h3, rfl, h5, h6⟩ := hR
  obtain ⟨o1, o2, o3, o4, o5, o6, o7⟩ := hO
  obtain ⟨y, rfl⟩ : ∃ y : Nat, v = (y : Nat) := ⟨v.toNat, by omega⟩
  have hy : y < 18446744073709551616 := by omega
  have hR6 := rt_chain h6 o6 o7
  have hke := ofL_chain ks o6 o7
  have hkc := krowC_chain ks o6
  obtain ⟨L, hL⟩ : ∃ L, L = chain ks := ⟨_, rfl⟩
  rw [← hL] at hR6 hke hkc ⊢
  rw [← hL] at h3
  obtain ⟨m, hm⟩ : ∃ m, m = L.length := ⟨_, rfl⟩
  rw [← hm] at hkc ⊢
  have hm2 : m ≤ 256 := by have := chain256 o6 o7; rw [← hL, ← hm] at this; exact this
  obtain ⟨kd, hkd⟩ : ∃ kd, kd = kindOf m := ⟨_, rfl⟩
  have hrk : rkind false ks = kd := by rw [hkd]; unfold rkind; simp only [Bool.false_eq_true, if_false]; rw [← hL, ← hm]
  show Calls _ _ #[.agg #[.int .i64 ((rkind false ks : Nat) : Int), .slice pa pn pc, .bool true, .int .u64 (y : Nat), .slice ba bn bc, .slice ka m rc]] _ _
  rw [hrk]
  have hkd1 : 1 < kd ∧ kd ≤ 256 := by rw [hkd]; unfold kindOf; split <;> (try split) <;> (try split) <;> omega
  have hk0 : ((kd : Int) == 0) = false := by rw [beq_eq_false_iff_ne]; omega
  have hk1 : ((kd : Int) == 1) = false := by rw [beq_eq_false_iff_ne]; omega
  have hkw : IntKind.u64.wrap (kd : Int) = (kd : Int) := by
    show (kd : Int) % 18446744073709551616 = _
    omega
  obtain ⟨tx, htx⟩ : ∃ s : ByteArray, s = ⟨(u8s (hexL bs)).toArray⟩ := ⟨_, rfl⟩
  obtain ⟨dk, hdk⟩ : ∃ s : ByteArray, s = ⟨(decU kd).toArray⟩ := ⟨_, rfl⟩
  obtain ⟨sv, hsv⟩ : ∃ s : ByteArray, s = ⟨(decU y).toArray⟩ := ⟨_, rfl⟩
  obtain ⟨X1, hX1⟩ : ∃ s : ByteArray, dk ++ ⟨#[60]⟩ = s := ⟨_, rfl⟩
  obtain ⟨X2, hX2⟩ : ∃ s : ByteArray, X1 ++ tx = s := ⟨_, rfl⟩
  obtain ⟨X3, hX3⟩ : ∃ s : ByteArray, (⟨#[61]⟩ : ByteArray) ++ sv = s := ⟨_, rfl⟩
  obtain ⟨X4, hX4⟩ : ∃ s : ByteArray, X2 ++ X3 = s := ⟨_, rfl⟩
  have e1 : X1 = ⟨(decU kd ++ [60]).toArray⟩ := by rw [← hX1, hdk]; exact cat_str _ [60]
  have e2 : X2 = ⟨(decU kd ++ [60] ++ u8s (hexL bs)).toArray⟩ := by rw [← hX2, e1, htx, cat_str]
  have e3 : X3 = ⟨(61 :: decU y).toArray⟩ := by rw [← hX3, hsv]; exact cat_str [61] _
  have e4 : X4 = ⟨(decU kd ++ [60] ++ u8s (hexL bs) ++ (61 :: decU y)).toArray⟩ := by rw [← hX4, e2, e3, cat_str]
  have d1 := decU_len hy
  have d2 := decU_len (n := kd) (by omega)
  have hbs : bs.length ≤ 400000 := by simp only [tway] at hw; omega
  have t1 : tx.size ≤ 800000 := by rw [htx, hex_size]; omega
  have t2 : sv.size ≤ 20 := by rw [hsv, ba_size]; exact d1
  have t0 : dk.size ≤ 20 := by rw [hdk, ba_size]; exact d2
  have t3 : X1.size ≤ 30 := by rw [e1, ba_size]; simp; omega
  have t4 : X2.size ≤ 800040 := by rw [e2, ba_size]; simp [u8s, hexL_len]; omega
  have t5 : X3.size ≤ 30 := by rw [e3, ba_size]; simp; omega
  have n1 : ¬ 9223372036854775807 < dk.size + 1 := by omega
  have n2 : ¬ 9223372036854775807 < X1.size + tx.size := by omega
  have n3 : ¬ 9223372036854775807 < 1 + sv.size := by omega
  have n4 : ¬ 9223372036854775807 < X2.size + X3.size := by omega
  obtain ⟨A, hA⟩ : ∃ A, A = shp (.node bs (y : Nat) true false ks) := ⟨_, rfl⟩
  rw [← hA] at hL40 ⊢
  obtain ⟨S0, hS0⟩ : ∃ S0, S0 = decU kd ++ [60] ++ u8s (hexL bs) ++ (61 :: decU y) := ⟨_, rfl⟩
  have eS : X4 = ⟨S0.toArray⟩ := by rw [e4, hS0]
  have hAe : S0 ++ (shp (ofL (L.drop 0)) ++ [62]) = A := by
    rw [List.drop_zero, hke, hA, hS0]
    simp [shp, hkc, hkd]
  have HA := Lib.hid hAe
  have HA40 := Lib.hid hL40
  have ES := Lib.hid eS
  have HOL : Hid (TOk (ofL L)) := by rw [hke]; exact o7
  have HdL : Hid (tdep (ofL L) ≤ N ∧ tway (ofL L) ≤ 400000) := by rw [hke]; exact ⟨hdp, by simp only [tway] at hw; omega⟩
  have H6 := Lib.hid hR6
  have HG := Lib.hid hG
  have HIH := Lib.hid IH
  have H3 := Lib.hid h3
  have HmL := Lib.hid hm
  obtain ⟨wb, hwb⟩ : ∃ wb, wb = w.alloc (.cells #[.int .i64 (kd : Nat), .slice pa pn pc, .bool true, .int .u64 (y : Nat), .slice ba bn bc, .slice ka m rc] rnT) := ⟨_, rfl⟩
  have hbox : wb.heap[w.heap.size]? = some (.cells [.int .i64 (kd : Nat), .slice pa pn pc, .bool true, .int .u64 (y : Nat), .slice ba bn bc, .slice ka m rc].toArray rnT (0, 0)) := by rw [hwb]; exact six_new w _ _ _ _ _ _ rnT
  have HB : Hid (Below w.heap.size w wb) := by rw [hwb]; exact below_al w _
  have hall : Hid (∀ X, Below wb.heap.size wb X → X.cell? ⟨w.heap.size, 0, none⟩ = some (.int .i64 (kd : Nat)) ∧ X.cell? ⟨w.heap.size, 1, none⟩ = some (.slice pa pn pc) ∧ X.cell? ⟨w.heap.size, 2, none⟩ = some (.bool true) ∧ X.cell? ⟨w.heap.size, 3, none⟩ = some (.int .u64 (y : Nat)) ∧ X.cell? ⟨w.heap.size, 4, none⟩ = some (.slice ba bn bc) ∧ X.cell? ⟨w.heap.size, 5, none⟩ = some (.slice ka m rc)) := fun X hb => by
    obtain ⟨x0, x1, x2, x3, x4, x5, _⟩ := six_facts ((hb.block w.heap.size (Array.getElem?_eq_some_iff.1 hbox).1).trans hbox)
    exact ⟨x0, x1, x2, x3, x4, x5⟩
  obtain ⟨x0, x1, x2, x3, x4, x5⟩ := hall.out wb (Below.refl _ _)
  have hTx : Hid (∀ X, Below w.heap.size w X → Calls Tryz.prog 55 #[.slice pa pn pc] X (belowPost (.string tx) X)) := fun X hb => by rw [htx]; exact ref_text (h2.sl.below hb) (by rw [← h2.sl.len]; omega)
  have hDk : Hid (∀ X, Calls Tryz.prog 56 #[.int .u64 (kd : Nat)] X (belowPost (.string dk) X)) := fun X => by rw [hdk]; exact ref_digits X kd (by omega)
  have hDg : Hid (∀ X, Calls Tryz.prog 56 #[.int .u64 (y : Nat)] X (belowPost (.string sv) X)) := fun X => by rw [hsv]; exact ref_digits X y hy
  have R0 := Lib.hid (Below.refl wb.heap.size wb)
  have R1 : Hid (Below wb.heap.size wb wb.drew) := (Below.refl wb.heap.size wb).drew
  clear h2 h3 h5 h6 o1 o2 o3 o4 o5 o6 o7 hbox e1 e2 e3 e4 eS htx hdk hsv d1 d2 hy hw hbs hdp hL40 hA hAe hS0 hR6 hke hkc hL hm hkd hrk IH hG t0 t1 t2 t3 t4 t5
  go_enter Tryz.func23, Tryz.ntmps23
  go_upto_region 1 with fail
  rw [← hwb]
  clear hwb
  go_wp2_with fail
  go_region_held3 (fun w' => w'.cell? ⟨w.heap.size, 0, none⟩ = some (.int .i64 (kd : Nat)) ∧ w'.cell? ⟨w.heap.size, 1, none⟩ = some (.slice pa pn pc))
    (first | exact ⟨(hall.out _ B2.out).1, (hall.out _ B2.out).2.1⟩ | exact ⟨(hall.out _ B1.out).1, (hall.out _ B1.out).2.1⟩ | exact ⟨(hall.out _ R1.out).1, (hall.out _ R1.out).2.1⟩ | exact ⟨(hall.out _ R0.out).1, (hall.out _ R0.out).2.1⟩)
    (first
      | (go_simp; go_at_call 55; have g0 := B1; refine (hTx.out _ (HB.out.trans (B1.out.mono HB.out.size))).mono ?_; rintro e w2 ⟨rfl, z⟩; have B2 := Lib.hid (B1.out.trans (z.mono B1.out.size)); clear z)
      | (go_simp; go_at_call 56; refine (hDk.out _).mono ?_; rintro e w1 ⟨rfl, z⟩; have B1 := Lib.hid (R1.out.trans (z.mono R1.out.size)); clear z))
  (try simp only [Exit.then, Exit.inBlock])
  obtain ⟨z0, z1, z2, z3, z4, z5⟩ := hall.out w2 B2.out
  clear x0 x1 x2 x3 x4 x5 hTx hDk
  go_wp2_with (go_at_call 56; refine (hDg.out _).mono ?_; rintro e w3 ⟨rfl, z⟩; have B3 := Lib.hid (B2.out.trans (z.mono B2.out.size)); clear z)
  clear z0 z1 z2 z3 z4 z5 hX1 hX2 hX3 hX4 n1 n2 n3 n4 hDg
  go_loopw [4, 3] (fun s4 s3 wr => ∃ (i : Nat) (S : ByteArray), s4 = .int .i64 (i : Nat) ∧ s3 = .string S ∧ i ≤ m ∧ Hid (∃ acc : List UInt8, S = ⟨acc.toArray⟩ ∧ acc ++ (shp (ofL (L.drop i)) ++ [62]) = A) ∧ Hid (Below wb.heap.size wb wr)) (fun s4 _ _ => (m - intOf s4).toNat)
  case atStart => exact ⟨0, _, rfl, rfl, Nat.zero_le _, ⟨S0, ES.out, HA.out⟩, B3⟩
  case round =>
    clear B1 B2 B3 R1 R0 HA ES
    obtain ⟨i, S, rfl, rfl, him, hI, hBr⟩ := hrel
    obtain ⟨x0, x1, x2, x3, x4, x5⟩ := hall.out wr hBr.out
    obtain ⟨acc, hSe, hacc⟩ := hI.out
    have hal : acc.length + 1 ≤ 40000000 := by
      have := congrArg List.length hacc
      have := HA40.out
      simp only [List.length_append, List.length_cons, List.length_nil] at *
      omega
    have hSsz : S.size ≤ 40000000 := by rw [hSe, ba_size]; omega
    by_cases hlt : i < m
    · have l1 : (i : Int) < (m : Int) := by omega
      have l0 : (0 : Int) ≤ (i : Int) := by omega
      have hiL : i < L.length := by rw [← HmL.out]; exact hlt
      have l2 : (i : Int) < (bn : Int) := by have := H3.out.sl.len; rw [List.length_map] at this; omega
      obtain ⟨q, hq⟩ : ∃ q, L[i]? = some q := ⟨_, List.getElem?_eq_getElem hiL⟩
      obtain ⟨pb, rfl, hz1, hz2⟩ := H3.out.sl.at_.2 i (by rw [List.length_map]; exact hiL)
      have hz3 : (L.map (·.1)).getD i 0 = q.1 := by rw [List.getD, List.getElem?_map, hq]; rfl
      rw [hz3] at hz2
      obtain ⟨g, c', hg1, hg2, hg3, hg4, hg5⟩ := rt_at H6.out i q hq
      have hdr := shp_drop hq
      rw [hdr] at hacc
      obtain ⟨yb, yt⟩ := q
      have hym := List.mem_of_getElem? hq
      have hyT := ((tok_ofL L).1 HOL.out).1 (yb, yt) hym
      have hyD : tdep yt ≤ N := Nat.le_trans (tdep_ofL2 hym) HdL.out.1
      have hyW : tway yt ≤ 400000 := Nat.le_trans (tway_ofL2 hym) HdL.out.2
      have hyb : yb < 256 := hyT.1
      have hlen := congrArg List.length hacc
      have hA4 := HA40.out
      simp only [List.length_append, List.length_cons, List.length_nil] at hlen
      cases yt with
      | nil => exact hyT.2.1.elim
      | kid => exact hyT.2.1.elim
      | node bs' v' has' leaf' ks' =>
        have hg5 : RT w G (.node bs' v' has' leaf' ks') none 0 c' := hg5
        have hdn : Hid (∀ X, Below w.heap.size w X → Calls Tryz.prog 23 #[.agg c'.toArray] X (belowPost (.string ⟨(shp (.node bs' v' has' leaf' ks')).toArray⟩) X)) := fun X hb =>
          HIH.out bs' v' has' leaf' ks' c' hyD (hg5.keep hb.size fun j hj => hb.block j (HG.out j hj)) (fun j hj => Nat.lt_of_lt_of_le (HG.out j hj) hb.size) hyT.2.2 hyW (by omega)
        obtain ⟨pa', pn', pc', ba', bn', bc', ka', kn', kc', hc', hx'⟩ := hg5
        clear hx'
        subst hc'
        obtain ⟨KD', hKD'⟩ : ∃ x : Int, x = ((rkind leaf' ks' : Nat) : Int) := ⟨_, rfl⟩
        rw [← hKD'] at hdn hg4
        simp only at hacc hlen
        generalize shp (.node bs' v' has' leaf' ks') = SK at *
        subst hg1
        rw [Nat.zero_add] at hg4
        obtain ⟨sk, hsk⟩ : ∃ s : ByteArray, s = ⟨SK.toArray⟩ := ⟨_, rfl⟩
        rw [← hsk] at hdn
        obtain ⟨sb, hsb⟩ : ∃ s : ByteArray, s = ⟨(u8s (hexL [yb])).toArray⟩ := ⟨_, rfl⟩
        obtain ⟨Y1, hY1⟩ : ∃ s : ByteArray, (⟨#[58]⟩ : ByteArray) ++ sb = s := ⟨_, rfl⟩
        obtain ⟨Y2, hY2⟩ : ∃ s : ByteArray, Y1 ++ sk = s := ⟨_, rfl⟩
        obtain ⟨Y3, hY3⟩ : ∃ s : ByteArray, S ++ Y2 = s := ⟨_, rfl⟩
        have f1 : Y1 = ⟨(58 :: u8s (hexL [yb])).toArray⟩ := by rw [← hY1, hsb]; exact cat_str [58] _
        have f2 : Y2 = ⟨(58 :: u8s (hexL [yb]) ++ SK).toArray⟩ := by rw [← hY2, f1, hsk, cat_str]
        have f3 : Y3 = ⟨(acc ++ (58 :: u8s (hexL [yb]) ++ SK)).toArray⟩ := by rw [← hY3, f2, hSe, cat_str]
        have u1 : sb.size = 2 := by rw [hsb, hex_size]; rfl
        have u2 : Y1.size ≤ 10 := by rw [f1, ba_size]; simp [u8s, hexL_len]
        have u3 : sk.size ≤ 40000000 := by rw [hsk, ba_size]; omega
        have u4 : Y2.size ≤ 40000000 := by rw [f2, ba_size]; simp [u8s, hexL_len] at hlen ⊢; omega
        have n1 : ¬ 9223372036854775807 < 1 + sb.size := by omega
        have n2 : ¬ 9223372036854775807 < Y1.size + sk.size := by omega
        have n3 : ¬ 9223372036854775807 < S.size + Y2.size := by omega
        have hI2 : Hid (∃ acc : List UInt8, Y3 = ⟨acc.toArray⟩ ∧ acc ++ (shp (ofL (L.drop (i + 1))) ++ [62]) = A) := ⟨_, f3, by rw [← hacc]; simp⟩
        have hS : Hid (∀ X, Below wb.heap.size wb X → X.cell? ⟨w.heap.size, 4, none⟩ = some (.slice (some pb) bn bc) ∧ X.cell? ⟨w.heap.size, 5, none⟩ = some (.slice (some ⟨g, 0, none⟩) m rc) ∧ X.cell? (pb.add i) = some (.int .u8 (yb : Nat)) ∧ X.cell? ⟨g, i * 6, none⟩ = some (.int .i64 KD') ∧ X.cell? ⟨g, i * 6 + 1, none⟩ = some (.slice pa' pn' pc') ∧ X.cell? ⟨g, i * 6 + 2, none⟩ = some (.bool has') ∧ X.cell? ⟨g, i * 6 + 3, none⟩ = some (.int .u64 v') ∧ X.cell? ⟨g, i * 6 + 4, none⟩ = some (.slice ba' bn' bc') ∧ X.cell? ⟨g, i * 6 + 5, none⟩ = some (.slice ka' kn' kc')) := fun X hb => by
          obtain ⟨_, _, _, _, p4, p5⟩ := hall.out X hb
          have hwX := HB.out.trans (hb.mono HB.out.size)
          have hgl := HG.out g hg2
          have e : ∀ j, X.cell? ⟨g, j, none⟩ = w.cell? ⟨g, j, none⟩ := fun j => hwX.cell (p := ⟨g, j, none⟩) hgl
          exact ⟨p4, p5, (hwX.cell hz1).trans hz2, by rw [e]; exact hg4 0 (by omega), by rw [e]; exact hg4 1 (by omega), by rw [e]; exact hg4 2 (by omega), by rw [e]; exact hg4 3 (by omega), by rw [e]; exact hg4 4 (by omega), by rw [e]; exact hg4 5 (by omega)⟩
        have hw9 : IntKind.i64.wrap (((i : Nat) : Int) + 1) = ((i + 1 : Nat) : Int) := by rw [show ((i : Nat) : Int) + 1 = ((i + 1 : Nat) : Int) by omega]; exact IntWalk.i64_in _ (by omega)
        have hAl0 : Hid (Below wb.heap.size wb (wr.drew.alloc (.cells #[.int .u8 (yb : Nat)] 5))) := hBr.out.drew.alloc hBr.out.size _
        have hAl1 : Hid (Below wb.heap.size wb wr.drew) := hBr.out.drew
        have hT1 : Hid (Calls Tryz.prog 55 #[.slice (some ⟨wr.heap.size, 0, none⟩) 1 1] (wr.drew.alloc (.cells #[.int .u8 (yb : Nat)] 5)) (belowPost (.string sb) (wr.drew.alloc (.cells #[.int .u8 (yb : Nat)] 5)))) := by
          rw [hsb]; exact ref_text (sl_one wr.drew yb 5 hyb) (by omega)
        clear hq hz1 hz2 hz3 hiL hg4 hyT hdr hKD' hg3 hym hyD hyW hyb hlen hA4 hacc hal hSe hI hSsz f1 f2 f3 u1 u2 u3 u4 hsk hsb
        go_wp2_with fail
        go_region_held3 (fun w' => w'.cell? ⟨w.heap.size, 4, none⟩ = some (.slice (some pb) bn bc) ∧ w'.cell? ⟨w.heap.size, 5, none⟩ = some (.slice (some ⟨g, 0, none⟩) m rc) ∧ w'.cell? (pb.add i) = some (.int .u8 (yb : Nat)) ∧ w'.cell? ⟨g, i * 6, none⟩ = some (.int .i64 KD') ∧ w'.cell? ⟨g, i * 6 + 1, none⟩ = some (.slice pa' pn' pc') ∧ w'.cell? ⟨g, i * 6 + 2, none⟩ = some (.bool has') ∧ w'.cell? ⟨g, i * 6 + 3, none⟩ = some (.int .u64 v') ∧ w'.cell? ⟨g, i * 6 + 4, none⟩ = some (.slice ba' bn' bc') ∧ w'.cell? ⟨g, i * 6 + 5, none⟩ = some (.slice ka' kn' kc'))
          (first | exact hS.out _ B7.out | exact hS.out _ B6.out | exact hS.out _ hAl0.out | exact hS.out _ hAl1.out | exact hS.out _ hBr.out)
          (first
            | (go_simp; go_at_call 23; have g0 := B6; refine (hdn.out _ (HB.out.trans (B6.out.mono HB.out.size))).mono ?_; rintro e w7 ⟨rfl, z⟩; have B7 := Lib.hid (B6.out.trans (z.mono B6.out.size)); clear z)
            | (go_simp; go_at_call 55; refine hT1.out.mono ?_; rintro e w6 ⟨rfl, z⟩; have B6 := Lib.hid (hAl0.out.trans (z.mono hAl0.out.size)); clear z))
        all_goals
          (try simp only [Exit.then, Exit.inBlock])
          go_wp2_with fail
        go_roundw
        case rel => exact ⟨i + 1, Y3, (by first | rfl | go_num), rfl, by omega, hI2, B7⟩
        case measure => (simp [intOf]) <;> omega
    · have l1 : ¬ (i : Int) < (m : Int) := by omega
      obtain rfl : i = m := by omega
      have hfin : Hid (S ++ ⟨#[62]⟩ = ⟨A.toArray⟩) := by
        show _ = _
        rw [HmL.out, List.drop_length, show shp (ofL ([] : List (Nat × Tr))) = [] from rfl, List.nil_append] at hacc
        rw [hSe, ← hacc]
        exact cat_str acc [62]
      have n9 : ¬ 9223372036854775807 < S.size + 1 := by omega
      clear hacc hal hSe hI hSsz
      go_wp2_with fail
      go_ret
      exact ⟨by first | (rw [hfin.out]; done) | (rw [hfin.out]; rfl), HB.out.trans (hBr.out.mono HB.out.size)⟩

set_option maxHeartbeats 8000000 in
set_option maxRecDepth 100000 in
theorem sp_in_false (N : Nat) (IH : SpAsk N) (bs : List Nat) (v : Int) (ks : Tr) (c : List Value) {w : World} {G : Nat → Prop} (hdp : tdep ks ≤ N) (hR : RT w G (.node bs v false false ks) none 0 c) (hG : ∀ j, G j → j < w.heap.size) (hO : TOk (.node bs v false false ks)) (hw : tway (.node bs v false false ks) ≤ 400000) (hL40 : (shp (.node bs v false false ks)).length ≤ 40000000) :
    Calls Tryz.prog 23 #[.agg c.toArray] w (belowPost (.string ⟨(shp (.node bs v false false ks)).toArray⟩) w) := by
  obtain ⟨pa, pn, pc, ba, bn, bc, ka, rn, rc, rfl, h2, h3, rfl, h5, h6⟩ := hR
  obtain ⟨o1, o2, o3, o4, o5, o6, o7⟩ := hO
  obtain ⟨y, rfl⟩ : ∃ y : Nat, v = (y : Nat) := ⟨v.toNat, by omega⟩
  have hy : y < 18446744073709551616 := by omega
  have hR6 := rt_chain h6 o6 o7
  have hke := ofL_chain ks o6 o7
  have hkc := krowC_chain ks o6
  obtain ⟨L, hL⟩ : ∃ L, L = chain ks := ⟨_, rfl⟩
  rw [← hL] at hR6 hke hkc ⊢
  rw [← hL] at h3
  obtain ⟨m, hm⟩ : ∃ m, m = L.length := ⟨_, rfl⟩
  rw [← hm] at hkc ⊢
  have hm2 : m ≤ 256 := by have := chain256 o6 o7; rw [← hL, ← hm] at this; exact this
  obtain ⟨kd, hkd⟩ : ∃ kd, kd = kindOf m := ⟨_, rfl⟩
  have hrk : rkind false ks = kd := by rw [hkd]; unfold rkind; simp only [Bool.false_eq_true, if_false]; rw [← hL, ← hm]
  show Calls _ _ #[.agg #[.int .i64 ((rkind false ks : Nat) : Int), .slice pa pn pc, .bool false, .int .u64 (y : Nat), .slice ba bn bc, .slice ka m rc]] _ _
  rw [hrk]
  have hkd1 : 1 < kd ∧ kd ≤ 256 := by rw [hkd]; unfold kindOf; split <;> (try split) <;> (try split) <;> omega
  have hk0 : ((kd : Int) == 0) = false := by rw [beq_eq_false_iff_ne]; omega
  have hk1 : ((kd : Int) == 1) = false := by rw [beq_eq_false_iff_ne]; omega
  have hkw : IntKind.u64.wrap (kd : Int) = (kd : Int) := by
    show (kd : Int) % 18446744073709551616 = _
    omega
  obtain ⟨tx, htx⟩ : ∃ s : ByteArray, s = ⟨(u8s (hexL bs)).toArray⟩ := ⟨_, rfl⟩
  obtain ⟨dk, hdk⟩ : ∃ s : ByteArray, s = ⟨(decU kd).toArray⟩ := ⟨_, rfl⟩
  obtain ⟨sv, hsv⟩ : ∃ s : ByteArray, s = ⟨(decU y).toArray⟩ := ⟨_, rfl⟩
  obtain ⟨X1, hX1⟩ : ∃ s : ByteArray, dk ++ ⟨#[60]⟩ = s := ⟨_, rfl⟩
  obtain ⟨X2, hX2⟩ : ∃ s : ByteArray, X1 ++ tx = s := ⟨_, rfl⟩
  obtain ⟨X3, hX3⟩ : ∃ s : ByteArray, (⟨#[61]⟩ : ByteArray) ++ sv = s := ⟨_, rfl⟩
  obtain ⟨X4, hX4⟩ : ∃ s : ByteArray, X2 ++ X3 = s := ⟨_, rfl⟩
  have e1 : X1 = ⟨(decU kd ++ [60]).toArray⟩ := by rw [← hX1, hdk]; exact cat_str _ [60]
  have e2 : X2 = ⟨(decU kd ++ [60] ++ u8s (hexL bs)).toArray⟩ := by rw [← hX2, e1, htx, cat_str]
  have e3 : X3 = ⟨(61 :: decU y).toArray⟩ := by rw [← hX3, hsv]; exact cat_str [61] _
  have e4 : X4 = ⟨(decU kd ++ [60] ++ u8s (hexL bs) ++ (61 :: decU y)).toArray⟩ := by rw [← hX4, e2, e3, cat_str]
  have d1 := decU_len hy
  have d2 := decU_len (n := kd) (by omega)
  have hbs : bs.length ≤ 400000 := by simp only [tway] at hw; omega
  have t1 : tx.size ≤ 800000 := by rw [htx, hex_size]; omega
  have t2 : sv.size ≤ 20 := by rw [hsv, ba_size]; exact d1
  have t0 : dk.size ≤ 20 := by rw [hdk, ba_size]; exact d2
  have t3 : X1.size ≤ 30 := by rw [e1, ba_size]; simp; omega
  have t4 : X2.size ≤ 800040 := by rw [e2, ba_size]; simp [u8s, hexL_len]; omega
  have t5 : X3.size ≤ 30 := by rw [e3, ba_size]; simp; omega
  have n1 : ¬ 9223372036854775807 < dk.size + 1 := by omega
  have n2 : ¬ 9223372036854775807 < X1.size + tx.size := by omega
  have n3 : ¬ 9223372036854775807 < 1 + sv.size := by omega
  have n4 : ¬ 9223372036854775807 < X2.size + X3.size := by omega
  obtain ⟨A, hA⟩ : ∃ A, A = shp (.node bs (y : Nat) false false ks) := ⟨_, rfl⟩
  rw [← hA] at hL40 ⊢
  obtain ⟨S0, hS0⟩ : ∃ S0, S0 = decU kd ++ [60] ++ u8s (hexL bs) := ⟨_, rfl⟩
  have eS : X2 = ⟨S0.toArray⟩ := by rw [e2, hS0]
  have hAe : S0 ++ (shp (ofL (L.drop 0)) ++ [62]) = A := by
    rw [List.drop_zero, hke, hA, hS0]
    simp [shp, hkc, hkd]
  have HA := Lib.hid hAe
  have HA40 := Lib.hid hL40
  have ES := Lib.hid eS
  have HOL : Hid (TOk (ofL L)) := by rw [hke]; exact o7
  have HdL : Hid (tdep (ofL L) ≤ N ∧ tway (ofL L) ≤ 400000) := by rw [hke]; exact ⟨hdp, by simp only [tway] at hw; omega⟩
  have H6 := Lib.hid hR6
  have HG := Lib.hid hG
  have HIH := Lib.hid IH
  have H3 := Lib.hid h3
  have HmL := Lib.hid hm
  obtain ⟨wb, hwb⟩ : ∃ wb, wb = w.alloc (.cells #[.int .i64 (kd : Nat), .slice pa pn pc, .bool false, .int .u64 (y : Nat), .slice ba bn bc, .slice ka m rc] rnT) := ⟨_, rfl⟩
  have hbox : wb.heap[w.heap.size]? = some (.cells [.int .i64 (kd : Nat), .slice pa pn pc, .bool false, .int .u64 (y : Nat), .slice ba bn bc, .slice ka m rc].toArray rnT (0, 0)) := by rw [hwb]; exact six_new w _ _ _ _ _ _ rnT
  have HB : Hid (Below w.heap.size w wb) := by rw [hwb]; exact below_al w _
  have hall : Hid (∀ X, Below wb.heap.size wb X → X.cell? ⟨w.heap.size, 0, none⟩ = some (.int .i64 (kd : Nat)) ∧ X.cell? ⟨w.heap.size, 1, none⟩ = some (.slice pa pn pc) ∧ X.cell? ⟨w.heap.size, 2, none⟩ = some (.bool false) ∧ X.cell? ⟨w.heap.size, 3, none⟩ = some (.int .u64 (y : Nat)) ∧ X.cell? ⟨w.heap.size, 4, none⟩ = some (.slice ba bn bc) ∧ X.cell? ⟨w.heap.size, 5, none⟩ = some (.slice ka m rc)) := fun X hb => by
    obtain ⟨x0, x1, x2, x3, x4, x5, _⟩ := six_facts ((hb.block w.heap.size (Array.getElem?_eq_some_iff.1 hbox).1).trans hbox)
    exact ⟨x0, x1, x2, x3, x4, x5⟩
  obtain ⟨x0, x1, x2, x3, x4, x5⟩ := hall.out wb (Below.refl _ _)
  have hTx : Hid (∀ X, Below w.heap.size w X → Calls Tryz.prog 55 #[.slice pa pn pc] X (belowPost (.string tx) X)) := fun X hb => by rw [htx]; exact ref_text (h2.sl.below hb) (by rw [← h2.sl.len]; omega)
  have hDk : Hid (∀ X, Calls Tryz.prog 56 #[.int .u64 (kd : Nat)] X (belowPost (.string dk) X)) := fun X => by rw [hdk]; exact ref_digits X kd (by omega)
  have hDg : Hid (∀ X, Calls Tryz.prog 56 #[.int .u64 (y : Nat)] X (belowPost (.string sv) X)) := fun X => by rw [hsv]; exact ref_digits X y hy
  have R0 := Lib.hid (Below.refl wb.heap.size wb)
  have R1 : Hid (Below wb.heap.size wb wb.drew) := (Below.refl wb.heap.size wb).drew
  clear h2 h3 h5 h6 o1 o2 o3 o4 o5 o6 o7 hbox e1 e2 e3 e4 eS htx hdk hsv d1 d2 hy hw hbs hdp hL40 hA hAe hS0 hR6 hke hkc hL hm hkd hrk IH hG t0 t1 t2 t3 t4 t5
  go_enter Tryz.func23, Tryz.ntmps23
  go_upto_region 1 with fail
  rw [← hwb]
  clear hwb
  go_wp2_with fail
  go_region_held3 (fun w' => w'.cell? ⟨w.heap.size, 0, none⟩ = some (.int .i64 (kd : Nat)) ∧ w'.cell? ⟨w.heap.size, 1, none⟩ = some (.slice pa pn pc))
    (first | exact ⟨(hall.out _ B2.out).1, (hall.out _ B2.out).2.1⟩ | exact ⟨(hall.out _ B1.out).1, (hall.out _ B1.out).2.1⟩ | exact ⟨(hall.out _ R1.out).1, (hall.out _ R1.out).2.1⟩ | exact ⟨(hall.out _ R0.out).1, (hall.out _ R0.out).2.1⟩)
    (first
      | (go_simp; go_at_call 55; have g0 := B1; refine (hTx.out _ (HB.out.trans (B1.out.mono HB.out.size))).mono ?_; rintro e w2 ⟨rfl, z⟩; have B2 := Lib.hid (B1.out.trans (z.mono B1.out.size)); clear z)
      | (go_simp; go_at_call 56; refine (hDk.out _).mono ?_; rintro e w1 ⟨rfl, z⟩; have B1 := Lib.hid (R1.out.trans (z.mono R1.out.size)); clear z))
  (try simp only [Exit.then, Exit.inBlock])
  obtain ⟨z0, z1, z2, z3, z4, z5⟩ := hall.out w2 B2.out
  clear x0 x1 x2 x3 x4 x5 hTx hDk
  go_wp2_with fail
  have B3 := Lib.hid B2.out
  clear z0 z1 z2 z3 z4 z5 hX1 hX2 hX3 hX4 n1 n2 n3 n4 hDg
  go_loopw [4, 3] (fun s4 s3 wr => ∃ (i : Nat) (S : ByteArray), s4 = .int .i64 (i : Nat) ∧ s3 = .string S ∧ i ≤ m ∧ Hid (∃ acc : List UInt8, S = ⟨acc.toArray⟩ ∧ acc ++ (shp (ofL (L.drop i)) ++ [62]) = A) ∧ Hid (Below wb.heap.size wb wr)) (fun s4 _ _ => (m - intOf s4).toNat)
  case atStart => exact ⟨0, _, rfl, rfl, Nat.zero_le _, ⟨S0, ES.out, HA.out⟩, B3⟩
  case round =>
    clear B1 B2 B3 R1 R0 HA ES
    obtain ⟨i, S, rfl, rfl, him, hI, hBr⟩ := hrel
    obtain ⟨x0, x1, x2, x3, x4, x5⟩ := hall.out wr hBr.out
    obtain ⟨acc, hSe, hacc⟩ := hI.out
    have hal : acc.length + 1 ≤ 40000000 := by
      have := congrArg List.length hacc
      have := HA40.out
      simp only [List.length_append, List.length_cons, List.length_nil] at *
      omega
    have hSsz : S.size ≤ 40000000 := by rw [hSe, ba_size]; omega
    by_cases hlt : i < m
    · have l1 : (i : Int) < (m : Int) := by omega
      have l0 : (0 : Int) ≤ (i : Int) := by omega
      have hiL : i < L.length := by rw [← HmL.out]; exact hlt
      have l2 : (i : Int) < (bn : Int) := by have := H3.out.sl.len; rw [List.length_map] at this; omega
      obtain ⟨q, hq⟩ : ∃ q, L[i]? = some q := ⟨_, List.getElem?_eq_getElem hiL⟩
      obtain ⟨pb, rfl, hz1, hz2⟩ := H3.out.sl.at_.2 i (by rw [List.length_map]; exact hiL)
      have hz3 : (L.map (·.1)).getD i 0 = q.1 := by rw [List.getD, List.getElem?_map, hq]; rfl
      rw [hz3] at hz2
      obtain ⟨g, c', hg1, hg2, hg3, hg4, hg5⟩ := rt_at H6.out i q hq
      have hdr := shp_drop hq
      rw [hdr] at hacc
      obtain ⟨yb, yt⟩ := q
      have hym := List.mem_of_getElem? hq
      have hyT := ((tok_ofL L).1 HOL.out).1 (yb, yt) hym
      have hyD : tdep yt ≤ N := Nat.le_trans (tdep_ofL2 hym) HdL.out.1
      have hyW : tway yt ≤ 400000 := Nat.le_trans (tway_ofL2 hym) HdL.out.2
      have hyb : yb < 256 := hyT.1
      have hlen := congrArg List.length hacc
      have hA4 := HA40.out
      simp only [List.length_append, List.length_cons, List.length_nil] at hlen
      cases yt with
      | nil => exact hyT.2.1.elim
      | kid => exact hyT.2.1.elim
      | node bs' v' has' leaf' ks' =>
        have hg5 : RT w G (.node bs' v' has' leaf' ks') none 0 c' := hg5
        have hdn : Hid (∀ X, Below w.heap.size w X → Calls Tryz.prog 23 #[.agg c'.toArray] X (belowPost (.string ⟨(shp (.node bs' v' has' leaf' ks')).toArray⟩) X)) := fun X hb =>
          HIH.out bs' v' has' leaf' ks' c' hyD (hg5.keep hb.size fun j hj => hb.block j (HG.out j hj)) (fun j hj => Nat.lt_of_lt_of_le (HG.out j hj) hb.size) hyT.2.2 hyW (by omega)
        obtain ⟨pa', pn', pc', ba', bn', bc', ka', kn', kc', hc', hx'⟩ := hg5
        clear hx'
        subst hc'
        obtain ⟨KD', hKD'⟩ : ∃ x : Int, x = ((rkind leaf' ks' : Nat) : Int) := ⟨_, rfl⟩
        rw [← hKD'] at hdn hg4
        simp only at hacc hlen
        generalize shp (.node bs' v' has' leaf' ks') = SK at *
        subst hg1
        rw [Nat.zero_add] at hg4
        obtain ⟨sk, hsk⟩ : ∃ s : ByteArray, s = ⟨SK.toArray⟩ := ⟨_, rfl⟩
        rw [← hsk] at hdn
        obtain ⟨sb, hsb⟩ : ∃ s : ByteArray, s = ⟨(u8s (hexL [yb])).toArray⟩ := ⟨_, rfl⟩
        obtain ⟨Y1, hY1⟩ : ∃ s : ByteArray, (⟨#[58]⟩ : ByteArray) ++ sb = s := ⟨_, rfl⟩
        obtain ⟨Y2, hY2⟩ : ∃ s : ByteArray, Y1 ++ sk = s := ⟨_, rfl⟩
        obtain ⟨Y3, hY3⟩ : ∃ s : ByteArray, S ++ Y2 = s := ⟨_, rfl⟩
        have f1 : Y1 = ⟨(58 :: u8s (hexL [yb])).toArray⟩ := by rw [← hY1, hsb]; exact cat_str [58] _
        have f2 : Y2 = ⟨(58 :: u8s (hexL [yb]) ++ SK).toArray⟩ := by rw [← hY2, f1, hsk, cat_str]
        have f3 : Y3 = ⟨(acc ++ (58 :: u8s (hexL [yb]) ++ SK)).toArray⟩ := by rw [← hY3, f2, hSe, cat_str]
        have u1 : sb.size = 2 := by rw [hsb, hex_size]; rfl
        have u2 : Y1.size ≤ 10 := by rw [f1, ba_size]; simp [u8s, hexL_len]
        have u3 : sk.size ≤ 40000000 := by rw [hsk, ba_size]; omega
        have u4 : Y2.size ≤ 40000000 := by rw [f2, ba_size]; simp [u8s, hexL_len] at hlen ⊢; omega
        have n1 : ¬ 9223372036854775807 < 1 + sb.size := by omega
        have n2 : ¬ 9223372036854775807 < Y1.size + sk.size := by omega
        have n3 : ¬ 9223372036854775807 < S.size + Y2.size := by omega
        have hI2 : Hid (∃ acc : List UInt8, Y3 = ⟨acc.toArray⟩ ∧ acc ++ (shp (ofL (L.drop (i + 1))) ++ [62]) = A) := ⟨_, f3, by rw [← hacc]; simp⟩
        have hS : Hid (∀ X, Below wb.heap.size wb X → X.cell? ⟨w.heap.size, 4, none⟩ = some (.slice (some pb) bn bc) ∧ X.cell? ⟨w.heap.size, 5, none⟩ = some (.slice (some ⟨g, 0, none⟩) m rc) ∧ X.cell? (pb.add i) = some (.int .u8 (yb : Nat)) ∧ X.cell? ⟨g, i * 6, none⟩ = some (.int .i64 KD') ∧ X.cell? ⟨g, i * 6 + 1, none⟩ = some (.slice pa' pn' pc') ∧ X.cell? ⟨g, i * 6 + 2, none⟩ = some (.bool has') ∧ X.cell? ⟨g, i * 6 + 3, none⟩ = some (.int .u64 v') ∧ X.cell? ⟨g, i * 6 + 4, none⟩ = some (.slice ba' bn' bc') ∧ X.cell? ⟨g, i * 6 + 5, none⟩ = some (.slice ka' kn' kc')) := fun X hb => by
          obtain ⟨_, _, _, _, p4, p5⟩ := hall.out X hb
          have hwX := HB.out.trans (hb.mono HB.out.size)
          have hgl := HG.out g hg2
          have e : ∀ j, X.cell? ⟨g, j, none⟩ = w.cell? ⟨g, j, none⟩ := fun j => hwX.cell (p := ⟨g, j, none⟩) hgl
          exact ⟨p4, p5, (hwX.cell hz1).trans hz2, by rw [e]; exact hg4 0 (by omega), by rw [e]; exact hg4 1 (by omega), by rw [e]; exact hg4 2 (by omega), by rw [e]; exact hg4 3 (by omega), by rw [e]; exact hg4 4 (by omega), by rw [e]; exact hg4 5 (by omega)⟩
        have hw9 : IntKind.i64.wrap (((i : Nat) : Int) + 1) = ((i + 1 : Nat) : Int) := by rw [show ((i : Nat) : Int) + 1 = ((i + 1 : Nat) : Int) by omega]; exact IntWalk.i64_in _ (by omega)
        have hAl0 : Hid (Below wb.heap.size wb (wr.drew.alloc (.cells #[.int .u8 (yb : Nat)] 5))) := hBr.out.drew.alloc hBr.out.size _
        have hAl1 : Hid (Below wb.heap.size wb wr.drew) := hBr.out.drew
        have hT1 : Hid (Calls Tryz.prog 55 #[.slice (some ⟨wr.heap.size, 0, none⟩) 1 1] (wr.drew.alloc (.cells #[.int .u8 (yb : Nat)] 5)) (belowPost (.string sb) (wr.drew.alloc (.cells #[.int .u8 (yb : Nat)] 5)))) := by
          rw [hsb]; exact ref_text (sl_one wr.drew yb 5 hyb) (by omega)
        clear hq hz1 hz2 hz3 hiL hg4 hyT hdr hKD' hg3 hym hyD hyW hyb hlen hA4 hacc hal hSe hI hSsz f1 f2 f3 u1 u2 u3 u4 hsk hsb
        go_wp2_with fail
        go_region_held3 (fun w' => w'.cell? ⟨w.heap.size, 4, none⟩ = some (.slice (some pb) bn bc) ∧ w'.cell? ⟨w.heap.size, 5, none⟩ = some (.slice (some ⟨g, 0, none⟩) m rc) ∧ w'.cell? (pb.add i) = some (.int .u8 (yb : Nat)) ∧ w'.cell? ⟨g, i * 6, none⟩ = some (.int .i64 KD') ∧ w'.cell? ⟨g, i * 6 + 1, none⟩ = some (.slice pa' pn' pc') ∧ w'.cell? ⟨g, i * 6 + 2, none⟩ = some (.bool has') ∧ w'.cell? ⟨g, i * 6 + 3, none⟩ = some (.int .u64 v') ∧ w'.cell? ⟨g, i * 6 + 4, none⟩ = some (.slice ba' bn' bc') ∧ w'.cell? ⟨g, i * 6 + 5, none⟩ = some (.slice ka' kn' kc'))
          (first | exact hS.out _ B7.out | exact hS.out _ B6.out | exact hS.out _ hAl0.out | exact hS.out _ hAl1.out | exact hS.out _ hBr.out)
          (first
            | (go_simp; go_at_call 23; have g0 := B6; refine (hdn.out _ (HB.out.trans (B6.out.mono HB.out.size))).mono ?_; rintro e w7 ⟨rfl, z⟩; have B7 := Lib.hid (B6.out.trans (z.mono B6.out.size)); clear z)
            | (go_simp; go_at_call 55; refine hT1.out.mono ?_; rintro e w6 ⟨rfl, z⟩; have B6 := Lib.hid (hAl0.out.trans (z.mono hAl0.out.size)); clear z))
        all_goals
          (try simp only [Exit.then, Exit.inBlock])
          go_wp2_with fail
        go_roundw
        case rel => exact ⟨i + 1, Y3, (by first | rfl | go_num), rfl, by omega, hI2, B7⟩
        case measure => (simp [intOf]) <;> omega
    · have l1 : ¬ (i : Int) < (m : Int) := by omega
      obtain rfl : i = m := by omega
      have hfin : Hid (S ++ ⟨#[62]⟩ = ⟨A.toArray⟩) := by
        show _ = _
        rw [HmL.out, List.drop_length, show shp (ofL ([] : List (Nat × Tr))) = [] from rfl, List.nil_append] at hacc
        rw [hSe, ← hacc]
        exact cat_str acc [62]
      have n9 : ¬ 9223372036854775807 < S.size + 1 := by omega
      clear hacc hal hSe hI hSsz
      go_wp2_with fail
      go_ret
      exact ⟨by first | (rw [hfin.out]; done) | (rw [hfin.out]; rfl), HB.out.trans (hBr.out.mono HB.out.size)⟩
theorem sp_any : ∀ N, SpAsk N
  | 0 => fun bs v has leaf ks c w G hd => absurd hd (by simp only [tdep]; omega)
  | N + 1 => fun bs v has leaf ks c w G hd hR hG hO hw hl => by
    simp only [tdep] at hd
    cases leaf with
    | true =>
      obtain ⟨e1, e2⟩ := hO.2.2.2.2.1 rfl
      subst e1; subst e2
      exact sp_leaf_ bs v c hR hO (by simp only [tway] at hw; omega)
    | false =>
      cases has with
      | true => exact sp_in_true N (sp_any N) bs v ks c (by omega) hR hG hO hw hl
      | false => exact sp_in_false N (sp_any N) bs v ks c (by omega) hR hG hO hw hl
/-- nothing's shape -/
theorem sp_none (w : World) (pa : Option Addr) (pn pc : Nat) (hs : Bool) (v : Int) (ba : Option Addr) (bn bc : Nat) (ka : Option Addr) (kn kc : Nat) : Calls Tryz.prog 23 #[.agg #[.int .i64 0, .slice pa pn pc, .bool hs, .int .u64 v, .slice ba bn bc, .slice ka kn kc]] w (belowPost (.string ⟨#[46]⟩) w) := by
  have hb : Hid (∀ o, Below w.heap.size w (w.alloc o)) := fun o => (Below.refl _ w).alloc (Nat.le_refl _) o
  go_enter Tryz.func23, Tryz.ntmps23
  go_wp2_with fail
  go_ret
  exact ⟨rfl, hb.out _⟩
theorem md_none (w : World) (pa : Option Addr) (pn pc : Nat) (hs : Bool) (v : Int) (ba : Option Addr) (bn bc : Nat) (ka : Option Addr) (kn kc : Nat) : Calls Tryz.prog 30 #[.agg #[.int .i64 0, .slice pa pn pc, .bool hs, .int .u64 v, .slice ba bn bc, .slice ka kn kc]] w (belowPost (.int .i64 0) w) := by
  have hb : Hid (∀ o, Below w.heap.size w (w.alloc o)) := fun o => (Below.refl _ w).alloc (Nat.le_refl _) o
  go_enter Tryz.func30, Tryz.ntmps30
  go_wp2_with fail
  go_ret
  exact ⟨rfl, hb.out _⟩
theorem dp_none (w : World) (pa : Option Addr) (pn pc : Nat) (hs : Bool) (v : Int) (ba : Option Addr) (bn bc : Nat) (ka : Option Addr) (kn kc : Nat) : Calls Tryz.prog 25 #[.agg #[.int .i64 0, .slice pa pn pc, .bool hs, .int .u64 v, .slice ba bn bc, .slice ka kn kc]] w (belowPost (.int .i64 0) w) := by
  have hb : Hid (∀ o, Below w.heap.size w (w.alloc o)) := fun o => (Below.refl _ w).alloc (Nat.le_refl _) o
  go_enter Tryz.func25, Tryz.ntmps25
  go_wp2_with fail
  go_ret
  exact ⟨rfl, hb.out _⟩
end Go.Proofs.YtfhdiimcimafkaaGreatDoor
/- law CanonBuilds: the walk. -/
namespace Go.Proofs.YtfhdiimcimafkaaGreatDoor
open Go.RowKit
/-- what the law asks of the tree that was made, in every later world -/
structure BuS (mb : Nat) (s : ByteArray) (d : Nat) (z : Int) (l : PL) (w : World) (v : Value) : Prop where
  shape : ∀ X, Below w.heap.size w X → Calls Tryz.prog 15 #[v] X (belowPost (.string s) X)
  list : ∀ X, Below w.heap.size w X → Calls Tryz.prog 19 #[v] X (prsPost l X)
  depth : ∀ X, Below w.heap.size w X → Calls Tryz.prog 17 #[v] X (belowPost (.int .i64 (d : Nat)) X)
  count : ∀ X, Below w.heap.size w X → Calls Tryz.prog 18 #[v] X (belowPost (.int .i64 (l.length : Nat)) X)
  fine : ∀ X, Below w.heap.size w X → Calls Tryz.prog 16 #[v] X (belowPost (.bool true) X)
  met : ∀ X, Below w.heap.size w X → Calls Tryz.prog 28 #[.pointer (some ⟨mb, 0, none⟩)] X fun e w' => e = .returned (.int .i64 z) ∧ X = w'
/-- what it asks of the document's tree -/
structure DuS (s : ByteArray) (d : Nat) (z : Int) (w : World) (v : Value) : Prop where
  shape : ∀ X, Below w.heap.size w X → Calls Tryz.prog 23 #[v] X (belowPost (.string s) X)
  depth : ∀ X, Below w.heap.size w X → Calls Tryz.prog 25 #[v] X (belowPost (.int .i64 (d : Nat)) X)
  made : ∀ X, Below w.heap.size w X → Calls Tryz.prog 30 #[v] X (belowPost (.int .i64 z) X)
theorem cbs_of {mb : Nat} {wB w w' : World} {P : List NP} {t : Tr} {a : Option Addr} {l : PL} (hP : PTab w') (hN : NM mb w w' P (0 + (tsz t : Nat))) (hb : Below wB.heap.size wB w) (hm : wB.heap.size ≤ mb) (hT : TreeV P t (.pointer a)) (hO : TOk t) (hC : Can t) (he : tl t = l) (hn : l.length ≤ 300) (hk : ∀ x ∈ l, x.1.length ≤ 300) :
    tway t ≤ 300 ∧ tsz t ≤ 600 ∧ tdep t ≤ 301 ∧ (shp t).length ≤ 40000000 ∧ BuS mb ⟨(shpT t).toArray⟩ (tdep t) (0 + (tsz t : Nat)) l w' (.pointer a) := by
  have hQ := hN.free hb hm
  have hway : tway t ≤ 300 := way_key t 300 hO hC (by rw [he]; exact hk)
  have hsz : tsz t ≤ 600 := by
    rcases treeV_nz hT with h | h
    · rw [h]; exact Nat.zero_le _
    · have := (can_sz t hO hC).1 h
      rw [he] at this; omega
  have hdep : tdep t ≤ 301 := by
    rcases treeV_nz hT with h | h
    · rw [h]; exact Nat.zero_le _
    · exact can_dep h hO hC (by rw [he]; exact hk)
  have hch : (chain t).length ≤ 256 := by
    rcases treeV_nz hT with h | h
    · rw [h]; exact Nat.zero_le _
    · have : (chain t).length = 0 := by cases t <;> first | rfl | exact h.elim
      rw [this]; exact Nat.zero_le _
  have hsl : (shp t).length ≤ 40000000 := by
    have h1 := shp_len 300 t hO hway
    have h2 : tsz t * (2 * 300 + 900) ≤ 600 * 1500 := Nat.mul_le_mul hsz (Nat.le_refl _)
    omega
  have hf : fineB t = true := (fine_can t [] hO (by simp; omega)).2 hC
  refine ⟨hway, hsz, hdep, hsl, fun X hX => ?_, fun X hX => ?_, fun X hX => ?_, fun X hX => ?_, fun X hX => ?_, fun X hX => ?_⟩
  · exact canon_shape (hP.below hX) (hQ.below hX) hT hO hsl (by omega)
  · have h := list_any (hQ.below hX) hT hO (by omega) (by rw [he]; omega)
    rw [he] at h
    exact h
  · exact depth_any 1000 (by omega) t (by omega) (hQ.below hX) hT hO
  · have h := count_any (hQ.below hX) hT hO (by omega) (by rw [he]; omega)
    rw [he] at h
    exact h
  · have h := fine_any (hQ.below hX) hT hO (by omega) (by rw [tv_sz]; omega)
    rw [hf] at h
    exact h
  · exact count_is X mb 0 _ ((hN.2.2.below hX (Nat.lt_of_lt_of_le hN.1 hN.2.1.size)).cell)
theorem dbs_of {w : World} {t : Tr} {l : PL} {kd : Int} {pa : Option Addr} {pn pc : Nat} {hs : Bool} {v : Int} {ba : Option Addr} {bn bc : Nat} {ka : Option Addr} {kn kc : Nat} (hz : t = .nil ∨ IsN t) (hO : TOk t) (hC : Can t) (he : tl t = l) (hway : tway t ≤ 300) (hsz : tsz t ≤ 600) (hdep : tdep t ≤ 301) (hsl : (shp t).length ≤ 40000000)
    (h : (l = [] ∧ kd = 0 ∧ pn = 0 ∧ hs = false ∧ kn = 0) ∨ ∃ t, IsN t ∧ TOk t ∧ Can t ∧ tl t = l ∧ RT w (fun j => j < w.heap.size) t none 0 [.int .i64 kd, .slice pa pn pc, .bool hs, .int .u64 v, .slice ba bn bc, .slice ka kn kc]) :
    DuS ⟨(shpT t).toArray⟩ (tdep t) (0 + (tsz t : Nat)) w (.agg #[.int .i64 kd, .slice pa pn pc, .bool hs, .int .u64 v, .slice ba bn bc, .slice ka kn kc]) := by
  rcases h with ⟨rfl, rfl, rfl, rfl, rfl⟩ | ⟨t', h1, h2, h3, h4, h5⟩
  · have ht : t = .nil := by
      rcases hz with h | h
      · exact h
      · exact absurd he (tl_ne t h hO hC)
    subst ht
    exact ⟨fun X _ => sp_none X _ _ _ _ _ _ _ _ _ _ _, fun X _ => dp_none X _ _ _ _ _ _ _ _ _ _ _, fun X _ => md_none X _ _ _ _ _ _ _ _ _ _ _⟩
  · have hN : IsN t := by
      rcases hz with h | h
      · subst h
        exact absurd (h4.trans he.symm) (tl_ne t' h1 h2 h3)
      · exact h
    obtain rfl : t = t' := can_eq hN h1 hO h2 hC h3 (he.trans h4.symm)
    cases t with
    | nil => exact hN.elim
    | kid => exact hN.elim
    | node bs v' has leaf ks =>
      refine ⟨fun X hX => ?_, fun X hX => ?_, fun X hX => ?_⟩
      · exact sp_any 1000 bs v' has leaf ks _ (by omega) (h5.keep hX.size fun j hj => hX.block j hj) (fun j hj => Nat.lt_of_lt_of_le hj hX.size) hO (by omega) hsl
      · exact dp_any 1000 bs v' has leaf ks _ (by omega) (h5.keep hX.size fun j hj => hX.block j hj) (fun j hj => Nat.lt_of_lt_of_le hj hX.size) hO (by omega)
      · have := md_any 1000 bs v' has leaf ks _ (by omega) (h5.keep hX.size fun j hj => hX.block j hj) (fun j hj => Nat.lt_of_lt_of_le hj hX.size) hO (by omega)
        rw [show (0 + ((tsz (.node bs v' has leaf ks) : Nat) : Int)) = ((tsz (.node bs v' has leaf ks) : Nat) : Int) by omega]
        exact this
set_option maxHeartbeats 4000000 in
set_option maxRecDepth 100000 in
theorem law_builds (w : World) (a : Option Addr) (n c : Nat) (l : PL) (h : Prs w a n c l) (hP : PTab w) :
    Calls Tryz.prog 5 #[.slice a n c] w (belowPost (.bool true) w) := by
  have hAl : Hid (∀ X, Below w.heap.size w X → Calls Tryz.prog 8 #[] X (belowPost (.bool true) X)) := fun X hX => alive13 X (hP.below hX)
  have hfar := Lib.hid (far_13 w a n c l h 300 (by omega))
  cases hfc : (decide (300 < n) || farL 300 l) with
  | true =>
    rw [hfc] at hfar
    clear h hP hfc
    go_enter Tryz.func5, Tryz.ntmps5
    go_wp2_with (first
      | (go_at_call 8; refine (hAl.out _ B1.out).mono ?_; rintro e w2 ⟨rfl, z⟩; have B2 := Lib.hid (B1.out.trans (z.mono B1.out.size)); clear z)
      | (go_at_call 7; refine hfar.out.mono ?_; rintro e w1 ⟨rfl, z⟩; have B1 := Lib.hid z; clear z))
    go_ret
    exact ⟨rfl, B2.out⟩
  | false =>
    rw [hfc] at hfar
    obtain ⟨hn, hk⟩ := far_c hfc
    have hlen := h.len
    have hk16 : ∀ x ∈ l, x.1.length ≤ 65535 := fun x hx => by have := hk x hx; omega
    have H := Lib.hid h
    have HP := Lib.hid hP
    have HK := Lib.hid hk16
    have HK3 := Lib.hid hk
    have HL : Hid (l.length = n ∧ n ≤ 300) := ⟨hlen, hn⟩
    have hck : chkE l = if srtB l then 0 else 12 := by
      unfold chkE
      rw [farL_no (fun i hi => hk16 _ (mem_getD hi))]
      rfl
    cases hs : srtB l with
    | false =>
      have hE : Hid (chkE l = 12) := by show _ = _; rw [hck, hs]; rfl
      clear h hP hfc hn hk hlen hk16 hck hs
      go_enter Tryz.func5, Tryz.ntmps5
      go_wp2_with (first
        | (have g0 := B6; go_at_call 8; refine (hAl.out _ (B1.out.trans (B6.out.mono B1.out.size))).mono ?_; rintro e w8 ⟨rfl, z⟩; have B8 := Lib.hid (B6.out.trans (z.mono B6.out.size)); clear z)
        | (have g0 := B6; go_at_call 28; refine (count_is w6 w1.heap.size 0 0 M6.out.cell).mono ?_; rintro e w7 ⟨rfl, rfl⟩)
        | (have g0 := B5; go_at_call 27; refine (ref_check w5 a n c l (H.out.below (B1.out.trans (B5.out.mono B1.out.size))) HK.out).mono ?_; rintro e w6 ⟨rfl, z⟩; rw [hE.out]
           have B6 := Lib.hid (B5.out.trans (z.mono B5.out.size))
           have M6 := Lib.hid (M5.out.below z L5.out)
           clear z)
        | (have g0 := B3; go_at_call 10; refine hBd.out.mono ?_; rintro e w5 ⟨rfl, z⟩
           have B5 := Lib.hid (B3.out.trans (z.mono B3.out.size))
           have M5 := Lib.hid (M3.out.below z L3.out)
           have L5 : Hid (w1.heap.size < w5.heap.size) := (Nat.lt_of_lt_of_le L3.out z.size)
           clear z)
        | (have g0 := B1; go_at_call 11; refine hPr.out.mono ?_; rintro e w3 ⟨v3, rfl, q⟩; obtain ⟨a3, c3, rfl, hpm⟩ := q.prsM hBm.out (Nat.le_refl _) hmlt.out
           have B3 := Lib.hid (hBm.out.trans (q.below_.mono hBm.out.size))
           have M3 := Lib.hid (hmet.out.below q.below_ hmlt.out)
           have L3 : Hid (w1.heap.size < w3.heap.size) := (Nat.lt_of_lt_of_le hmlt.out q.below_.size)
           have hBd := Lib.hid (canon_build_errM (some ⟨w1.heap.size, 0, none⟩) 1 w3 a3 l.length c3 l hpm.prs 12 hE.out rfl)
           clear hpm q)
        | (go_at_call 7; refine hfar.out.mono ?_; rintro e w1 ⟨rfl, z⟩; have B1 := Lib.hid z
           have hBm : Hid (Below w1.heap.size w1 (w1.alloc (.cells #[.int .i64 0] 67))) := (Below.refl _ w1).alloc (Nat.le_refl _) _
           have hmlt : Hid (w1.heap.size < (w1.alloc (.cells #[.int .i64 0] 67)).heap.size) := by show _ < _; rw [World.size_alloc]; omega
           have hmet : Hid (Met (w1.alloc (.cells #[.int .i64 0] 67)) w1.heap.size 0) := by show Met _ _ _; unfold Met; rw [heap_alloc_new]
           have hPr := Lib.hid (law_pairs w1 (w1.alloc (.cells #[.int .i64 0] 67)) hBm.out a n c l (H.out.below z) (by have := HL.out; omega))
           clear z))
      go_ret
      exact ⟨rfl, B1.out.trans (B8.out.mono B1.out.size)⟩
    | true =>
      have hE : Hid (chkE l = 0) := by show _ = _; rw [hck, hs]; rfl
      have HS := Lib.hid (srtB_srt.1 hs)
      clear h hP hfc hn hk hlen hk16 hck hs
      go_enter Tryz.func5, Tryz.ntmps5
      go_wp2_with (first
        | (have g0 := B6; go_at_call 29; refine (doc_build (H.out.below (B1.out.trans (B6.out.mono B1.out.size))) HS.out HK.out (by have := HL.out; omega)).mono ?_; rintro e w7 ⟨kd, pa, pn, pc, hs, v, ba, bn, bc, ka, kn, kc, rfl, z, hR⟩
           have D7 := Lib.hid (dbs_of Hz.out HO.out HC.out He.out Hb.out.1 Hb.out.2.1 Hb.out.2.2.1 Hb.out.2.2.2 hR)
           have B7 := Lib.hid (B6.out.trans (z.mono B6.out.size))
           have C7 := Lib.hid (R6.out.trans (z.mono R6.out.size))
           have R7 := Lib.hid (Below.refl w7.heap.size w7)
           clear z hR)
        | (have g0 := B5; go_at_call 27; refine (ref_check w5 a n c l (H.out.below (B1.out.trans (B5.out.mono B1.out.size))) HK.out).mono ?_; rintro e w6 ⟨rfl, z⟩; rw [hE.out]
           have B6 := Lib.hid (B5.out.trans (z.mono B5.out.size))
           have R6 := Lib.hid z
           clear z)
        | (have g0 := B3; go_at_call 10; refine hBd.out.mono ?_; rintro e w5 ⟨t, v5, Q, rfl, q1, q2, q3, q4, q5⟩
           have z5 := (q1.free B3.out (Nat.le_refl _)).below_
           obtain ⟨k1, k2, k3, k4, k5⟩ := cbs_of (HP.out.below (B1.out.trans (z5.mono B1.out.size))) q1 B3.out (Nat.le_refl _) q2 q3 q4 q5 (by have := HL.out; omega) HK3.out
           have B5 := Lib.hid z5
           have S5 := Lib.hid k5
           have Hz := Lib.hid (treeV_nz q2)
           have HO := Lib.hid q3
           have HC := Lib.hid q4
           have He := Lib.hid q5
           have Hb : Hid (tway t ≤ 300 ∧ tsz t ≤ 600 ∧ tdep t ≤ 301 ∧ (shp t).length ≤ 40000000) := ⟨k1, k2, k3, k4⟩
           clear q1 q2 q3 q4 q5 z5 k1 k2 k3 k4 k5 hBd)
        | (have g0 := B1; go_at_call 11; refine hPr.out.mono ?_; rintro e w3 ⟨v3, rfl, q⟩; obtain ⟨a3, c3, rfl, hpm⟩ := q.prsM hBm.out (Nat.le_refl _) hmlt.out
           have B3 := Lib.hid (hBm.out.trans (q.below_.mono hBm.out.size))
           have hBd := Lib.hid (canon_buildM w1.heap.size 1 (by omega) w3 a3 l.length c3 l 0 hpm HS.out HK.out (Nat.lt_of_lt_of_le hmlt.out q.below_.size) (hmet.out.below q.below_ hmlt.out) (by omega) (by have := HL.out; omega))
           clear hpm q)
        | (go_at_call 7; refine hfar.out.mono ?_; rintro e w1 ⟨rfl, z⟩; have B1 := Lib.hid z
           have hBm : Hid (Below w1.heap.size w1 (w1.alloc (.cells #[.int .i64 0] 67))) := (Below.refl _ w1).alloc (Nat.le_refl _) _
           have hmlt : Hid (w1.heap.size < (w1.alloc (.cells #[.int .i64 0] 67)).heap.size) := by show _ < _; rw [World.size_alloc]; omega
           have hmet : Hid (Met (w1.alloc (.cells #[.int .i64 0] 67)) w1.heap.size 0) := by show Met _ _ _; unfold Met; rw [heap_alloc_new]
           have hPr := Lib.hid (law_pairs w1 (w1.alloc (.cells #[.int .i64 0] 67)) hBm.out a n c l (H.out.below z) (by have := HL.out; omega))
           clear z))
      have hct : Hid (∀ X, Below w5.heap.size w5 X → Calls Tryz.prog 18 #[.pointer v5] X (belowPost (.int .i64 (n : Nat)) X)) := fun X hX => by
        have := S5.out.count X hX
        rw [HL.out.1] at this
        exact this
      have hls : Hid (∀ X, Below w5.heap.size w5 X → Calls Tryz.prog 19 #[.pointer v5] X (prsPost l X)) := S5.out.list
      obtain ⟨s, hse⟩ : ∃ s : ByteArray, s = ⟨(shpT t).toArray⟩ := ⟨_, rfl⟩
      obtain ⟨d, hde⟩ : ∃ d, d = tdep t := ⟨_, rfl⟩
      obtain ⟨z, hze⟩ : ∃ z : Int, z = 0 + ((tsz t : Nat) : Int) := ⟨_, rfl⟩
      have S : Hid (BuS w1.heap.size s d z l w5 (.pointer v5)) := by rw [hse, hde, hze]; exact S5.out
      have D : Hid (DuS s d z w7 (.agg #[.int .i64 kd, .slice pa pn pc, .bool hs, .int .u64 v, .slice ba bn bc, .slice ka kn kc])) := by rw [hse, hde, hze]; exact D7.out
      clear S5 D7 Hz HO HC He Hb hse hde hze
      obtain ⟨wb, hwb⟩ : ∃ wb, wb = w7.alloc (.cells #[.int .i64 kd, .slice pa pn pc, .bool hs, .int .u64 v, .slice ba bn bc, .slice ka kn kc] rnT) := ⟨_, rfl⟩
      have hbox : wb.heap[w7.heap.size]? = some (.cells [.int .i64 kd, .slice pa pn pc, .bool hs, .int .u64 v, .slice ba bn bc, .slice ka kn kc].toArray rnT (0, 0)) := by rw [hwb]; exact six_new w7 _ _ _ _ _ _ rnT
      have hB7 : Hid (Below w7.heap.size w7 wb) := by rw [hwb]; exact below_al w7 _
      have hall : Hid (∀ X, Below wb.heap.size wb X → X.cell? ⟨w7.heap.size, 0, none⟩ = some (.int .i64 kd) ∧ X.cell? ⟨w7.heap.size, 1, none⟩ = some (.slice pa pn pc) ∧ X.cell? ⟨w7.heap.size, 2, none⟩ = some (.bool hs) ∧ X.cell? ⟨w7.heap.size, 3, none⟩ = some (.int .u64 v) ∧ X.cell? ⟨w7.heap.size, 4, none⟩ = some (.slice ba bn bc) ∧ X.cell? ⟨w7.heap.size, 5, none⟩ = some (.slice ka kn kc)) := fun X hb => by
        obtain ⟨x0, x1, x2, x3, x4, x5, _⟩ := six_facts ((hb.block w7.heap.size (Array.getElem?_eq_some_iff.1 hbox).1).trans hbox)
        exact ⟨x0, x1, x2, x3, x4, x5⟩
      have hto7 : Hid (∀ X, Below wb.heap.size wb X → Below w7.heap.size w7 X) := fun X hX => hB7.out.trans (hX.mono hB7.out.size)
      have hto5 : Hid (∀ X, Below wb.heap.size wb X → Below w5.heap.size w5 X) := fun X hX => C7.out.trans ((hto7.out X hX).mono C7.out.size)
      have hto : Hid (∀ X, Below wb.heap.size wb X → Below w.heap.size w X) := fun X hX => B1.out.trans ((B7.out.trans ((hto7.out X hX).mono B7.out.size)).mono B1.out.size)
      have A0 : Hid (Below wb.heap.size wb wb) := Below.refl _ _
      have A1 : Hid (Below wb.heap.size wb wb.drew) := (Below.refl _ _).drew
      have hln := Lib.hid HL.out.1
      show Code.wp _ _ _ _ (w7.alloc (.cells #[.int .i64 kd, .slice pa pn pc, .bool hs, .int .u64 v, .slice ba bn bc, .slice ka kn kc] rnT))
      rw [← hwb]
      obtain ⟨x0, x1, x2, x3, x4, x5⟩ := hall.out wb A0.out
      clear hwb hbox hB7 C7 R7 R6 hE HS HK HK3 HL hfar hPr hmet hmlt hBm
      go_region_held3 (fun w' => w'.cell? ⟨w7.heap.size, 0, none⟩ = some (.int .i64 kd) ∧ w'.cell? ⟨w7.heap.size, 1, none⟩ = some (.slice pa pn pc) ∧ w'.cell? ⟨w7.heap.size, 2, none⟩ = some (.bool hs) ∧ w'.cell? ⟨w7.heap.size, 3, none⟩ = some (.int .u64 v) ∧ w'.cell? ⟨w7.heap.size, 4, none⟩ = some (.slice ba bn bc) ∧ w'.cell? ⟨w7.heap.size, 5, none⟩ = some (.slice ka kn kc))
        (first | exact hall.out _ F11.out | exact hall.out _ F10.out | exact hall.out _ F9.out | exact hall.out _ F7.out | exact hall.out _ F6.out | exact hall.out _ F5.out | exact hall.out _ F4.out | exact hall.out _ F3.out | exact hall.out _ F2.out | exact hall.out _ F1.out | exact hall.out _ A1.out | exact hall.out _ A0.out)
        (first
          | (go_simp; go_at_call 8; have g0 := F10; refine (hAl.out _ (hto.out _ F10.out)).mono ?_; rintro e w9 ⟨rfl, z9⟩; have F11 := Lib.hid (F10.out.trans (z9.mono F10.out.size)); clear z9)
          | (go_simp; go_at_call 16; have g0 := F9; refine (S.out.fine _ (hto5.out _ F9.out)).mono ?_; rintro e w9 ⟨rfl, z9⟩; have F10 := Lib.hid (F9.out.trans (z9.mono F9.out.size)); clear z9)
          | (go_simp; go_at_call 30; have g0 := F7; refine (D.out.made _ (hto7.out _ F7.out)).mono ?_; rintro e w9 ⟨rfl, z9⟩; have F9 := Lib.hid (F7.out.trans (z9.mono F7.out.size)); clear z9)
          | (go_simp; go_at_call 28; have g0 := F7; refine (S.out.met _ (hto5.out _ F7.out)).mono ?_; rintro e w9 ⟨rfl, rfl⟩)
          | (go_simp; go_at_call 18; have g0 := F6; refine (hct.out _ (hto5.out _ F6.out)).mono ?_; rintro e w9 ⟨rfl, z9⟩; have F7 := Lib.hid (F6.out.trans (z9.mono F6.out.size)); clear z9)
          | (go_simp; go_at_call 25; have g0 := F5; refine (D.out.depth _ (hto7.out _ F5.out)).mono ?_; rintro e w9 ⟨rfl, z9⟩; have F6 := Lib.hid (F5.out.trans (z9.mono F5.out.size)); clear z9)
          | (go_simp; go_at_call 17; have g0 := F4; refine (S.out.depth _ (hto5.out _ F4.out)).mono ?_; rintro e w9 ⟨rfl, z9⟩; have F5 := Lib.hid (F4.out.trans (z9.mono F4.out.size)); clear z9)
          | (go_simp; go_at_call 24; have g0 := F3; refine (same_13 _ _ _ _ _ _ l P3.out (H.out.below (hto.out _ F3.out))).mono ?_; rintro e w9 ⟨rfl, z9⟩; have F4 := Lib.hid (F3.out.trans (z9.mono F3.out.size)); clear z9)
          | (go_simp; go_at_call 19; have g0 := F2; refine (hls.out _ (hto5.out _ F2.out)).mono ?_; rintro e w9 ⟨b9, c9, q0, q1, z9⟩; rw [hln.out] at q0 q1; subst q0; have P3 := Lib.hid q1; have F3 := Lib.hid (F2.out.trans (z9.mono F2.out.size)); clear z9 q1)
          | (go_simp; go_at_call 23; have g0 := F1; refine (D.out.shape _ (hto7.out _ F1.out)).mono ?_; rintro e w9 ⟨rfl, z9⟩; have F2 := Lib.hid (F1.out.trans (z9.mono F1.out.size)); clear z9)
          | (go_simp; go_at_call 15; refine (S.out.shape _ (hto5.out _ A1.out)).mono ?_; rintro e w9 ⟨rfl, z9⟩; have F1 := Lib.hid (A1.out.trans (z9.mono A1.out.size)); clear z9))
      all_goals
        (try simp only [Exit.then, Exit.inBlock])
        go_wp2_with fail
        go_ret
        exact ⟨rfl, hto.out _ F11.out⟩
end Go.Proofs.YtfhdiimcimafkaaGreatDoor
