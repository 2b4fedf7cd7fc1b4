/- Any canonical tree encoded; how many bytes that is; The document's bytes of a tree; Bytes behind bytes: append of any slice of bytes, also of none; The document's bytes of a node; The document's Encode; The law SerIs. -/
import Derived.Test.YtkonbldjmcccmaaJ10
import Derived.Test.YtkonbldjmcccmaaJ8
import Derived.StillTailTactics
import Derived.Deep.RegionHeld3
import Derived.Test.YtkonbldjmcccmaaJ11
set_option linter.unusedVariables false
set_option linter.unusedSimpArgs false
/- Any canonical tree encoded; how many bytes that is. -/
namespace Go.Proofs.Ytkonbldjmcccmaa
open Go.RowKit
theorem lay_any : ∀ N, LayAsk N
  | 0 => fun t w0 w X Q p hd hQ hT hN hO hC hb s xs bo hs hbo htot => by
    cases t with
    | nil => exact hN.elim
    | kid => exact hN.elim
    | node => simp only [tdep] at hd; omega
  | N + 1 => fun t w0 w X Q p hd hQ hT hN hO hC hb s xs bo hs hbo htot => by
    cases t with
    | nil => exact hN.elim
    | kid => exact hN.elim
    | node bs val has leaf ks =>
      simp only [tdep] at hd
      obtain ⟨n, kk, rfl, h1, h2, h3, _⟩ := nodew_of hQ hT hO
      obtain ⟨o1, o2, o3, o4, o5, o6, o7⟩ := hO
      obtain ⟨y, rfl⟩ : ∃ y : Nat, val = (y : Nat) := ⟨val.toNat, by omega⟩
      have hm2 := chain256 o6 o7
      have hc1 : leaf = false → 1 ≤ (chain ks).length := fun e => by
        have := hC.2 e
        cases has <;> simp at this <;> omega
      have hT : xs ++ layT (.node bs (y : Nat) has leaf ks) = xs ++ [headN has leaf (chain ks).length] ++ numL bs.length ++ bs ++ (if has then numL y else []) ++ (if leaf then [] else ((chain ks).length - 1) :: layT ks) := by
        simp [layT]
      have htot' : (xs ++ layT (.node bs (y : Nat) has leaf ks)).length ≤ 800000 := by rw [List.length_append]; exact htot
      cases leaf with
      | true =>
        have e := (o5 rfl).1
        subst e
        exact lay_leafy N (lay_any N) hQ h1 h2 h3 (by omega) hC.1 hc1 hm2 hb (by omega) hs hbo hT htot'
      | false =>
        cases has with
        | true => exact lay_val N (lay_any N) hQ h1 h2 h3 (by omega) hC.1 hc1 hm2 hb (by omega) hs hbo hT htot'
        | false => exact lay_no N (lay_any N) hQ h1 h2 h3 (by omega) hC.1 hc1 hm2 hb (by omega) hs hbo hT htot'
/-- a tree's bytes, with how many pairs it has -/
def encL (t : Tr) : List Nat := [1] ++ numL (tl t).length ++ layT t
set_option maxHeartbeats 1000000 in
set_option maxRecDepth 100000 in
theorem encode_any {w0 w : World} {Q : List NP} {t : Tr} {p : Option Addr} (hQ : StoreP NoB w0 w Q) (hT : TreeV Q t (.pointer p)) (hO : TOk t) (hC : Can t) (hlay : (layT t).length ≤ 700000) (htot : (tl t).length ≤ 2000) :
    Calls Try.prog 70 #[.pointer p] w (encPost w (encL t)) := by
  obtain ⟨X1, hX1⟩ : ∃ X1, X1 = w.alloc (.cells #[.int .u8 1] 5) := ⟨_, rfl⟩
  have hO1 : OwnS 1 u8T X1 (.slice (some ⟨w.heap.size, 0, none⟩) 1 1) 1 (bV [1]) (some w.heap.size) := by rw [hX1]; exact own_one w 1
  have hA : Below w.heap.size w X1 := by rw [hX1]; exact (Below.refl _ w).alloc (Nat.le_refl _) _
  have HA := Lib.hid hA
  have HO1 := Lib.hid hO1
  have hCt := Lib.hid (count_any (hQ.below hA) hT hO (Nat.le_trans (tway_lay t hO) (by omega)) htot)
  have hz1 : ∀ g, some w.heap.size = some g → w.heap.size ≤ g := fun g e => by cases e; exact Nat.le_refl _
  have hfin : ∀ X2 w3 v3 M3 bo3, Below X1.heap.size X1 X2 → OwnS 1 u8T w3 v3 M3 (bV ([1] ++ numL (tl t).length)) bo3 → Mod (fun j => some w.heap.size = some j) X2 w3 → NewOr X2 (some w.heap.size) bo3 → Below w.heap.size w w3 ∧ ∀ g, bo3 = some g → w.heap.size ≤ g := fun X2 w3 v3 M3 bo3 b2 o3 m3 n3 =>
    ⟨(hA.trans (b2.mono hA.size)).trans (mod_lo m3 hz1 (Nat.le_trans hA.size b2.size)), newOr_lo n3 hz1 (Nat.le_trans hA.size b2.size)⟩
  have hlt : ∀ x ∈ encL t, x < 256 := fun x hx => by
    unfold encL at hx
    simp only [List.mem_append, List.mem_singleton] at hx
    rcases hx with (rfl | hx) | hx
    · omega
    · exact numL_byte _ x hx
    · exact layT_byte t hO x hx
  have hnl : (numL (tl t).length).length ≤ 10 := numL_ten (by omega)
  rcases hT with ⟨rfl, e⟩ | ⟨hn, hT⟩
  · obtain rfl : p = none := by simpa using e
    have hEnd : Hid (∀ X2 w3 v3 M3 bo3, Below X1.heap.size X1 X2 → OwnS 1 u8T w3 v3 M3 (bV ([1] ++ numL (tl .nil).length)) bo3 → Mod (fun j => some w.heap.size = some j) X2 w3 → NewOr X2 (some w.heap.size) bo3 → encPost w (encL .nil) (.returned v3) w3) := fun X2 w3 v3 M3 bo3 b2 o3 m3 n3 => by
      obtain ⟨q1, q2⟩ := hfin X2 w3 v3 M3 bo3 b2 o3 m3 n3
      have e : encL .nil = [1] ++ numL (tl .nil).length := by unfold encL; rw [show layT .nil = [] from rfl, List.append_nil]
      rw [e] at hlt ⊢
      obtain ⟨a, c, rfl, hs⟩ := sl_of_own o3 hlt
      exact ⟨a, M3, c, rfl, hs, q1⟩
    subst hX1
    generalize encL .nil = E at *
    simp only [tl, List.length_nil] at *
    clear hA hO1 hfin hlt hQ hO hC hlay htot
    go_enter Try.func70, Try.ntmps70
    go_wp2_with (first
      | (go_at_call 125; go_loud (refine hCt.out.mono ?_); rintro e X2 ⟨rfl, b2⟩; have B2 := Lib.hid b2; have hNum := Lib.hid (ser_num (xs := [1]) (HO1.out.below b2) (by simp) 0 (by omega)); clear b2)
      | (go_at_call 124; refine hNum.out.mono ?_; rintro e w3 ⟨v3, M3, bo3, rfl, e3, o3, m3, n3⟩; have hL2 := Lib.hid (hEnd.out X2 w3 v3 M3 bo3 B2.out o3 m3 n3); obtain ⟨a3, c3, hv3, _⟩ := o3.len; subst hv3; clear e3 o3 m3 n3))
    go_ret
    exact hL2.out
  · obtain ⟨n, rfl⟩ : ∃ n, p = some ⟨n, 0, none⟩ := by
      obtain ⟨k, e⟩ := hT.isN hn
      exact ⟨k, by simpa using e⟩
    have hLay : Hid (∀ X2 w3 v3 M3 bo3, Below X1.heap.size X1 X2 → OwnS 1 u8T w3 v3 M3 (bV ([1] ++ numL (tl t).length)) bo3 → Mod (fun j => some w.heap.size = some j) X2 w3 → NewOr X2 (some w.heap.size) bo3 → Calls Try.prog 126 #[v3, .pointer (some ⟨n, 0, none⟩)] w3 (encPost w (encL t))) := fun X2 w3 v3 M3 bo3 b2 o3 m3 n3 => by
      obtain ⟨q1, q2⟩ := hfin X2 w3 v3 M3 bo3 b2 o3 m3 n3
      refine (lay_any (tdep t) t (Nat.le_refl _) hQ hT hn hO hC q1 (by rw [← own_m o3]; exact o3) q2 (by simp only [List.length_append, List.length_cons, List.length_nil]; omega)).mono ?_
      rintro e w4 ⟨v4, M4, bo4, rfl, o4, m4, n4⟩
      obtain ⟨a, c, rfl, hs⟩ := sl_of_own o4 hlt
      exact ⟨a, M4, c, rfl, hs, q1.trans (mod_lo m4 q2 q1.size)⟩
    have hT2000 : (tl t).length ≤ 2000 := htot
    subst hX1
    generalize (tl t).length = T at *
    generalize encL t = E at *
    clear hA hO1 hfin hlt hQ hO hC hlay htot hT
    go_enter Try.func70, Try.ntmps70
    have hwT : IntKind.u64.wrap (T : Int) = (T : Int) := wrap_u64 (by omega)
    go_wp2_with (first
      | (go_at_call 125; go_loud (refine hCt.out.mono ?_); rintro e X2 ⟨rfl, b2⟩; have B2 := Lib.hid b2; have hNum := Lib.hid (ser_num (xs := [1]) (HO1.out.below b2) (by simp) T (by omega)); clear b2)
      | (go_at_call 124; refine hNum.out.mono ?_; rintro e w3 ⟨v3, M3, bo3, rfl, e3, o3, m3, n3⟩; have hL2 := Lib.hid (hLay.out X2 w3 v3 M3 bo3 B2.out o3 m3 n3); obtain ⟨a3, c3, hv3, _⟩ := o3.len; subst hv3; clear e3 o3 m3 n3)
      | (go_at_call 126; refine hL2.out.mono ?_; rintro e w4 ⟨a, m, c, rfl, q1, q2⟩; have Q1 := Lib.hid q1; have Q2 := Lib.hid q2; clear q1 q2))
    go_ret
    exact ⟨a, m, c, rfl, Q1.out, Q2.out⟩
theorem size_any {w0 w : World} {Q : List NP} {t : Tr} {p : Option Addr} (hQ : StoreP NoB w0 w Q) (hT : TreeV Q t (.pointer p)) (hO : TOk t) (hC : Can t) (hlay : (layT t).length ≤ 700000) (htot : (tl t).length ≤ 2000) :
    Calls Try.prog 72 #[.pointer p] w (belowPost (.int .i64 ((encL t).length : Nat)) w) := by
  have hE := Lib.hid (encode_any hQ hT hO hC hlay htot)
  generalize encL t = E at *
  clear hQ hT hO hC hlay htot
  go_enter Try.func72, Try.ntmps72
  go_wp2_with (go_at_call 70; refine hE.out.mono ?_; rintro e w2 ⟨a, m, c, rfl, s, b⟩; have B := Lib.hid b; have hm := Lib.hid s.len; clear b s)
  go_ret
  exact ⟨by rw [hm.out]; rfl, B.out⟩
end Go.Proofs.Ytkonbldjmcccmaa
/- The document's bytes of a tree. -/
namespace Go.Proofs.Ytkonbldjmcccmaa
open Go.RowKit
theorem can_of_sh : ∀ (t t' : Tr), sh t = sh t' → TOk t → TOk t' → Can t → Can t' → t = t'
  | .nil, .nil, _, _, _, _, _ => rfl
  | .nil, .kid .., h, _, _, _, _ => by cases h
  | .nil, .node .., h, _, _, _, _ => by cases h
  | .kid .., .nil, h, _, _, _, _ => by cases h
  | .kid .., .node .., h, _, _, _, _ => by cases h
  | .node .., .nil, h, _, _, _, _ => by cases h
  | .node .., .kid .., h, _, _, _, _ => by cases h
  | .kid b t r, .kid b' t' r', h, ⟨_, _, o1, _, o2, _⟩, ⟨_, _, o1', _, o2', _⟩, ⟨c1, c2⟩, ⟨c1', c2'⟩ => by
    simp only [sh, Tr.kid.injEq] at h
    obtain ⟨e1, e2, e3⟩ := h
    rw [e1, can_of_sh t t' e2 o1 o1' c1 c1', can_of_sh r r' e3 o2 o2' c2 c2']
  | .node bs v has leaf ks, .node bs' v' has' leaf' ks', h, ⟨_, _, _, _, l1, _, o1⟩, ⟨_, _, _, _, l1', _, o1'⟩, ⟨c1, c2⟩, ⟨c1', c2'⟩ => by
    simp only [sh, Tr.node.injEq] at h
    obtain ⟨e1, e2, e3, _, e4⟩ := h
    have e5 := can_of_sh ks ks' e4 o1 o1' c1 c1'
    subst e1; subst e2; subst e3; subst e5
    have : leaf = leaf' := by
      cases leaf with
      | true =>
        cases leaf' with
        | true => rfl
        | false =>
          have := c2' rfl
          rw [(l1 rfl).2] at this
          cases has <;> simp [chain] at this
      | false =>
        cases leaf' with
        | false => rfl
        | true =>
          have := c2 rfl
          rw [(l1' rfl).2] at this
          cases has <;> simp [chain] at this
    rw [this]
/-- two canonical trees of the same pairs are the same -/
theorem can_eq {t t' : Tr} (h : IsN t) (h' : IsN t') (o : TOk t) (o' : TOk t') (c : Can t) (c' : Can t') (e : tl t = tl t') : t = t' :=
  can_of_sh t t' (sh_eq t t' (Or.inl ⟨h, h'⟩) o o' c c' e) o o' c c'
set_option maxHeartbeats 1000000 in
theorem doc_head (w : World) (pv bv kv : Value) (v : Int) (has leaf : Bool) (ks : Tr) : Calls Try.prog 178 #[.agg #[.int .i64 (rkind leaf ks : Nat), pv, .bool has, .int .u64 v, bv, kv]] w (belowPost (.int .u8 (headN has leaf (chain ks).length : Nat)) w) := by
  have hR : (rkind leaf ks = 1 ∧ headN has leaf (chain ks).length = 0) ∨ (rkind leaf ks = 4 ∧ headN has leaf (chain ks).length = (if has then 16 else 0) + 1) ∨ (rkind leaf ks = 16 ∧ headN has leaf (chain ks).length = (if has then 16 else 0) + 2) ∨ (rkind leaf ks = 48 ∧ headN has leaf (chain ks).length = (if has then 16 else 0) + 3) ∨ (rkind leaf ks = 256 ∧ headN has leaf (chain ks).length = (if has then 16 else 0) + 4) := by
    cases leaf with
    | true => exact Or.inl ⟨rfl, rfl⟩
    | false =>
      rw [headN_kind]
      have e : rkind false ks = kindOf (chain ks).length := rfl
      rw [e]
      rcases kindOf_cases (chain ks).length with e | e | e | e <;> rw [e] <;> simp
  generalize rkind leaf ks = rk at *
  generalize headN has leaf (chain ks).length = hd at *
  rcases hR with ⟨rfl, rfl⟩ | ⟨rfl, rfl⟩ | ⟨rfl, rfl⟩ | ⟨rfl, rfl⟩ | ⟨rfl, rfl⟩
  · obtain ⟨wb, hwb⟩ : ∃ wb, wb = w.alloc (.cells #[.int .i64 ((1 : Nat) : Int), pv, .bool has, .int .u64 v, bv, kv] rnT) := ⟨_, rfl⟩
    have hbox : wb.heap[w.heap.size]? = some (.cells [.int .i64 ((1 : Nat) : Int), pv, .bool has, .int .u64 v, bv, kv].toArray rnT (0, 0)) := by rw [hwb]; exact six_new w _ _ _ _ _ _ rnT
    have hB : Below w.heap.size w wb := by rw [hwb]; exact (Below.refl _ w).alloc (Nat.le_refl _) _
    have HB := Lib.hid hB
    obtain ⟨x0, x1, x2, x3, x4, x5, _⟩ := six_facts hbox
    clear hB hbox
    cases has
    · go_enter Try.func178, Try.ntmps178
      go_upto_region 1 with fail
      rw [show (w.alloc (.cells #[.int .i64 1, pv, .bool false, .int .u64 v, bv, kv] rnT)) = wb from hwb.symm]
      clear hwb
      go_wp2_with fail
      go_ret
      exact ⟨rfl, HB.out⟩
    · go_enter Try.func178, Try.ntmps178
      go_upto_region 1 with fail
      rw [show (w.alloc (.cells #[.int .i64 1, pv, .bool true, .int .u64 v, bv, kv] rnT)) = wb from hwb.symm]
      clear hwb
      go_wp2_with fail
      go_ret
      exact ⟨rfl, HB.out⟩

  · obtain ⟨wb, hwb⟩ : ∃ wb, wb = w.alloc (.cells #[.int .i64 ((4 : Nat) : Int), pv, .bool has, .int .u64 v, bv, kv] rnT) := ⟨_, rfl⟩
    have hbox : wb.heap[w.heap.size]? = some (.cells [.int .i64 ((4 : Nat) : Int), pv, .bool has, .int .u64 v, bv, kv].toArray rnT (0, 0)) := by rw [hwb]; exact six_new w _ _ _ _ _ _ rnT
    have hB : Below w.heap.size w wb := by rw [hwb]; exact (Below.refl _ w).alloc (Nat.le_refl _) _
    have HB := Lib.hid hB
    obtain ⟨x0, x1, x2, x3, x4, x5, _⟩ := six_facts hbox
    clear hB hbox
    cases has
    · go_enter Try.func178, Try.ntmps178
      go_upto_region 1 with fail
      rw [show (w.alloc (.cells #[.int .i64 4, pv, .bool false, .int .u64 v, bv, kv] rnT)) = wb from hwb.symm]
      clear hwb
      go_wp2_with fail
      go_ret
      exact ⟨rfl, HB.out⟩
    · go_enter Try.func178, Try.ntmps178
      go_upto_region 1 with fail
      rw [show (w.alloc (.cells #[.int .i64 4, pv, .bool true, .int .u64 v, bv, kv] rnT)) = wb from hwb.symm]
      clear hwb
      go_wp2_with fail
      go_ret
      exact ⟨rfl, HB.out⟩

  · obtain ⟨wb, hwb⟩ : ∃ wb, wb = w.alloc (.cells #[.int .i64 ((16 : Nat) : Int), pv, .bool has, .int .u64 v, bv, kv] rnT) := ⟨_, rfl⟩
    have hbox : wb.heap[w.heap.size]? = some (.cells [.int .i64 ((16 : Nat) : Int), pv, .bool has, .int .u64 v, bv, kv].toArray rnT (0, 0)) := by rw [hwb]; exact six_new w _ _ _ _ _ _ rnT
    have hB : Below w.heap.size w wb := by rw [hwb]; exact (Below.refl _ w).alloc (Nat.le_refl _) _
    have HB := Lib.hid hB
    obtain ⟨x0, x1, x2, x3, x4, x5, _⟩ := six_facts hbox
    clear hB hbox
    cases has
    · go_enter Try.func178, Try.ntmps178
      go_upto_region 1 with fail
      rw [show (w.alloc (.cells #[.int .i64 16, pv, .bool false, .int .u64 v, bv, kv] rnT)) = wb from hwb.symm]
      clear hwb
      go_wp2_with fail
      go_ret
      exact ⟨rfl, HB.out⟩
    · go_enter Try.func178, Try.ntmps178
      go_upto_region 1 with fail
      rw [show (w.alloc (.cells #[.int .i64 16, pv, .bool true, .int .u64 v, bv, kv] rnT)) = wb from hwb.symm]
      clear hwb
      go_wp2_with fail
      go_ret
      exact ⟨rfl, HB.out⟩

  · obtain ⟨wb, hwb⟩ : ∃ wb, wb = w.alloc (.cells #[.int .i64 ((48 : Nat) : Int), pv, .bool has, .int .u64 v, bv, kv] rnT) := ⟨_, rfl⟩
    have hbox : wb.heap[w.heap.size]? = some (.cells [.int .i64 ((48 : Nat) : Int), pv, .bool has, .int .u64 v, bv, kv].toArray rnT (0, 0)) := by rw [hwb]; exact six_new w _ _ _ _ _ _ rnT
    have hB : Below w.heap.size w wb := by rw [hwb]; exact (Below.refl _ w).alloc (Nat.le_refl _) _
    have HB := Lib.hid hB
    obtain ⟨x0, x1, x2, x3, x4, x5, _⟩ := six_facts hbox
    clear hB hbox
    cases has
    · go_enter Try.func178, Try.ntmps178
      go_upto_region 1 with fail
      rw [show (w.alloc (.cells #[.int .i64 48, pv, .bool false, .int .u64 v, bv, kv] rnT)) = wb from hwb.symm]
      clear hwb
      go_wp2_with fail
      go_ret
      exact ⟨rfl, HB.out⟩
    · go_enter Try.func178, Try.ntmps178
      go_upto_region 1 with fail
      rw [show (w.alloc (.cells #[.int .i64 48, pv, .bool true, .int .u64 v, bv, kv] rnT)) = wb from hwb.symm]
      clear hwb
      go_wp2_with fail
      go_ret
      exact ⟨rfl, HB.out⟩

  · obtain ⟨wb, hwb⟩ : ∃ wb, wb = w.alloc (.cells #[.int .i64 ((256 : Nat) : Int), pv, .bool has, .int .u64 v, bv, kv] rnT) := ⟨_, rfl⟩
    have hbox : wb.heap[w.heap.size]? = some (.cells [.int .i64 ((256 : Nat) : Int), pv, .bool has, .int .u64 v, bv, kv].toArray rnT (0, 0)) := by rw [hwb]; exact six_new w _ _ _ _ _ _ rnT
    have hB : Below w.heap.size w wb := by rw [hwb]; exact (Below.refl _ w).alloc (Nat.le_refl _) _
    have HB := Lib.hid hB
    obtain ⟨x0, x1, x2, x3, x4, x5, _⟩ := six_facts hbox
    clear hB hbox
    cases has
    · go_enter Try.func178, Try.ntmps178
      go_upto_region 1 with fail
      rw [show (w.alloc (.cells #[.int .i64 256, pv, .bool false, .int .u64 v, bv, kv] rnT)) = wb from hwb.symm]
      clear hwb
      go_wp2_with fail
      go_ret
      exact ⟨rfl, HB.out⟩
    · go_enter Try.func178, Try.ntmps178
      go_upto_region 1 with fail
      rw [show (w.alloc (.cells #[.int .i64 256, pv, .bool true, .int .u64 v, bv, kv] rnT)) = wb from hwb.symm]
      clear hwb
      go_wp2_with fail
      go_ret
      exact ⟨rfl, HB.out⟩
end Go.Proofs.Ytkonbldjmcccmaa
/- Bytes behind bytes: append of any slice of bytes, also of none. -/
namespace Go.Proofs.Ytkonbldjmcccmaa
open Go.RowKit
theorem run_append_no (w : World) (t ty : TypeId) (ht : Try.prog.underlying t = some (.slice u8T)) (b : Option Addr) (n cap c : Nat) (hle : n ≤ cap) : (Builtin.append_ #[t, t] ty #[.slice b n cap, .slice none 0 c]).run Try.prog w = .ok (.slice b n cap) w := by
  obtain ⟨i, hi, hz, hsize, hby⟩ := info_parts cloneB_info
  have hu : ∀ w, (underlying t).run Try.prog w = .ok (.slice u8T) w := fun w => by simp [underlying, go_sem, ht]
  have hs : ∀ w, (sizeOf u8T).run Try.prog w = .ok 1 w := fun w => by
    have hi' : Try.prog.info? u8T = some i := hi
    simp [sizeOf, typeInfo, go_sem, hi', hsize]
  cases b with
  | none =>
    simp only [Builtin.append_, Sem.run_bind, Result.andThen_ok, hu, hs, List.getElem?_toArray, List.getElem?_cons_zero, List.getElem?_cons_succ]
    simp [go_sem, hu, hs, hle, storeCells]
  | some p =>
    simp only [Builtin.append_, Sem.run_bind, Result.andThen_ok, hu, hs, List.getElem?_toArray, List.getElem?_cons_zero, List.getElem?_cons_succ]
    simp [go_sem, hu, hs, hle, storeCells]
theorem run_append_l {w : World} {v : Value} {n : Nat} {zs : List Nat} {bo : Option Nat} (h : OwnS 1 u8T w v n (bV zs) bo) {a : Option Addr} {m c : Nat} {ys : List Nat} (hS : Sl w a m c ys) (hn : n ≤ 1000000) (hm : m ≤ 1000000) (ty : TypeId) :
    ∃ v' w' bo', (Builtin.append_ #[27, 27] ty #[v, .slice a m c]).run Try.prog w = .ok v' w' ∧ OwnS 1 u8T w' v' (n + m) (bV zs ++ bV ys) bo' ∧ Mod (fun j => bo = some j) w w' ∧ NewOr w bo bo' := by
  have hl := hS.len
  cases a with
  | none =>
    obtain ⟨rfl, rfl⟩ := hS.nil rfl
    obtain rfl : ys = [] := List.eq_nil_of_length_eq_zero hl
    obtain ⟨b, cap, rfl, h1, _⟩ := h.len
    exact ⟨_, w, bo, run_append_no w 27 ty Try.underlying27 b n cap 0 h1, by simpa [bV] using h, Mod.refl _ _, Or.inl rfl⟩
  | some p =>
    obtain ⟨i, hi, hz, hsize, hby⟩ := info_parts cloneB_info
    exact run_append_s w 27 ty u8T i _ 1 1 Try.underlying27 hi hz hsize hby rfl (by omega) v n (bV zs) bo h p m c (bV ys) (by simp [bV, hl]) (sl_news hS (Below.refl _ w)) (bV_one ys) (by unfold maxLen; omega) (by omega)
theorem wpList_l {w : World} {ops : Array Oper} {rest : List Oper} {o : Oper} {a : Act} {Q : Exit → Act → World → Prop} (hgd : o.guard = none) (s x : Operand)
    (ho : o.op = .call { callee := .builtin .append, args := #[s, x], argTypes := #[27, 27] })
    {v : Value} {n : Nat} {zs : List Nat} {bo : Option Nat} (hs : a.eval s = v) (h : OwnS 1 u8T w v n (bV zs) bo) {a3 : Option Addr} {m c : Nat} {ys : List Nat} (hx : a.eval x = .slice a3 m c) (hS : Sl w a3 m c ys) (hn : n ≤ 1000000) (hm : m ≤ 1000000)
    (K : ∀ v' w' bo', Hid (OwnS 1 u8T w' v' (n + m) (bV zs ++ bV ys) bo') → Hid (Mod (fun j => bo = some j) w w') → Hid (NewOr w bo bo') → wpList Try.prog ops Q rest (a.put o.dst v') w') : wpList Try.prog ops Q (o :: rest) a w := by
  refine wpList_plain hgd fun K2 hK => ?_
  obtain ⟨v', w', bo', hr, h2, h3, h4⟩ := run_append_l h hS hn hm o.type
  unfold Oper.wp execOp
  simp only [ho, resolve, invoke, builtin, Sem.run_bind, Sem.run_pure, Result.andThen_ok, List.map_toArray, List.map_cons, List.map_nil, hs, hx, hr]
  exact hK _ _ (K v' w' bo' h2 h3 h4)
theorem step_l {w : World} {ops : Array Oper} {o : Oper} {a : Act} {K : Act → World → Prop} {Q : Exit → Act → World → Prop} {E : Prop} (hgd : o.guard = none) (s x : Operand)
    (ho : o.op = .call { callee := .builtin .append, args := #[s, x], argTypes := #[27, 27] })
    {v : Value} {n : Nat} {zs : List Nat} {bo : Option Nat} (hs : a.eval s = v) (h : OwnS 1 u8T w v n (bV zs) bo) {a3 : Option Addr} {m c : Nat} {ys : List Nat} (hx : a.eval x = .slice a3 m c) (hS : Sl w a3 m c ys) (hn : n ≤ 1000000) (hm : m ≤ 1000000)
    (h' : ∀ v' w' bo', Hid (OwnS 1 u8T w' v' (n + m) (bV zs ++ bV ys) bo') → Hid (Mod (fun j => bo = some j) w w') → Hid (NewOr w bo bo') → K (a.put o.dst v') w') :
    if Region.wanted o (yielded ops a.tmps) = true then Oper.wp Try.prog o a w K Q else E := by
  have hw : Region.wanted o (yielded ops a.tmps) = true := by simp [Region.wanted, hgd]
  rw [if_pos hw]
  obtain ⟨v', w', bo', hr, h2, h3, h4⟩ := run_append_l h hS hn hm o.type
  unfold Oper.wp execOp
  simp only [ho, resolve, invoke, builtin, Sem.run_bind, Sem.run_pure, Result.andThen_ok, List.map_toArray, List.map_cons, List.map_nil, hs, hx, hr]
  exact h' v' w' bo' h2 h3 h4
/-- bytes that are begun anew -/
theorem LayI.fresh {wb X w3 : World} {zs : List Nat} {v : Value} {M : Nat} {bo bo3 : Option Nat} (hb : Below wb.heap.size wb X) (hO : OwnS 1 u8T w3 v M (bV zs) bo3) (hM : Mod (fun j => bo = some j) X w3) (hN : NewOr X bo bo3) (hg : ∀ g, bo = some g → wb.heap.size ≤ g) : LayI none wb zs v M bo3 w3 := by
  have h1 : Below wb.heap.size wb w3 := hb.trans (mod_lo hM hg hb.size)
  refine ⟨hO, own_m hO, Mod.of_below h1, ?_⟩
  have h2 := newOr_lo hN hg hb.size
  cases bo3 with
  | none => exact Or.inl rfl
  | some g => exact Or.inr ⟨g, rfl, h2 g rfl⟩
theorem LayI.since {wb w3 : World} {zs : List Nat} {v : Value} {M : Nat} {bo3 : Option Nat} (h : LayI none wb zs v M bo3 w3) : Below wb.heap.size wb w3 ∧ ∀ g, bo3 = some g → wb.heap.size ≤ g :=
  h.lo (Below.refl _ _) (fun g e => by cases e)
theorem LayI.done0 {w wb w3 : World} {zs : List Nat} {v : Value} {M : Nat} {bo3 : Option Nat} (h : LayI none wb zs v M bo3 w3) (hb : Below w.heap.size w wb) : layPost none w zs (.returned v) w3 := by
  refine ⟨v, M, bo3, rfl, h.own, Mod.of_below (hb.trans (h.since.1.mono hb.size)), ?_⟩
  have := h.since.2
  cases bo3 with
  | none => exact Or.inl rfl
  | some g => exact Or.inr ⟨g, rfl, Nat.le_trans hb.size (this g rfl)⟩
theorem LayI.sl {wb w3 : World} {zs : List Nat} {v : Value} {M : Nat} {bo bo3 : Option Nat} (h : LayI bo wb zs v M bo3 w3) (h8 : ∀ x ∈ zs, x < 256) : ∃ a c, v = .slice a M c ∧ Sl w3 a M c zs := sl_of_own h.own h8
/-- a slice that stands below what is written stays -/
theorem Sl.modNew {w X w' : World} {a : Option Addr} {n c : Nat} {bs : List Nat} {bo : Option Nat} (h : Sl w a n c bs) (hb : Below w.heap.size w X) (hM : Mod (fun j => bo = some j) X w') (hg : ∀ g, bo = some g → w.heap.size ≤ g) : Sl w' a n c bs :=
  h.below (hb.trans (mod_lo hM hg hb.size))
end Go.Proofs.Ytkonbldjmcccmaa
/- The document's bytes of a node. -/
namespace Go.Proofs.Ytkonbldjmcccmaa
open Go.RowKit
def DnAsk (N : Nat) : Prop := ∀ (bs : List Nat) (v : Int) (has leaf : Bool) (ks : Tr) (c : List Value) {w : World} {G : Nat → Prop}, tdep (.node bs v has leaf ks) ≤ N → RT w G (.node bs v has leaf ks) none 0 c → (∀ j, G j → j < w.heap.size) → TOk (.node bs v has leaf ks) → Can (.node bs v has leaf ks) → (layT (.node bs v has leaf ks)).length ≤ 800000 → Calls Try.prog 127 #[.agg c.toArray] w (layPost none w (layT (.node bs v has leaf ks)))
theorem tdep_ofL : ∀ {L : List (Nat × Tr)} {x : Nat × Tr}, x ∈ L → tdep x.2 ≤ tdep (ofL L)
  | [], x, h => by simp at h
  | y :: L, x, h => by
    simp only [ofL, tdep]
    rcases List.mem_cons.1 h with rfl | h
    · omega
    · have := tdep_ofL h; omega
set_option maxHeartbeats 4000000 in
set_option maxRecDepth 100000 in
theorem dn_leaf (N : Nat) (IH : DnAsk N) (bs : List Nat) (y : Nat) (ks : Tr) (c : List Value) {w : World} {G : Nat → Prop} (hdp : tdep (.node bs (y : Nat) true true ks) ≤ N + 1) (hR : RT w G (.node bs (y : Nat) true true ks) none 0 c) (hG : ∀ j, G j → j < w.heap.size) (hO : TOk (.node bs (y : Nat) true true ks)) (hC : Can (.node bs (y : Nat) true true ks)) (htot : (layT (.node bs (y : Nat) true true ks)).length ≤ 800000) : Calls Try.prog 127 #[.agg c.toArray] w (layPost none w (layT (.node bs (y : Nat) true true ks))) := by
  obtain ⟨pa, pn, pc, ba, bn, bc, ra, rn, rc, rfl, h2, h3, rfl, h5, h6⟩ := hR
  have hb8 : Hid (∀ x ∈ layT (.node bs (y : Nat) true true ks), x < 256) := layT_byte _ hO
  obtain ⟨o1, o2, o3, o4, o5, o6, o7⟩ := hO
  obtain ⟨wb, hwb⟩ : ∃ wb, wb = w.alloc (.cells #[.int .i64 (rkind true ks : Nat), .slice pa pn pc, .bool true, .int .u64 (y : Nat), .slice ba bn bc, .slice ra (chain ks).length rc] rnT) := ⟨_, rfl⟩
  have hbox : wb.heap[w.heap.size]? = some (.cells [.int .i64 (rkind true ks : Nat), .slice pa pn pc, .bool true, .int .u64 (y : Nat), .slice ba bn bc, .slice ra (chain ks).length rc].toArray rnT (0, 0)) := by rw [hwb]; exact six_new w _ _ _ _ _ _ rnT
  have hB : Below w.heap.size w wb := by rw [hwb]; exact (Below.refl _ w).alloc (Nat.le_refl _) _
  have hpl := h2.sl.len
  have HB := Lib.hid hB
  obtain ⟨hd, hhd⟩ : ∃ hd, hd = headN true true (chain ks).length := ⟨_, rfl⟩
  have hHead := Lib.hid (fun X => doc_head X (.slice pa pn pc) (.slice ba bn bc) (.slice ra (chain ks).length rc) (y : Nat) true true ks)
  rw [← hhd] at hHead
  obtain ⟨m, hm⟩ : ∃ m, m = (chain ks).length := ⟨_, rfl⟩
  rw [← hm] at h5 hbox hwb hHead ⊢
  obtain ⟨KD, hrk⟩ : ∃ x : Int, x = ((rkind true ks : Nat) : Int) := ⟨_, rfl⟩
  rw [← hrk] at hHead hbox hwb ⊢
  have hall : Hid (∀ X, Below wb.heap.size wb X → X.cell? ⟨w.heap.size, 0, none⟩ = some (.int .i64 KD) ∧ X.cell? ⟨w.heap.size, 1, none⟩ = some (.slice pa pn pc) ∧ X.cell? ⟨w.heap.size, 2, none⟩ = some (.bool true) ∧ X.cell? ⟨w.heap.size, 3, none⟩ = some (.int .u64 (y : Nat)) ∧ X.cell? ⟨w.heap.size, 4, none⟩ = some (.slice ba bn bc) ∧ X.cell? ⟨w.heap.size, 5, none⟩ = some (.slice ra m rc)) := fun X hb => by
    obtain ⟨x0, x1, x2, x3, x4, x5, _⟩ := six_facts ((hb.block w.heap.size (Array.getElem?_eq_some_iff.1 hbox).1).trans hbox)
    exact ⟨x0, x1, x2, x3, x4, x5⟩
  have hS2 := Lib.hid (h2.sl.below hB)
  have hT : Hid ([hd] ++ numL pn ++ bs ++ (numL y) ++ ([]:List Nat) = layT (.node bs (y : Nat) true true ks)) := by
    show _ = _
    simp only [layT, Int.toNat_natCast]
    rw [hhd]
    (try rw [hm])
    rw [← hpl]
    simp
  have htl : Hid (1 + (numL pn).length + pn + (numL y).length + ([]:List Nat).length ≤ 800000) := by
    have := congrArg List.length hT.out
    simp only [List.length_append, List.length_cons, List.length_nil] at this
    show _ ≤ _
    (try simp only [List.length_append, List.length_cons, List.length_nil])
    omega
  obtain ⟨T, hTe⟩ : ∃ T, T = layT (.node bs (y : Nat) true true ks) := ⟨_, rfl⟩
  rw [← hTe] at hT htot hb8 ⊢
  have hpnl : pn ≤ 800000 := by have := htl.out; omega
  have hw : IntKind.u64.wrap ((pn : Nat) : Int) = (pn : Nat) := wrap_u64 (by omega)
  have hL10 : Hid ((numL pn).length ≤ 10) := numL_ten (by omega)
  have h1m : Hid (1 ≤ 1000000) := by show _ ≤ _; omega
  have hpm : Hid (pn ≤ 1000000) := by show _ ≤ _; omega
  have hn8 := Lib.hid (fun n => numL_byte n)
  have HT := Lib.hid htot
  have hy64 : Hid (y < 18446744073709551616) := by show _ < _; omega
  have HWB := Lib.hid (Below.refl wb.heap.size wb)
  have hk1 : (KD == 1) = true := by rw [beq_iff_eq]; exact hrk
  have hT2 : Hid ([hd] ++ numL pn ++ bs ++ numL y = T) := by show _ = _; rw [← hT.out]; simp
  clear hm hrk hhd hTe htot hbox h2 h3 h5 h6 o1 o2 o3 o4 o5 o6 o7 hC hG hpl hdp IH hB
  go_enter Try.func127, Try.ntmps127
  go_upto_region 1 with fail
  rw [← hwb]
  clear hwb
  go_cut [3] from 5 to 13 (fun s3 w' => ∃ M bo, LayI none wb ([hd] ++ numL pn) s3 M bo w')
  case first =>
    obtain ⟨x0, x1, x2, x3, x4, x5⟩ := hall.out wb (Below.refl _ _)
    go_region_law (first
      | (refine step_l (v := .slice (some ⟨w2.heap.size, 0, none⟩) 1 1) (a3 := a2) (m := M2) (c := c2) rfl (.tmp 7) (.tmp 12) rfl rfl hTwo.out rfl hS2m.out h1m.out hM2.out ?_; intro v3 w3 bo3 HO HM HN
         have I3 := Lib.hid (LayI.fresh (zs := [hd] ++ numL pn) B2m.out (by rw [bV_app]; exact HO.out) HM.out HN.out hg1.out)
         clear HO HM HN)
      | (refine step_l (v := .slice (some ⟨w1.heap.size, 0, none⟩) 1 1) (a3 := a2) (m := M2) (c := c2) rfl (.tmp 7) (.tmp 12) rfl rfl hOne.out rfl hS2n.out h1m.out hM2.out ?_; intro v3 w3 bo3 HO HM HN
         have I3 := Lib.hid (LayI.fresh (zs := [hd] ++ numL pn) B2.out (by rw [bV_app]; exact HO.out) HM.out HN.out hg1.out)
         clear HO HM HN)
      | (go_simp; go_at_call 66; refine (doc_Num w1 pn (by omega)).mono ?_; rintro e w2 ⟨v2, M2, bo2, rfl, e2, o2, m2, n2⟩
         obtain ⟨a2, c2, rfl, s2⟩ := sl_of_own o2 (fun x hx => hn8.out pn x (by simpa using hx))
         rw [List.nil_append] at s2
         have b2 := mod_lo m2 (fun g e => by cases e) (Nat.le_refl _)
         have b3 : Below w2.heap.size w2 (w2.alloc (.cells #[.int .u8 (hd : Nat)] 5)) := (Below.refl _ _).alloc (Nat.le_refl _) _
         have hS2m := Lib.hid (s2.below b3)
         have hTwo := Lib.hid (own_one w2 hd)
         have b4 := B1.out.trans (b2.mono B1.out.size)
         have B2m := Lib.hid (b4.trans (b3.mono b4.size))
         have hg1 : Hid (∀ g, some w2.heap.size = some g → wb.heap.size ≤ g) := fun g e => (by cases e; exact b4.size)
         have hM2 : Hid (M2 ≤ 1000000) := (by show _ ≤ _; have := hL10.out; rw [e2]; simp only [List.length_nil]; omega)
         clear e2 o2 m2 n2 s2 b2 b3 b4)
      | (go_simp; go_at_call 66; refine (doc_Num (w1.alloc (.cells #[.int .u8 (hd : Nat)] 5)) pn (by omega)).mono ?_; rintro e w2 ⟨v2, M2, bo2, rfl, e2, o2, m2, n2⟩
         obtain ⟨a2, c2, rfl, s2⟩ := sl_of_own o2 (fun x hx => hn8.out pn x (by simpa using hx))
         rw [List.nil_append] at s2
         have hS2n := Lib.hid s2
         have b2 := mod_lo m2 (fun g e => by cases e) (Nat.le_refl _)
         have hOne := Lib.hid ((own_one w1 hd).below b2)
         have B2 := Lib.hid ((B1.out.alloc B1.out.size _).trans (b2.mono (B1.out.alloc B1.out.size _).size))
         have hg1 : Hid (∀ g, some w1.heap.size = some g → wb.heap.size ≤ g) := fun g e => (by cases e; exact B1.out.size)
         have hM2 : Hid (M2 ≤ 1000000) := (by show _ ≤ _; have := hL10.out; rw [e2]; simp only [List.length_nil]; omega)
         clear e2 o2 m2 n2 s2 b2)
      | (go_simp; go_at_call 178; refine (hHead.out _).mono ?_; rintro e w1 ⟨rfl, b1⟩; have B1 := Lib.hid ((Below.refl _ wb).drew.trans b1); obtain ⟨_, z1, _⟩ := hall.out w1 B1.out; have z2 : ∀ o, (w1.alloc o).cell? ⟨w.heap.size, 1, none⟩ = some (.slice pa pn pc) := fun o => (hall.out (w1.alloc o) (B1.out.alloc B1.out.size o)).2.1; clear b1))
    all_goals
      go_wp2_with fail
      go_meet
    all_goals exact ⟨_, _, I3.out⟩
  case rest =>
    obtain ⟨M, bo, hI⟩ := hcut
    have I3 := Lib.hid hI
    have hM : Hid (M ≤ 1000000) := by show _ ≤ _; have := hI.len; have := htl.out; simp only [List.length_append, List.length_cons, List.length_nil] at *; omega
    obtain ⟨z0, z1, z2, z3, z4, z5⟩ := hall.out wc hI.since.1
    have hSp := Lib.hid (hS2.out.below hI.since.1)
    clear hI hHead
    go_wp2_with (first
      | (at_builtin; have hg := hS5; go_loud (refine wpList_l (v := .slice a4 M4 c4) (a3 := a5) (m := M5) (c := c5) rfl (.tmp 20) (.tmp 23) rfl rfl I5.out.own rfl hS5.out hM4.out hM5.out ?_); intro v6 w6 bo6 HO HM HN
         obtain ⟨M6, i6⟩ : ∃ M6, LayI none wb ([hd] ++ numL pn ++ bs ++ numL y) v6 M6 bo6 w6 := ⟨_, I5.out.app (Below.refl _ _) HO.out HM.out HN.out⟩
         have I6 := Lib.hid i6
         have hM6 : Hid (M6 ≤ 1000000) := (by show _ ≤ _; have := i6.len; have := htl.out; have := hS2.out.len; simp only [List.length_append, List.length_cons, List.length_nil] at *; omega)
         obtain ⟨a6, c6, hv6, _⟩ := i6.own.len
         subst hv6
         obtain ⟨q0, q1, q2, q3, q4, q5⟩ := hall.out w6 i6.since.1
         clear HO HM HN i6 hS5)
      | (go_at_call 66; refine (doc_Num w4 y hy64.out).mono ?_; rintro e w5 ⟨v5, M5, bo5, rfl, e2, o2, m2, n2⟩
         obtain ⟨a5, c5, rfl, s2⟩ := sl_of_own o2 (fun x hx => hn8.out y x (by simpa using hx))
         rw [List.nil_append] at s2
         have hS5 := Lib.hid s2
         have I5 := Lib.hid (I4.out.below (mod_lo m2 (fun g e => by cases e) (Nat.le_refl _)))
         have hM5 : Hid (M5 ≤ 1000000) := (by show _ ≤ _; have := numL_ten hy64.out; rw [e2]; simp only [List.length_nil]; omega)
         clear e2 o2 m2 n2 s2)
      | (at_builtin; go_loud (refine wpList_l (a3 := pa) (m := pn) (c := pc) rfl (.tmp 14) (.tmp 16) rfl rfl I3.out.own rfl hSp.out hM.out hpm.out ?_); intro v4 w4 bo4 HO HM HN
         obtain ⟨M4, i4⟩ : ∃ M4, LayI none wb ([hd] ++ numL pn ++ bs) v4 M4 bo4 w4 := ⟨_, I3.out.app (Below.refl _ _) HO.out HM.out HN.out⟩
         have I4 := Lib.hid i4
         have hM4 : Hid (M4 ≤ 1000000) := (by show _ ≤ _; have := i4.len; have := htl.out; have := hS2.out.len; simp only [List.length_append, List.length_cons, List.length_nil] at *; omega)
         obtain ⟨a4, c4, hv4, _⟩ := i4.own.len
         subst hv4
         obtain ⟨p0, p1, p2, p3, p4, p5⟩ := hall.out w4 i4.since.1
         clear HO HM HN i4))
    go_ret
    have := I6.out.done0 HB.out
    rw [hT2.out] at this
    exact this

set_option maxHeartbeats 4000000 in
set_option maxRecDepth 100000 in
theorem dn_val (N : Nat) (IH : DnAsk N) (bs : List Nat) (y : Nat) (ks : Tr) (c : List Value) {w : World} {G : Nat → Prop} (hdp : tdep (.node bs (y : Nat) true false ks) ≤ N + 1) (hR : RT w G (.node bs (y : Nat) true false ks) none 0 c) (hG : ∀ j, G j → j < w.heap.size) (hO : TOk (.node bs (y : Nat) true false ks)) (hC : Can (.node bs (y : Nat) true false ks)) (htot : (layT (.node bs (y : Nat) true false ks)).length ≤ 800000) : Calls Try.prog 127 #[.agg c.toArray] w (layPost none w (layT (.node bs (y : Nat) true false ks))) := by
  obtain ⟨pa, pn, pc, ba, bn, bc, ra, rn, rc, rfl, h2, h3, rfl, h5, h6⟩ := hR
  have hb8 : Hid (∀ x ∈ layT (.node bs (y : Nat) true false ks), x < 256) := layT_byte _ hO
  obtain ⟨o1, o2, o3, o4, o5, o6, o7⟩ := hO
  obtain ⟨wb, hwb⟩ : ∃ wb, wb = w.alloc (.cells #[.int .i64 (rkind false ks : Nat), .slice pa pn pc, .bool true, .int .u64 (y : Nat), .slice ba bn bc, .slice ra (chain ks).length rc] rnT) := ⟨_, rfl⟩
  have hbox : wb.heap[w.heap.size]? = some (.cells [.int .i64 (rkind false ks : Nat), .slice pa pn pc, .bool true, .int .u64 (y : Nat), .slice ba bn bc, .slice ra (chain ks).length rc].toArray rnT (0, 0)) := by rw [hwb]; exact six_new w _ _ _ _ _ _ rnT
  have hB : Below w.heap.size w wb := by rw [hwb]; exact (Below.refl _ w).alloc (Nat.le_refl _) _
  have hpl := h2.sl.len
  have HB := Lib.hid hB
  obtain ⟨hd, hhd⟩ : ∃ hd, hd = headN true false (chain ks).length := ⟨_, rfl⟩
  have hHead := Lib.hid (fun X => doc_head X (.slice pa pn pc) (.slice ba bn bc) (.slice ra (chain ks).length rc) (y : Nat) true false ks)
  rw [← hhd] at hHead
  obtain ⟨m, hm⟩ : ∃ m, m = (chain ks).length := ⟨_, rfl⟩
  rw [← hm] at h5 hbox hwb hHead ⊢
  obtain ⟨KD, hrk⟩ : ∃ x : Int, x = ((rkind false ks : Nat) : Int) := ⟨_, rfl⟩
  rw [← hrk] at hHead hbox hwb ⊢
  have hall : Hid (∀ X, Below wb.heap.size wb X → X.cell? ⟨w.heap.size, 0, none⟩ = some (.int .i64 KD) ∧ X.cell? ⟨w.heap.size, 1, none⟩ = some (.slice pa pn pc) ∧ X.cell? ⟨w.heap.size, 2, none⟩ = some (.bool true) ∧ X.cell? ⟨w.heap.size, 3, none⟩ = some (.int .u64 (y : Nat)) ∧ X.cell? ⟨w.heap.size, 4, none⟩ = some (.slice ba bn bc) ∧ X.cell? ⟨w.heap.size, 5, none⟩ = some (.slice ra m rc)) := fun X hb => by
    obtain ⟨x0, x1, x2, x3, x4, x5, _⟩ := six_facts ((hb.block w.heap.size (Array.getElem?_eq_some_iff.1 hbox).1).trans hbox)
    exact ⟨x0, x1, x2, x3, x4, x5⟩
  have hS2 := Lib.hid (h2.sl.below hB)
  have hT : Hid ([hd] ++ numL pn ++ bs ++ (numL y) ++ ((m - 1)::layT ks) = layT (.node bs (y : Nat) true false ks)) := by
    show _ = _
    simp only [layT, Int.toNat_natCast]
    rw [hhd]
    (try rw [hm])
    rw [← hpl]
    simp
  have htl : Hid (1 + (numL pn).length + pn + (numL y).length + ((m - 1)::layT ks).length ≤ 800000) := by
    have := congrArg List.length hT.out
    simp only [List.length_append, List.length_cons, List.length_nil] at this
    show _ ≤ _
    (try simp only [List.length_append, List.length_cons, List.length_nil])
    omega
  obtain ⟨T, hTe⟩ : ∃ T, T = layT (.node bs (y : Nat) true false ks) := ⟨_, rfl⟩
  rw [← hTe] at hT htot hb8 ⊢
  have hpnl : pn ≤ 800000 := by have := htl.out; omega
  have hw : IntKind.u64.wrap ((pn : Nat) : Int) = (pn : Nat) := wrap_u64 (by omega)
  have hL10 : Hid ((numL pn).length ≤ 10) := numL_ten (by omega)
  have h1m : Hid (1 ≤ 1000000) := by show _ ≤ _; omega
  have hpm : Hid (pn ≤ 1000000) := by show _ ≤ _; omega
  have hn8 := Lib.hid (fun n => numL_byte n)
  have HT := Lib.hid htot
  have hy64 : Hid (y < 18446744073709551616) := by show _ < _; omega
  have HWB := Lib.hid (Below.refl wb.heap.size wb)
  have hmm : 1 ≤ m := by
    have := hC.2 rfl
    rw [← hm] at this
    simp at this; omega
  have hm2 := chain256 o6 o7
  rw [← hm] at hm2
  have hrke : KD = ((kindOf m : Nat) : Int) := by rw [hrk, hm]; rfl
  have hk1 : (KD == 1) = false := by rw [beq_eq_false_iff_ne]; have := kindOf_cases m; omega
  obtain ⟨m1, hme⟩ : ∃ m1, m1 = m - 1 := ⟨_, rfl⟩
  have hw1 : IntKind.i64.wrap ((m : Int) - 1) = (m1 : Nat) := by rw [show (m : Int) - 1 = ((m1 : Nat) : Int) by omega]; exact IntWalk.i64_in _ (by omega)
  have hw2 : IntKind.u8.wrap (m1 : Int) = (m1 : Nat) := wrap_u8 (by omega)
  have hm1b : Hid (m1 < 256) := by show _ < _; omega
  have hT2 : Hid ([hd] ++ numL pn ++ bs ++ (numL y) ++ [m1] ++ layT ks = T) := by show _ = _; rw [← hT.out, hme]; simp
  obtain ⟨L, hL⟩ : ∃ L, L = chain ks := ⟨_, rfl⟩
  have hR6 := rt_chain h6 o6 o7
  have hOL : TOk (ofL L) := by rw [hL, ofL_chain ks o6 o7]; exact o7
  have hkL : Hid (ks = ofL L) := by show _ = _; rw [hL, ofL_chain ks o6 o7]
  rw [← hL] at h3 hR6
  have HmL : Hid (m = L.length) := by show _ = _; rw [hm, hL]
  have HCL : Hid (Can (ofL L)) := by rw [hL, ofL_chain ks o6 o7]; exact hC.1
  have HdL : Hid (tdep (ofL L) ≤ N) := by
    rw [hL, ofL_chain ks o6 o7]
    simp only [tdep] at hdp
    show _ ≤ _
    omega
  have H3 := Lib.hid h3
  have H6 := Lib.hid hR6
  have HOL := Lib.hid hOL
  have HG := Lib.hid hG
  have HIH := Lib.hid IH
  clear hrke hme hL hR6 hOL
  clear hm hrk hhd hTe htot hbox h2 h3 h5 h6 o1 o2 o3 o4 o5 o6 o7 hC hG hpl hdp IH hB
  go_enter Try.func127, Try.ntmps127
  go_upto_region 1 with fail
  rw [← hwb]
  clear hwb
  go_cut [3] from 5 to 13 (fun s3 w' => ∃ M bo, LayI none wb ([hd] ++ numL pn) s3 M bo w')
  case first =>
    obtain ⟨x0, x1, x2, x3, x4, x5⟩ := hall.out wb (Below.refl _ _)
    go_region_law (first
      | (refine step_l (v := .slice (some ⟨w2.heap.size, 0, none⟩) 1 1) (a3 := a2) (m := M2) (c := c2) rfl (.tmp 7) (.tmp 12) rfl rfl hTwo.out rfl hS2m.out h1m.out hM2.out ?_; intro v3 w3 bo3 HO HM HN
         have I3 := Lib.hid (LayI.fresh (zs := [hd] ++ numL pn) B2m.out (by rw [bV_app]; exact HO.out) HM.out HN.out hg1.out)
         clear HO HM HN)
      | (refine step_l (v := .slice (some ⟨w1.heap.size, 0, none⟩) 1 1) (a3 := a2) (m := M2) (c := c2) rfl (.tmp 7) (.tmp 12) rfl rfl hOne.out rfl hS2n.out h1m.out hM2.out ?_; intro v3 w3 bo3 HO HM HN
         have I3 := Lib.hid (LayI.fresh (zs := [hd] ++ numL pn) B2.out (by rw [bV_app]; exact HO.out) HM.out HN.out hg1.out)
         clear HO HM HN)
      | (go_simp; go_at_call 66; refine (doc_Num w1 pn (by omega)).mono ?_; rintro e w2 ⟨v2, M2, bo2, rfl, e2, o2, m2, n2⟩
         obtain ⟨a2, c2, rfl, s2⟩ := sl_of_own o2 (fun x hx => hn8.out pn x (by simpa using hx))
         rw [List.nil_append] at s2
         have b2 := mod_lo m2 (fun g e => by cases e) (Nat.le_refl _)
         have b3 : Below w2.heap.size w2 (w2.alloc (.cells #[.int .u8 (hd : Nat)] 5)) := (Below.refl _ _).alloc (Nat.le_refl _) _
         have hS2m := Lib.hid (s2.below b3)
         have hTwo := Lib.hid (own_one w2 hd)
         have b4 := B1.out.trans (b2.mono B1.out.size)
         have B2m := Lib.hid (b4.trans (b3.mono b4.size))
         have hg1 : Hid (∀ g, some w2.heap.size = some g → wb.heap.size ≤ g) := fun g e => (by cases e; exact b4.size)
         have hM2 : Hid (M2 ≤ 1000000) := (by show _ ≤ _; have := hL10.out; rw [e2]; simp only [List.length_nil]; omega)
         clear e2 o2 m2 n2 s2 b2 b3 b4)
      | (go_simp; go_at_call 66; refine (doc_Num (w1.alloc (.cells #[.int .u8 (hd : Nat)] 5)) pn (by omega)).mono ?_; rintro e w2 ⟨v2, M2, bo2, rfl, e2, o2, m2, n2⟩
         obtain ⟨a2, c2, rfl, s2⟩ := sl_of_own o2 (fun x hx => hn8.out pn x (by simpa using hx))
         rw [List.nil_append] at s2
         have hS2n := Lib.hid s2
         have b2 := mod_lo m2 (fun g e => by cases e) (Nat.le_refl _)
         have hOne := Lib.hid ((own_one w1 hd).below b2)
         have B2 := Lib.hid ((B1.out.alloc B1.out.size _).trans (b2.mono (B1.out.alloc B1.out.size _).size))
         have hg1 : Hid (∀ g, some w1.heap.size = some g → wb.heap.size ≤ g) := fun g e => (by cases e; exact B1.out.size)
         have hM2 : Hid (M2 ≤ 1000000) := (by show _ ≤ _; have := hL10.out; rw [e2]; simp only [List.length_nil]; omega)
         clear e2 o2 m2 n2 s2 b2)
      | (go_simp; go_at_call 178; refine (hHead.out _).mono ?_; rintro e w1 ⟨rfl, b1⟩; have B1 := Lib.hid ((Below.refl _ wb).drew.trans b1); obtain ⟨_, z1, _⟩ := hall.out w1 B1.out; have z2 : ∀ o, (w1.alloc o).cell? ⟨w.heap.size, 1, none⟩ = some (.slice pa pn pc) := fun o => (hall.out (w1.alloc o) (B1.out.alloc B1.out.size o)).2.1; clear b1))
    all_goals
      go_wp2_with fail
      go_meet
    all_goals exact ⟨_, _, I3.out⟩
  case rest =>
    obtain ⟨M, bo, hI⟩ := hcut
    have I3 := Lib.hid hI
    have hM : Hid (M ≤ 1000000) := by show _ ≤ _; have := hI.len; have := htl.out; simp only [List.length_append, List.length_cons, List.length_nil] at *; omega
    obtain ⟨z0, z1, z2, z3, z4, z5⟩ := hall.out wc hI.since.1
    have hSp := Lib.hid (hS2.out.below hI.since.1)
    clear hI hHead
    go_wp2_with (first
      | (at_builtin; have hg := hm1.out; go_loud (refine wpList_l (v := .slice a6 M6 c6) (a3 := some ⟨w6.heap.size, 0, none⟩) (m := 1) (c := 1) rfl (.tmp 29) (.tmp 35) rfl rfl hOwA.out rfl hOneA.out hM6.out h1m.out ?_); intro v7 w7 bo7 HO HM HN
         have I7 := Lib.hid (I6.out.app hAA.out HO.out HM.out HN.out)
         obtain ⟨a7, c7, hv7, _⟩ := I7.out.own.len
         subst hv7
         obtain ⟨y0, y1, y2, y3, y4, y5⟩ := hall.out w7 I7.out.since.1
         clear HO HM HN)
      | (at_builtin; have hg := hS5; go_loud (refine wpList_l (v := .slice a4 M4 c4) (a3 := a5) (m := M5) (c := c5) rfl (.tmp 20) (.tmp 23) rfl rfl I5.out.own rfl hS5.out hM4.out hM5.out ?_); intro v6 w6 bo6 HO HM HN
         obtain ⟨M6, i6⟩ : ∃ M6, LayI none wb ([hd] ++ numL pn ++ bs ++ numL y) v6 M6 bo6 w6 := ⟨_, I5.out.app (Below.refl _ _) HO.out HM.out HN.out⟩
         have I6 := Lib.hid i6
         have hM6 : Hid (M6 ≤ 1000000) := (by show _ ≤ _; have := i6.len; have := htl.out; have := hS2.out.len; simp only [List.length_append, List.length_cons, List.length_nil] at *; omega)
         obtain ⟨a6, c6, hv6, _⟩ := i6.own.len
         subst hv6
         obtain ⟨q0, q1, q2, q3, q4, q5⟩ := hall.out w6 i6.since.1
         have hm1 : Hid True := trivial
         have hAA : Hid (Below w6.heap.size w6 (w6.alloc (.cells #[.int .u8 (m1 : Nat)] 5))) := (Below.refl _ _).alloc (Nat.le_refl _) _
         have hOwA := Lib.hid (i6.own.below hAA.out)
         have hOneA := Lib.hid (sl_one w6 m1 5 hm1b.out)
         clear HO HM HN i6 hS5)
      | (go_at_call 66; refine (doc_Num w4 y hy64.out).mono ?_; rintro e w5 ⟨v5, M5, bo5, rfl, e2, o2, m2, n2⟩
         obtain ⟨a5, c5, rfl, s2⟩ := sl_of_own o2 (fun x hx => hn8.out y x (by simpa using hx))
         rw [List.nil_append] at s2
         have hS5 := Lib.hid s2
         have I5 := Lib.hid (I4.out.below (mod_lo m2 (fun g e => by cases e) (Nat.le_refl _)))
         have hM5 : Hid (M5 ≤ 1000000) := (by show _ ≤ _; have := numL_ten hy64.out; rw [e2]; simp only [List.length_nil]; omega)
         clear e2 o2 m2 n2 s2)
      | (at_builtin; go_loud (refine wpList_l (a3 := pa) (m := pn) (c := pc) rfl (.tmp 14) (.tmp 16) rfl rfl I3.out.own rfl hSp.out hM.out hpm.out ?_); intro v4 w4 bo4 HO HM HN
         obtain ⟨M4, i4⟩ : ∃ M4, LayI none wb ([hd] ++ numL pn ++ bs) v4 M4 bo4 w4 := ⟨_, I3.out.app (Below.refl _ _) HO.out HM.out HN.out⟩
         have I4 := Lib.hid i4
         have hM4 : Hid (M4 ≤ 1000000) := (by show _ ≤ _; have := i4.len; have := htl.out; have := hS2.out.len; simp only [List.length_append, List.length_cons, List.length_nil] at *; omega)
         obtain ⟨a4, c4, hv4, _⟩ := i4.own.len
         subst hv4
         obtain ⟨p0, p1, p2, p3, p4, p5⟩ := hall.out w4 i4.since.1
         clear HO HM HN i4))
    have hT3 : Hid (([hd]++numL pn++bs++numL y++[m1]) ++ layT (ofL (L.drop 0)) = T) := by
      show _ = _
      rw [← hT2.out, List.drop_zero, ← hkL.out]
      (try simp)
    have I7' : Hid (LayI none wb ([hd]++numL pn++bs++numL y++[m1]) (.slice a7 (M6 + 1) c7) (M6 + 1) bo7 w7) := I7.out
    generalize M6 + 1 = M7 at *
    clear I7 I3 I4 hT hT2 hm1 hAA hOwA hOneA hSp z0 z1 z2 z3 z4 z5 y0 y1 y2 y3 y4 y5
    go_loopw [3, 4] (fun s3 s4 wr => ∃ (i : Nat) (zs : List Nat) (M : Nat) (bo' : Option Nat) (a : Option Addr) (c : Nat), s3 = .slice a M c ∧ s4 = .int .i64 (i : Nat) ∧ i ≤ m ∧ Hid (LayI none wb zs s3 M bo' wr) ∧ Hid (zs ++ layT (ofL (L.drop i)) = T)) (fun _ s4 _ => (m - intOf s4).toNat)
    case atStart => exact ⟨0, _, _, _, _, _, rfl, rfl, Nat.zero_le _, I7', hT3⟩
    case round =>
      obtain ⟨i, zs, M, bo', a, c, rfl, rfl, him, hI, hz⟩ := hrel
      obtain ⟨x0, x1, x2, x3, x4, x5⟩ := hall.out wr hI.out.since.1
      by_cases hlt : i < m
      · have l1 : (i : Int) < (m : Int) := by omega
        have l0 : (0 : Int) ≤ (i : Int) := by omega
        have hiL : i < L.length := by rw [← HmL.out]; exact hlt
        have l2 : (i : Int) < (bn : Int) := by have := H3.out.sl.len; rw [List.length_map] at this; omega
        obtain ⟨y, hy⟩ : ∃ y, L[i]? = some y := ⟨_, List.getElem?_eq_getElem hiL⟩
        obtain ⟨pb, rfl, hz1, hz2⟩ := H3.out.sl.at_.2 i (by rw [List.length_map]; exact hiL)
        have hz3 : (L.map (·.1)).getD i 0 = y.1 := by rw [List.getD, List.getElem?_map, hy]; rfl
        rw [hz3] at hz2
        obtain ⟨g, c', hg1, hg2, hg3, hg4, hg5⟩ := rt_at H6.out i y hy
        have hdr : layT (ofL (L.drop i)) = y.1 :: (layT y.2 ++ layT (ofL (L.drop (i + 1)))) := by
          rw [List.drop_eq_getElem_cons hiL]
          have : L[i] = y := by rw [List.getElem?_eq_getElem hiL] at hy; exact Option.some.inj hy
          rw [this]; rfl
        obtain ⟨yb, yt⟩ := y
        have hym := List.mem_of_getElem? hy
        have hyT := ((tok_ofL L).1 HOL.out).1 (yb, yt) hym
        have hyC : Can yt := (can_ofL L).1 HCL.out (yb, yt) hym
        have hyD : tdep yt ≤ N := Nat.le_trans (tdep_ofL hym) HdL.out
        have hyb : yb < 256 := hyT.1
        have hz5 : Hid (zs ++ [yb] ++ layT yt ++ layT (ofL (L.drop (i + 1))) = T) := by show _ = _; rw [← hz.out, hdr]; simp
        have hzl : Hid (zs.length + 1 + (layT yt).length ≤ 800000) := by
          have := congrArg List.length hz5.out
          have := HT.out
          simp only [List.length_append, List.length_cons, List.length_nil] at *
          show _ ≤ _
          omega
        cases yt with
        | nil => exact hyT.2.1.elim
        | kid => exact hyT.2.1.elim
        | node bs' v' has' leaf' ks' =>
          have hg5 : RT w G (.node bs' v' has' leaf' ks') none 0 c' := hg5
          have hdn : Hid (∀ X, Below w.heap.size w X → Calls Try.prog 127 #[.agg c'.toArray] X (layPost none X (layT (.node bs' v' has' leaf' ks')))) := fun X hb =>
            HIH.out bs' v' has' leaf' ks' c' hyD (hg5.keep hb.size fun j hj => hb.block j (HG.out j hj)) (fun j hj => Nat.lt_of_lt_of_le (HG.out j hj) hb.size) hyT.2.2 hyC (by have := hzl.out; omega)
          have hy8 : Hid (∀ x ∈ layT (.node bs' v' has' leaf' ks'), x < 256) := layT_byte _ hyT.2.2
          obtain ⟨pa', pn', pc', ba', bn', bc', ka', kn', kc', hc', hx'⟩ := hg5
          clear hx'
          subst hc'
          obtain ⟨KD', hKD'⟩ : ∃ x : Int, x = ((rkind leaf' ks' : Nat) : Int) := ⟨_, rfl⟩
          rw [← hKD'] at hdn hg4
          generalize layT (.node bs' v' has' leaf' ks') = LT at *
          subst hg1
          rw [Nat.zero_add] at hg4
          have hS : Hid (∀ X, Below wb.heap.size wb X → X.cell? ⟨w.heap.size, 4, none⟩ = some (.slice (some pb) bn bc) ∧ X.cell? ⟨w.heap.size, 5, none⟩ = some (.slice (some ⟨g, 0, none⟩) m rc) ∧ X.cell? (pb.add i) = some (.int .u8 (yb : Nat)) ∧ X.cell? ⟨g, i * 6, none⟩ = some (.int .i64 KD') ∧ X.cell? ⟨g, i * 6 + 1, none⟩ = some (.slice pa' pn' pc') ∧ X.cell? ⟨g, i * 6 + 2, none⟩ = some (.bool has') ∧ X.cell? ⟨g, i * 6 + 3, none⟩ = some (.int .u64 v') ∧ X.cell? ⟨g, i * 6 + 4, none⟩ = some (.slice ba' bn' bc') ∧ X.cell? ⟨g, i * 6 + 5, none⟩ = some (.slice ka' kn' kc')) := fun X hb => by
            obtain ⟨_, _, _, _, p4, p5⟩ := hall.out X hb
            have hwX := HB.out.trans (hb.mono HB.out.size)
            have hgl := HG.out g hg2
            have e : ∀ j, X.cell? ⟨g, j, none⟩ = w.cell? ⟨g, j, none⟩ := fun j => hwX.cell (p := ⟨g, j, none⟩) hgl
            exact ⟨p4, p5, (hwX.cell hz1).trans hz2, by rw [e]; exact hg4 0 (by omega), by rw [e]; exact hg4 1 (by omega), by rw [e]; exact hg4 2 (by omega), by rw [e]; exact hg4 3 (by omega), by rw [e]; exact hg4 4 (by omega), by rw [e]; exact hg4 5 (by omega)⟩
          have hM : Hid (M ≤ 1000000) := by show _ ≤ _; have := hzl.out; have := hI.out.len; omega
          have hw9 : IntKind.i64.wrap (((i : Nat) : Int) + 1) = ((i + 1 : Nat) : Int) := by rw [show ((i : Nat) : Int) + 1 = ((i + 1 : Nat) : Int) by omega]; exact IntWalk.i64_in _ (by omega)
          have hob := Lib.hid (hI.out.own.below ((Below.refl _ wr).drew.alloc (Nat.le_refl _) (.cells #[.int .u8 (yb : Nat)] 5)))
          have hAl : Hid (Below wr.heap.size wr (wr.drew.alloc (.cells #[.int .u8 (yb : Nat)] 5))) := (Below.refl _ wr).drew.alloc (Nat.le_refl _) _
          have hAl0 : Hid (Below wb.heap.size wb (wr.drew.alloc (.cells #[.int .u8 (yb : Nat)] 5))) := hI.out.since.1.drew.alloc hI.out.since.1.size _
          have hAl1 : Hid (Below wb.heap.size wb wr.drew) := hI.out.since.1.drew
          have hOne : Hid (Sl (wr.drew.alloc (.cells #[.int .u8 (yb : Nat)] 5)) (some ⟨wr.heap.size, 0, none⟩) 1 1 [yb]) := sl_one wr.drew yb 5 hyb
          clear hy hz hz1 hz2 hz3 hiL hg4 hyT hdr hKD' hg3 hym hyC hyD hyb
          go_wp2_with fail
          go_region_held3 (fun w' => w'.cell? ⟨w.heap.size, 4, none⟩ = some (.slice (some pb) bn bc) ∧ w'.cell? ⟨w.heap.size, 5, none⟩ = some (.slice (some ⟨g, 0, none⟩) m rc) ∧ w'.cell? (pb.add i) = some (.int .u8 (yb : Nat)) ∧ w'.cell? ⟨g, i * 6, none⟩ = some (.int .i64 KD') ∧ w'.cell? ⟨g, i * 6 + 1, none⟩ = some (.slice pa' pn' pc') ∧ w'.cell? ⟨g, i * 6 + 2, none⟩ = some (.bool has') ∧ w'.cell? ⟨g, i * 6 + 3, none⟩ = some (.int .u64 v') ∧ w'.cell? ⟨g, i * 6 + 4, none⟩ = some (.slice ba' bn' bc') ∧ w'.cell? ⟨g, i * 6 + 5, none⟩ = some (.slice ka' kn' kc'))
            (first | exact hS.out _ I9.out.since.1 | exact hS.out _ I8.out.since.1 | exact hS.out _ I7.out.since.1 | exact hS.out _ hAl0.out | exact hS.out _ hAl1.out)
            (first
              | (refine step_l (v := .slice a7 (M + 1) c7) (a3 := a8) (m := M8) (c := c8) (by rfl) (.tmp 51) (.tmp 57) (by rfl) (by rfl) I8.out.own (by rfl) hS8.out hM7.out hM8.out ?_; intro v9 w9 bo9 HO HM HN
                 obtain ⟨M9, i9⟩ : ∃ M9, LayI none wb (zs ++ [yb] ++ LT) v9 M9 bo9 w9 := ⟨_, I8.out.app (Below.refl _ _) HO.out HM.out HN.out⟩
                 have I9 := Lib.hid i9
                 obtain ⟨a9, c9, hv9, _⟩ := i9.own.len
                 subst hv9
                 clear HO HM HN i9)
              | (refine step_l (v := .slice a M c) (a3 := some ⟨wr.heap.size, 0, none⟩) (m := 1) (c := 1) (by rfl) (.tmp 44) (.tmp 50) (by rfl) (by rfl) hob.out (by rfl) hOne.out hM.out h1m.out ?_; intro v7 w7 bo7 HO HM HN
                 have i7 := hI.out.app hAl.out HO.out HM.out HN.out
                 obtain ⟨a7, c7, hv7, _⟩ := i7.own.len
                 subst hv7
                 have I7 := Lib.hid i7
                 have hM7 : Hid (M + 1 ≤ 1000000) := (by show _ ≤ _; have := hzl.out; have := hI.out.len; omega)
                 have hdn7 := Lib.hid (hdn.out w7 (HB.out.trans (i7.since.1.mono HB.out.size)))
                 clear HO HM HN i7)
              | (go_simp; go_at_call 127; refine hdn7.out.mono ?_; rintro e w8 ⟨v8, M8, bo8, rfl, o8, m8, n8⟩
                 obtain ⟨a8, c8, rfl, s8⟩ := sl_of_own o8 hy8.out
                 have hS8 := Lib.hid s8
                 have I8 := Lib.hid (I7.out.below (mod_lo m8 (fun g e => by cases e) (Nat.le_refl _)))
                 have hM8 : Hid (M8 ≤ 1000000) := (by show _ ≤ _; have := hzl.out; have := s8.len; omega)
                 clear o8 m8 n8 s8))
          all_goals
            (try simp only [Exit.then, Exit.inBlock])
            go_wp2_with fail
          go_roundw
          case rel => exact ⟨i + 1, _, M9, bo9, a9, c9, rfl, (by first | rfl | go_num), by omega, I9, hz5⟩
          case measure => (simp [intOf]) <;> omega
      · have l1 : ¬ (i : Int) < (m : Int) := by omega
        obtain rfl : i = m := by omega
        go_wp2_with fail
        go_ret
        have := hI.out.done0 HB.out
        have e := hz.out
        rw [HmL.out, List.drop_length, show layT (ofL ([] : List (Nat × Tr))) = [] from rfl, List.append_nil] at e
        rw [e] at this
        exact this

set_option maxHeartbeats 4000000 in
set_option maxRecDepth 100000 in
theorem dn_no (N : Nat) (IH : DnAsk N) (bs : List Nat) (y : Nat) (ks : Tr) (c : List Value) {w : World} {G : Nat → Prop} (hdp : tdep (.node bs (y : Nat) false false ks) ≤ N + 1) (hR : RT w G (.node bs (y : Nat) false false ks) none 0 c) (hG : ∀ j, G j → j < w.heap.size) (hO : TOk (.node bs (y : Nat) false false ks)) (hC : Can (.node bs (y : Nat) false false ks)) (htot : (layT (.node bs (y : Nat) false false ks)).length ≤ 800000) : Calls Try.prog 127 #[.agg c.toArray] w (layPost none w (layT (.node bs (y : Nat) false false ks))) := by
  obtain ⟨pa, pn, pc, ba, bn, bc, ra, rn, rc, rfl, h2, h3, rfl, h5, h6⟩ := hR
  have hb8 : Hid (∀ x ∈ layT (.node bs (y : Nat) false false ks), x < 256) := layT_byte _ hO
  obtain ⟨o1, o2, o3, o4, o5, o6, o7⟩ := hO
  obtain ⟨wb, hwb⟩ : ∃ wb, wb = w.alloc (.cells #[.int .i64 (rkind false ks : Nat), .slice pa pn pc, .bool false, .int .u64 (y : Nat), .slice ba bn bc, .slice ra (chain ks).length rc] rnT) := ⟨_, rfl⟩
  have hbox : wb.heap[w.heap.size]? = some (.cells [.int .i64 (rkind false ks : Nat), .slice pa pn pc, .bool false, .int .u64 (y : Nat), .slice ba bn bc, .slice ra (chain ks).length rc].toArray rnT (0, 0)) := by rw [hwb]; exact six_new w _ _ _ _ _ _ rnT
  have hB : Below w.heap.size w wb := by rw [hwb]; exact (Below.refl _ w).alloc (Nat.le_refl _) _
  have hpl := h2.sl.len
  have HB := Lib.hid hB
  obtain ⟨hd, hhd⟩ : ∃ hd, hd = headN false false (chain ks).length := ⟨_, rfl⟩
  have hHead := Lib.hid (fun X => doc_head X (.slice pa pn pc) (.slice ba bn bc) (.slice ra (chain ks).length rc) (y : Nat) false false ks)
  rw [← hhd] at hHead
  obtain ⟨m, hm⟩ : ∃ m, m = (chain ks).length := ⟨_, rfl⟩
  rw [← hm] at h5 hbox hwb hHead ⊢
  obtain ⟨KD, hrk⟩ : ∃ x : Int, x = ((rkind false ks : Nat) : Int) := ⟨_, rfl⟩
  rw [← hrk] at hHead hbox hwb ⊢
  have hall : Hid (∀ X, Below wb.heap.size wb X → X.cell? ⟨w.heap.size, 0, none⟩ = some (.int .i64 KD) ∧ X.cell? ⟨w.heap.size, 1, none⟩ = some (.slice pa pn pc) ∧ X.cell? ⟨w.heap.size, 2, none⟩ = some (.bool false) ∧ X.cell? ⟨w.heap.size, 3, none⟩ = some (.int .u64 (y : Nat)) ∧ X.cell? ⟨w.heap.size, 4, none⟩ = some (.slice ba bn bc) ∧ X.cell? ⟨w.heap.size, 5, none⟩ = some (.slice ra m rc)) := fun X hb => by
    obtain ⟨x0, x1, x2, x3, x4, x5, _⟩ := six_facts ((hb.block w.heap.size (Array.getElem?_eq_some_iff.1 hbox).1).trans hbox)
    exact ⟨x0, x1, x2, x3, x4, x5⟩
  have hS2 := Lib.hid (h2.sl.below hB)
  have hT : Hid ([hd] ++ numL pn ++ bs ++ ([]:List Nat) ++ ((m - 1)::layT ks) = layT (.node bs (y : Nat) false false ks)) := by
    show _ = _
    simp only [layT, Int.toNat_natCast]
    rw [hhd]
    (try rw [hm])
    rw [← hpl]
    simp
  have htl : Hid (1 + (numL pn).length + pn + ([]:List Nat).length + ((m - 1)::layT ks).length ≤ 800000) := by
    have := congrArg List.length hT.out
    simp only [List.length_append, List.length_cons, List.length_nil] at this
    show _ ≤ _
    (try simp only [List.length_append, List.length_cons, List.length_nil])
    omega
  obtain ⟨T, hTe⟩ : ∃ T, T = layT (.node bs (y : Nat) false false ks) := ⟨_, rfl⟩
  rw [← hTe] at hT htot hb8 ⊢
  have hpnl : pn ≤ 800000 := by have := htl.out; omega
  have hw : IntKind.u64.wrap ((pn : Nat) : Int) = (pn : Nat) := wrap_u64 (by omega)
  have hL10 : Hid ((numL pn).length ≤ 10) := numL_ten (by omega)
  have h1m : Hid (1 ≤ 1000000) := by show _ ≤ _; omega
  have hpm : Hid (pn ≤ 1000000) := by show _ ≤ _; omega
  have hn8 := Lib.hid (fun n => numL_byte n)
  have HT := Lib.hid htot
  have hy64 : Hid (y < 18446744073709551616) := by show _ < _; omega
  have HWB := Lib.hid (Below.refl wb.heap.size wb)
  have hmm : 1 ≤ m := by
    have := hC.2 rfl
    rw [← hm] at this
    simp at this; omega
  have hm2 := chain256 o6 o7
  rw [← hm] at hm2
  have hrke : KD = ((kindOf m : Nat) : Int) := by rw [hrk, hm]; rfl
  have hk1 : (KD == 1) = false := by rw [beq_eq_false_iff_ne]; have := kindOf_cases m; omega
  obtain ⟨m1, hme⟩ : ∃ m1, m1 = m - 1 := ⟨_, rfl⟩
  have hw1 : IntKind.i64.wrap ((m : Int) - 1) = (m1 : Nat) := by rw [show (m : Int) - 1 = ((m1 : Nat) : Int) by omega]; exact IntWalk.i64_in _ (by omega)
  have hw2 : IntKind.u8.wrap (m1 : Int) = (m1 : Nat) := wrap_u8 (by omega)
  have hm1b : Hid (m1 < 256) := by show _ < _; omega
  have hT2 : Hid ([hd] ++ numL pn ++ bs ++ ([]:List Nat) ++ [m1] ++ layT ks = T) := by show _ = _; rw [← hT.out, hme]; simp
  obtain ⟨L, hL⟩ : ∃ L, L = chain ks := ⟨_, rfl⟩
  have hR6 := rt_chain h6 o6 o7
  have hOL : TOk (ofL L) := by rw [hL, ofL_chain ks o6 o7]; exact o7
  have hkL : Hid (ks = ofL L) := by show _ = _; rw [hL, ofL_chain ks o6 o7]
  rw [← hL] at h3 hR6
  have HmL : Hid (m = L.length) := by show _ = _; rw [hm, hL]
  have HCL : Hid (Can (ofL L)) := by rw [hL, ofL_chain ks o6 o7]; exact hC.1
  have HdL : Hid (tdep (ofL L) ≤ N) := by
    rw [hL, ofL_chain ks o6 o7]
    simp only [tdep] at hdp
    show _ ≤ _
    omega
  have H3 := Lib.hid h3
  have H6 := Lib.hid hR6
  have HOL := Lib.hid hOL
  have HG := Lib.hid hG
  have HIH := Lib.hid IH
  clear hrke hme hL hR6 hOL
  clear hm hrk hhd hTe htot hbox h2 h3 h5 h6 o1 o2 o3 o4 o5 o6 o7 hC hG hpl hdp IH hB
  go_enter Try.func127, Try.ntmps127
  go_upto_region 1 with fail
  rw [← hwb]
  clear hwb
  go_cut [3] from 5 to 13 (fun s3 w' => ∃ M bo, LayI none wb ([hd] ++ numL pn) s3 M bo w')
  case first =>
    obtain ⟨x0, x1, x2, x3, x4, x5⟩ := hall.out wb (Below.refl _ _)
    go_region_law (first
      | (refine step_l (v := .slice (some ⟨w2.heap.size, 0, none⟩) 1 1) (a3 := a2) (m := M2) (c := c2) rfl (.tmp 7) (.tmp 12) rfl rfl hTwo.out rfl hS2m.out h1m.out hM2.out ?_; intro v3 w3 bo3 HO HM HN
         have I3 := Lib.hid (LayI.fresh (zs := [hd] ++ numL pn) B2m.out (by rw [bV_app]; exact HO.out) HM.out HN.out hg1.out)
         clear HO HM HN)
      | (refine step_l (v := .slice (some ⟨w1.heap.size, 0, none⟩) 1 1) (a3 := a2) (m := M2) (c := c2) rfl (.tmp 7) (.tmp 12) rfl rfl hOne.out rfl hS2n.out h1m.out hM2.out ?_; intro v3 w3 bo3 HO HM HN
         have I3 := Lib.hid (LayI.fresh (zs := [hd] ++ numL pn) B2.out (by rw [bV_app]; exact HO.out) HM.out HN.out hg1.out)
         clear HO HM HN)
      | (go_simp; go_at_call 66; refine (doc_Num w1 pn (by omega)).mono ?_; rintro e w2 ⟨v2, M2, bo2, rfl, e2, o2, m2, n2⟩
         obtain ⟨a2, c2, rfl, s2⟩ := sl_of_own o2 (fun x hx => hn8.out pn x (by simpa using hx))
         rw [List.nil_append] at s2
         have b2 := mod_lo m2 (fun g e => by cases e) (Nat.le_refl _)
         have b3 : Below w2.heap.size w2 (w2.alloc (.cells #[.int .u8 (hd : Nat)] 5)) := (Below.refl _ _).alloc (Nat.le_refl _) _
         have hS2m := Lib.hid (s2.below b3)
         have hTwo := Lib.hid (own_one w2 hd)
         have b4 := B1.out.trans (b2.mono B1.out.size)
         have B2m := Lib.hid (b4.trans (b3.mono b4.size))
         have hg1 : Hid (∀ g, some w2.heap.size = some g → wb.heap.size ≤ g) := fun g e => (by cases e; exact b4.size)
         have hM2 : Hid (M2 ≤ 1000000) := (by show _ ≤ _; have := hL10.out; rw [e2]; simp only [List.length_nil]; omega)
         clear e2 o2 m2 n2 s2 b2 b3 b4)
      | (go_simp; go_at_call 66; refine (doc_Num (w1.alloc (.cells #[.int .u8 (hd : Nat)] 5)) pn (by omega)).mono ?_; rintro e w2 ⟨v2, M2, bo2, rfl, e2, o2, m2, n2⟩
         obtain ⟨a2, c2, rfl, s2⟩ := sl_of_own o2 (fun x hx => hn8.out pn x (by simpa using hx))
         rw [List.nil_append] at s2
         have hS2n := Lib.hid s2
         have b2 := mod_lo m2 (fun g e => by cases e) (Nat.le_refl _)
         have hOne := Lib.hid ((own_one w1 hd).below b2)
         have B2 := Lib.hid ((B1.out.alloc B1.out.size _).trans (b2.mono (B1.out.alloc B1.out.size _).size))
         have hg1 : Hid (∀ g, some w1.heap.size = some g → wb.heap.size ≤ g) := fun g e => (by cases e; exact B1.out.size)
         have hM2 : Hid (M2 ≤ 1000000) := (by show _ ≤ _; have := hL10.out; rw [e2]; simp only [List.length_nil]; omega)
         clear e2 o2 m2 n2 s2 b2)
      | (go_simp; go_at_call 178; refine (hHead.out _).mono ?_; rintro e w1 ⟨rfl, b1⟩; have B1 := Lib.hid ((Below.refl _ wb).drew.trans b1); obtain ⟨_, z1, _⟩ := hall.out w1 B1.out; have z2 : ∀ o, (w1.alloc o).cell? ⟨w.heap.size, 1, none⟩ = some (.slice pa pn pc) := fun o => (hall.out (w1.alloc o) (B1.out.alloc B1.out.size o)).2.1; clear b1))
    all_goals
      go_wp2_with fail
      go_meet
    all_goals exact ⟨_, _, I3.out⟩
  case rest =>
    obtain ⟨M, bo, hI⟩ := hcut
    have I3 := Lib.hid hI
    have hM : Hid (M ≤ 1000000) := by show _ ≤ _; have := hI.len; have := htl.out; simp only [List.length_append, List.length_cons, List.length_nil] at *; omega
    obtain ⟨z0, z1, z2, z3, z4, z5⟩ := hall.out wc hI.since.1
    have hSp := Lib.hid (hS2.out.below hI.since.1)
    clear hI hHead
    go_wp2_with (first
      | (at_builtin; have hg := hm1.out; go_loud (refine wpList_l (v := .slice a4 M4 c4) (a3 := some ⟨w4.heap.size, 0, none⟩) (m := 1) (c := 1) rfl (.tmp 29) (.tmp 35) rfl rfl hOwA.out rfl hOneA.out hM4.out h1m.out ?_); intro v7 w7 bo7 HO HM HN
         have I7 := Lib.hid (I4.out.app hAA.out HO.out HM.out HN.out)
         obtain ⟨a7, c7, hv7, _⟩ := I7.out.own.len
         subst hv7
         obtain ⟨y0, y1, y2, y3, y4, y5⟩ := hall.out w7 I7.out.since.1
         clear HO HM HN)
      | (at_builtin; go_loud (refine wpList_l (a3 := pa) (m := pn) (c := pc) rfl (.tmp 14) (.tmp 16) rfl rfl I3.out.own rfl hSp.out hM.out hpm.out ?_); intro v4 w4 bo4 HO HM HN
         obtain ⟨M4, i4⟩ : ∃ M4, LayI none wb ([hd] ++ numL pn ++ bs) v4 M4 bo4 w4 := ⟨_, I3.out.app (Below.refl _ _) HO.out HM.out HN.out⟩
         have I4 := Lib.hid i4
         have hM4 : Hid (M4 ≤ 1000000) := (by show _ ≤ _; have := i4.len; have := htl.out; have := hS2.out.len; simp only [List.length_append, List.length_cons, List.length_nil] at *; omega)
         obtain ⟨a4, c4, hv4, _⟩ := i4.own.len
         subst hv4
         obtain ⟨p0, p1, p2, p3, p4, p5⟩ := hall.out w4 i4.since.1
         have hm1 : Hid True := trivial
         have hAA : Hid (Below w4.heap.size w4 (w4.alloc (.cells #[.int .u8 (m1 : Nat)] 5))) := (Below.refl _ _).alloc (Nat.le_refl _) _
         have hOwA := Lib.hid (i4.own.below hAA.out)
         have hOneA := Lib.hid (sl_one w4 m1 5 hm1b.out)
         clear HO HM HN i4))
    have hT3 : Hid (([hd]++numL pn++bs++[m1]) ++ layT (ofL (L.drop 0)) = T) := by
      show _ = _
      rw [← hT2.out, List.drop_zero, ← hkL.out]
      (try simp)
    have I7' : Hid (LayI none wb ([hd]++numL pn++bs++[m1]) (.slice a7 (M4 + 1) c7) (M4 + 1) bo7 w7) := I7.out
    generalize M4 + 1 = M7 at *
    clear I7 I3 I4 hT hT2 hm1 hAA hOwA hOneA hSp z0 z1 z2 z3 z4 z5 y0 y1 y2 y3 y4 y5
    go_loopw [3, 4] (fun s3 s4 wr => ∃ (i : Nat) (zs : List Nat) (M : Nat) (bo' : Option Nat) (a : Option Addr) (c : Nat), s3 = .slice a M c ∧ s4 = .int .i64 (i : Nat) ∧ i ≤ m ∧ Hid (LayI none wb zs s3 M bo' wr) ∧ Hid (zs ++ layT (ofL (L.drop i)) = T)) (fun _ s4 _ => (m - intOf s4).toNat)
    case atStart => exact ⟨0, _, _, _, _, _, rfl, rfl, Nat.zero_le _, I7', hT3⟩
    case round =>
      obtain ⟨i, zs, M, bo', a, c, rfl, rfl, him, hI, hz⟩ := hrel
      obtain ⟨x0, x1, x2, x3, x4, x5⟩ := hall.out wr hI.out.since.1
      by_cases hlt : i < m
      · have l1 : (i : Int) < (m : Int) := by omega
        have l0 : (0 : Int) ≤ (i : Int) := by omega
        have hiL : i < L.length := by rw [← HmL.out]; exact hlt
        have l2 : (i : Int) < (bn : Int) := by have := H3.out.sl.len; rw [List.length_map] at this; omega
        obtain ⟨y, hy⟩ : ∃ y, L[i]? = some y := ⟨_, List.getElem?_eq_getElem hiL⟩
        obtain ⟨pb, rfl, hz1, hz2⟩ := H3.out.sl.at_.2 i (by rw [List.length_map]; exact hiL)
        have hz3 : (L.map (·.1)).getD i 0 = y.1 := by rw [List.getD, List.getElem?_map, hy]; rfl
        rw [hz3] at hz2
        obtain ⟨g, c', hg1, hg2, hg3, hg4, hg5⟩ := rt_at H6.out i y hy
        have hdr : layT (ofL (L.drop i)) = y.1 :: (layT y.2 ++ layT (ofL (L.drop (i + 1)))) := by
          rw [List.drop_eq_getElem_cons hiL]
          have : L[i] = y := by rw [List.getElem?_eq_getElem hiL] at hy; exact Option.some.inj hy
          rw [this]; rfl
        obtain ⟨yb, yt⟩ := y
        have hym := List.mem_of_getElem? hy
        have hyT := ((tok_ofL L).1 HOL.out).1 (yb, yt) hym
        have hyC : Can yt := (can_ofL L).1 HCL.out (yb, yt) hym
        have hyD : tdep yt ≤ N := Nat.le_trans (tdep_ofL hym) HdL.out
        have hyb : yb < 256 := hyT.1
        have hz5 : Hid (zs ++ [yb] ++ layT yt ++ layT (ofL (L.drop (i + 1))) = T) := by show _ = _; rw [← hz.out, hdr]; simp
        have hzl : Hid (zs.length + 1 + (layT yt).length ≤ 800000) := by
          have := congrArg List.length hz5.out
          have := HT.out
          simp only [List.length_append, List.length_cons, List.length_nil] at *
          show _ ≤ _
          omega
        cases yt with
        | nil => exact hyT.2.1.elim
        | kid => exact hyT.2.1.elim
        | node bs' v' has' leaf' ks' =>
          have hg5 : RT w G (.node bs' v' has' leaf' ks') none 0 c' := hg5
          have hdn : Hid (∀ X, Below w.heap.size w X → Calls Try.prog 127 #[.agg c'.toArray] X (layPost none X (layT (.node bs' v' has' leaf' ks')))) := fun X hb =>
            HIH.out bs' v' has' leaf' ks' c' hyD (hg5.keep hb.size fun j hj => hb.block j (HG.out j hj)) (fun j hj => Nat.lt_of_lt_of_le (HG.out j hj) hb.size) hyT.2.2 hyC (by have := hzl.out; omega)
          have hy8 : Hid (∀ x ∈ layT (.node bs' v' has' leaf' ks'), x < 256) := layT_byte _ hyT.2.2
          obtain ⟨pa', pn', pc', ba', bn', bc', ka', kn', kc', hc', hx'⟩ := hg5
          clear hx'
          subst hc'
          obtain ⟨KD', hKD'⟩ : ∃ x : Int, x = ((rkind leaf' ks' : Nat) : Int) := ⟨_, rfl⟩
          rw [← hKD'] at hdn hg4
          generalize layT (.node bs' v' has' leaf' ks') = LT at *
          subst hg1
          rw [Nat.zero_add] at hg4
          have hS : Hid (∀ X, Below wb.heap.size wb X → X.cell? ⟨w.heap.size, 4, none⟩ = some (.slice (some pb) bn bc) ∧ X.cell? ⟨w.heap.size, 5, none⟩ = some (.slice (some ⟨g, 0, none⟩) m rc) ∧ X.cell? (pb.add i) = some (.int .u8 (yb : Nat)) ∧ X.cell? ⟨g, i * 6, none⟩ = some (.int .i64 KD') ∧ X.cell? ⟨g, i * 6 + 1, none⟩ = some (.slice pa' pn' pc') ∧ X.cell? ⟨g, i * 6 + 2, none⟩ = some (.bool has') ∧ X.cell? ⟨g, i * 6 + 3, none⟩ = some (.int .u64 v') ∧ X.cell? ⟨g, i * 6 + 4, none⟩ = some (.slice ba' bn' bc') ∧ X.cell? ⟨g, i * 6 + 5, none⟩ = some (.slice ka' kn' kc')) := fun X hb => by
            obtain ⟨_, _, _, _, p4, p5⟩ := hall.out X hb
            have hwX := HB.out.trans (hb.mono HB.out.size)
            have hgl := HG.out g hg2
            have e : ∀ j, X.cell? ⟨g, j, none⟩ = w.cell? ⟨g, j, none⟩ := fun j => hwX.cell (p := ⟨g, j, none⟩) hgl
            exact ⟨p4, p5, (hwX.cell hz1).trans hz2, by rw [e]; exact hg4 0 (by omega), by rw [e]; exact hg4 1 (by omega), by rw [e]; exact hg4 2 (by omega), by rw [e]; exact hg4 3 (by omega), by rw [e]; exact hg4 4 (by omega), by rw [e]; exact hg4 5 (by omega)⟩
          have hM : Hid (M ≤ 1000000) := by show _ ≤ _; have := hzl.out; have := hI.out.len; omega
          have hw9 : IntKind.i64.wrap (((i : Nat) : Int) + 1) = ((i + 1 : Nat) : Int) := by rw [show ((i : Nat) : Int) + 1 = ((i + 1 : Nat) : Int) by omega]; exact IntWalk.i64_in _ (by omega)
          have hob := Lib.hid (hI.out.own.below ((Below.refl _ wr).drew.alloc (Nat.le_refl _) (.cells #[.int .u8 (yb : Nat)] 5)))
          have hAl : Hid (Below wr.heap.size wr (wr.drew.alloc (.cells #[.int .u8 (yb : Nat)] 5))) := (Below.refl _ wr).drew.alloc (Nat.le_refl _) _
          have hAl0 : Hid (Below wb.heap.size wb (wr.drew.alloc (.cells #[.int .u8 (yb : Nat)] 5))) := hI.out.since.1.drew.alloc hI.out.since.1.size _
          have hAl1 : Hid (Below wb.heap.size wb wr.drew) := hI.out.since.1.drew
          have hOne : Hid (Sl (wr.drew.alloc (.cells #[.int .u8 (yb : Nat)] 5)) (some ⟨wr.heap.size, 0, none⟩) 1 1 [yb]) := sl_one wr.drew yb 5 hyb
          clear hy hz hz1 hz2 hz3 hiL hg4 hyT hdr hKD' hg3 hym hyC hyD hyb
          go_wp2_with fail
          go_region_held3 (fun w' => w'.cell? ⟨w.heap.size, 4, none⟩ = some (.slice (some pb) bn bc) ∧ w'.cell? ⟨w.heap.size, 5, none⟩ = some (.slice (some ⟨g, 0, none⟩) m rc) ∧ w'.cell? (pb.add i) = some (.int .u8 (yb : Nat)) ∧ w'.cell? ⟨g, i * 6, none⟩ = some (.int .i64 KD') ∧ w'.cell? ⟨g, i * 6 + 1, none⟩ = some (.slice pa' pn' pc') ∧ w'.cell? ⟨g, i * 6 + 2, none⟩ = some (.bool has') ∧ w'.cell? ⟨g, i * 6 + 3, none⟩ = some (.int .u64 v') ∧ w'.cell? ⟨g, i * 6 + 4, none⟩ = some (.slice ba' bn' bc') ∧ w'.cell? ⟨g, i * 6 + 5, none⟩ = some (.slice ka' kn' kc'))
            (first | exact hS.out _ I9.out.since.1 | exact hS.out _ I8.out.since.1 | exact hS.out _ I7.out.since.1 | exact hS.out _ hAl0.out | exact hS.out _ hAl1.out)
            (first
              | (refine step_l (v := .slice a7 (M + 1) c7) (a3 := a8) (m := M8) (c := c8) (by rfl) (.tmp 51) (.tmp 57) (by rfl) (by rfl) I8.out.own (by rfl) hS8.out hM7.out hM8.out ?_; intro v9 w9 bo9 HO HM HN
                 obtain ⟨M9, i9⟩ : ∃ M9, LayI none wb (zs ++ [yb] ++ LT) v9 M9 bo9 w9 := ⟨_, I8.out.app (Below.refl _ _) HO.out HM.out HN.out⟩
                 have I9 := Lib.hid i9
                 obtain ⟨a9, c9, hv9, _⟩ := i9.own.len
                 subst hv9
                 clear HO HM HN i9)
              | (refine step_l (v := .slice a M c) (a3 := some ⟨wr.heap.size, 0, none⟩) (m := 1) (c := 1) (by rfl) (.tmp 44) (.tmp 50) (by rfl) (by rfl) hob.out (by rfl) hOne.out hM.out h1m.out ?_; intro v7 w7 bo7 HO HM HN
                 have i7 := hI.out.app hAl.out HO.out HM.out HN.out
                 obtain ⟨a7, c7, hv7, _⟩ := i7.own.len
                 subst hv7
                 have I7 := Lib.hid i7
                 have hM7 : Hid (M + 1 ≤ 1000000) := (by show _ ≤ _; have := hzl.out; have := hI.out.len; omega)
                 have hdn7 := Lib.hid (hdn.out w7 (HB.out.trans (i7.since.1.mono HB.out.size)))
                 clear HO HM HN i7)
              | (go_simp; go_at_call 127; refine hdn7.out.mono ?_; rintro e w8 ⟨v8, M8, bo8, rfl, o8, m8, n8⟩
                 obtain ⟨a8, c8, rfl, s8⟩ := sl_of_own o8 hy8.out
                 have hS8 := Lib.hid s8
                 have I8 := Lib.hid (I7.out.below (mod_lo m8 (fun g e => by cases e) (Nat.le_refl _)))
                 have hM8 : Hid (M8 ≤ 1000000) := (by show _ ≤ _; have := hzl.out; have := s8.len; omega)
                 clear o8 m8 n8 s8))
          all_goals
            (try simp only [Exit.then, Exit.inBlock])
            go_wp2_with fail
          go_roundw
          case rel => exact ⟨i + 1, _, M9, bo9, a9, c9, rfl, (by first | rfl | go_num), by omega, I9, hz5⟩
          case measure => (simp [intOf]) <;> omega
      · have l1 : ¬ (i : Int) < (m : Int) := by omega
        obtain rfl : i = m := by omega
        go_wp2_with fail
        go_ret
        have := hI.out.done0 HB.out
        have e := hz.out
        rw [HmL.out, List.drop_length, show layT (ofL ([] : List (Nat × Tr))) = [] from rfl, List.append_nil] at e
        rw [e] at this
        exact this
end Go.Proofs.Ytkonbldjmcccmaa
/- The document's Encode. -/
namespace Go.Proofs.Ytkonbldjmcccmaa
open Go.RowKit
theorem dn_any : ∀ N, DnAsk N
  | 0 => fun bs v has leaf ks c w G hd => absurd hd (by simp only [tdep]; omega)
  | N + 1 => fun bs v has leaf ks c w G hd hR hG hO hC hl => by
    obtain ⟨y, rfl⟩ : ∃ y : Nat, v = (y : Nat) := ⟨v.toNat, by have := hO.2.1; omega⟩
    cases leaf with
    | true =>
      have e := (hO.2.2.2.2.1 rfl).1
      subst e
      exact dn_leaf N (dn_any N) bs y ks c hd hR hG hO hC hl
    | false =>
      cases has with
      | true => exact dn_val N (dn_any N) bs y ks c hd hR hG hO hC hl
      | false => exact dn_no N (dn_any N) bs y ks c hd hR hG hO hC hl
theorem build_node {w : World} {a : Option Addr} {n c : Nat} {l : PL} {t : Tr} (h : Prs w a n c l) (hs : PSrt l) (hk : ∀ x ∈ l, x.1.length ≤ 65535) (hn : n ≤ 1000000) (hN : IsN t) (hO : TOk t) (hC : Can t) (he : tl t = l) (hlay : (layT t).length ≤ 800000) : Calls Try.prog 41 #[.slice a n c] w fun e w' => ∃ (kd : Int) (pa : Option Addr) (pn pc : Nat) (hs : Bool) (v : Int) (ba : Option Addr) (bn bc : Nat) (ka : Option Addr) (kn kc : Nat),
    e = .returned (.agg #[.int .i64 kd, .slice pa pn pc, .bool hs, .int .u64 v, .slice ba bn bc, .slice ka kn kc]) ∧ Below w.heap.size w w' ∧ Calls Try.prog 127 #[.agg #[.int .i64 kd, .slice pa pn pc, .bool hs, .int .u64 v, .slice ba bn bc, .slice ka kn kc]] w' (layPost none w' (layT t)) :=
  (doc_build h hs hk hn).mono fun e w' ⟨kd, pa, pn, pc, hs, v, ba, bn, bc, ka, kn, kc, q1, q2, q3⟩ => by
    refine ⟨kd, pa, pn, pc, hs, v, ba, bn, bc, ka, kn, kc, q1, q2, ?_⟩
    rcases q3 with ⟨q3, _⟩ | ⟨t', z1, z2, z3, z4, z5⟩
    · exact absurd (he.trans q3) (tl_ne t hN hO hC)
    · obtain rfl : t = t' := can_eq hN z1 hO z2 hC z3 (he.trans z4.symm)
      cases t with
      | nil => exact hN.elim
      | kid => exact hN.elim
      | node bs v' has leaf ks => exact dn_any _ bs v' has leaf ks _ (Nat.le_refl _) z5 (fun j hj => hj) hO hC hlay
set_option maxHeartbeats 1000000 in
set_option maxRecDepth 100000 in
theorem doc_encode {w : World} {a : Option Addr} {n c : Nat} {l : PL} {t : Tr} (h : Prs w a n c l) (hs : PSrt l) (hk : ∀ x ∈ l, x.1.length ≤ 65535) (hn : n ≤ 2000) (hN : t = .nil ∨ IsN t) (hO : TOk t) (hC : Can t) (he : tl t = l) (hlay : (layT t).length ≤ 700000) : Calls Try.prog 71 #[.slice a n c] w (encPost w (encL t)) := by
  obtain ⟨X1, hX1⟩ : ∃ X1, X1 = w.alloc (.cells #[.int .u8 1] 5) := ⟨_, rfl⟩
  have hO1 : OwnS 1 u8T X1 (.slice (some ⟨w.heap.size, 0, none⟩) 1 1) 1 (bV [1]) (some w.heap.size) := by rw [hX1]; exact own_one w 1
  have hA : Below w.heap.size w X1 := by rw [hX1]; exact (Below.refl _ w).alloc (Nat.le_refl _) _
  have HA := Lib.hid hA
  have HO1 := Lib.hid hO1
  have hln : (tl t).length = n := by rw [he]; exact h.len
  have hE8 : Hid (∀ x ∈ encL t, x < 256) := fun x hx => by
    unfold encL at hx
    simp only [List.mem_append, List.mem_singleton] at hx
    rcases hx with (rfl | hx) | hx
    · omega
    · exact numL_byte _ x hx
    · exact layT_byte t hO x hx
  have hn8 := Lib.hid (fun n => numL_byte n)
  have hNum := Lib.hid (doc_Num X1 n (by omega))
  have hw : IntKind.u64.wrap ((n : Nat) : Int) = (n : Nat) := wrap_u64 (by omega)
  have h1m : Hid (1 ≤ 1000000) := by show _ ≤ _; omega
  have hL10 : Hid ((numL n).length ≤ 10) := numL_ten (by omega)
  have hlay' := Lib.hid hlay
  by_cases h0 : n = 0
  · subst h0
    have ht : t = .nil := nil_of_tl hN hO hC (List.eq_nil_of_length_eq_zero hln)
    have hT : Hid (encL t = [1] ++ numL 0) := by show _ = _; rw [ht]; simp [encL, layT, tl]
    clear h hs hk he hN hO hC hln hlay hO1 hA ht
    go_enter Try.func71, Try.ntmps71
    go_wp2_with (first
      | (at_builtin; have hg := hS2; go_loud (refine wpList_l (v := .slice (some ⟨w.heap.size, 0, none⟩) 1 1) (a3 := a2) (m := M2) (c := c2) rfl (.tmp 4) (.tmp 8) rfl rfl hOne.out rfl hS2.out h1m.out hM2.out ?_); intro v3 w3 bo3 HO HM HN
         have i3 := LayI.fresh (zs := [1] ++ numL 0) hB2.out (by rw [bV_app]; exact HO.out) HM.out HN.out (fun g e => by cases e; exact Nat.le_refl _)
         rw [← hT.out] at i3
         obtain ⟨a3, c3, hv3, s3⟩ := i3.sl hE8.out
         subst hv3
         have S3 := Lib.hid s3
         have B3 := Lib.hid i3.since.1
         clear i3 s3 HO HM HN)
      | (rw [← hX1]; clear hX1; go_at_call 66; refine hNum.out.mono ?_; rintro e w2 ⟨v2, M2, bo2, rfl, e2, o2, m2, n2⟩
         obtain ⟨a2, c2, rfl, s2⟩ := sl_of_own o2 (fun x hx => hn8.out 0 x (by simpa using hx))
         rw [List.nil_append] at s2
         have hS2 := Lib.hid s2
         have b2 := mod_lo m2 (fun g e => by cases e) (Nat.le_refl _)
         have hOne := Lib.hid (HO1.out.below b2)
         have hB2 := Lib.hid (HA.out.trans (b2.mono HA.out.size))
         have hM2 : Hid (M2 ≤ 1000000) := (by show _ ≤ _; have := hL10.out; rw [e2]; simp only [List.length_nil]; omega)
         clear e2 o2 m2 n2 s2 b2))
    go_ret
    exact ⟨a3, _, c3, rfl, S3.out, B3.out⟩
  · have hN' : IsN t := by
      rcases hN with rfl | h
      · exact absurd (show n = 0 by rw [← hln]; rfl) h0
      · exact h
    have hBd : Hid (∀ X, Below w.heap.size w X → _) := fun X hb => build_node (h.below hb) hs hk (by omega) hN' hO hC he (by omega)
    have hT : Hid ([1] ++ numL n ++ layT t = encL t) := by show _ = _; rw [← hln]; rfl
    have hy8 : Hid (∀ x ∈ layT t, x < 256) := layT_byte t hO
    have hn0 : ((n : Int) == 0) = false := by rw [beq_eq_false_iff_ne]; omega
    clear h hs hk he hN hO hC hln hlay hO1 hA hN'
    generalize encL t = E at *
    generalize layT t = LT at *
    go_enter Try.func71, Try.ntmps71
    go_wp2_with (first
      | (at_builtin; have hg := hS5; go_loud (refine wpList_l (v := .slice a3 M3 c3) (a3 := a5) (m := M5) (c := c5) rfl (.tmp 14) (.tmp 17) rfl rfl I5.out.own rfl hS5.out hM3.out hM5.out ?_); intro v6 w6 bo6 HO HM HN
         obtain ⟨M6, i6⟩ : ∃ M6, LayI none w ([1] ++ numL n ++ LT) v6 M6 bo6 w6 := ⟨_, I5.out.app (Below.refl _ _) HO.out HM.out HN.out⟩
         rw [hT.out] at i6
         obtain ⟨a6, c6, hv6, s6⟩ := i6.sl hE8.out
         subst hv6
         have S6 := Lib.hid s6
         have B6 := Lib.hid i6.since.1
         clear i6 s6 HO HM HN)
      | (go_at_call 127; refine hNd.out.mono ?_; rintro e w5 ⟨v5, M5, bo5, rfl, o5, m5, n5⟩
         obtain ⟨a5, c5, rfl, s5⟩ := sl_of_own o5 hy8.out
         have hS5 := Lib.hid s5
         have I5 := Lib.hid (I4.out.below (mod_lo m5 (fun g e => by cases e) (Nat.le_refl _)))
         have hM5 : Hid (M5 ≤ 1000000) := (by show _ ≤ _; have := hlay'.out; have := s5.len; omega)
         clear o5 m5 n5 s5)
      | (go_at_call 41; refine (hBd.out _ B3.out).mono ?_; rintro e w4 ⟨kd, pa, pn, pc, hs, y, ba, bn, bc, ra, rn, rc, rfl, z1, z2⟩
         have hNd := Lib.hid z2
         have I4 := Lib.hid (I3.out.below z1)
         clear z1 z2)
      | (at_builtin; have hg := hS2; go_loud (refine wpList_l (v := .slice (some ⟨w.heap.size, 0, none⟩) 1 1) (a3 := a2) (m := M2) (c := c2) rfl (.tmp 4) (.tmp 8) rfl rfl hOne.out rfl hS2.out h1m.out hM2.out ?_); intro v3 w3 bo3 HO HM HN
         obtain ⟨M3, i3⟩ : ∃ M3, LayI none w ([1] ++ numL n) v3 M3 bo3 w3 := ⟨_, LayI.fresh (zs := [1] ++ numL n) hB2.out (by rw [bV_app]; exact HO.out) HM.out HN.out (fun g e => by cases e; exact Nat.le_refl _)⟩
         obtain ⟨a3, c3, hv3, _⟩ := i3.own.len
         subst hv3
         have hM3 : Hid (M3 ≤ 1000000) := (by show _ ≤ _; have := hL10.out; have := i3.len; simp only [List.length_append, List.length_cons, List.length_nil] at this; omega)
         have I3 := Lib.hid i3
         have B3 := Lib.hid i3.since.1
         clear i3 HO HM HN)
      | (rw [← hX1]; clear hX1; go_at_call 66; refine hNum.out.mono ?_; rintro e w2 ⟨v2, M2, bo2, rfl, e2, o2, m2, n2⟩
         obtain ⟨a2, c2, rfl, s2⟩ := sl_of_own o2 (fun x hx => hn8.out n x (by simpa using hx))
         rw [List.nil_append] at s2
         have hS2 := Lib.hid s2
         have b2 := mod_lo m2 (fun g e => by cases e) (Nat.le_refl _)
         have hOne := Lib.hid (HO1.out.below b2)
         have hB2 := Lib.hid (HA.out.trans (b2.mono HA.out.size))
         have hM2 : Hid (M2 ≤ 1000000) := (by show _ ≤ _; have := hL10.out; rw [e2]; simp only [List.length_nil]; omega)
         clear e2 o2 m2 n2 s2 b2))
    go_ret
    exact ⟨a6, _, c6, rfl, S6.out, B6.out⟩
end Go.Proofs.Ytkonbldjmcccmaa
/- The law SerIs. -/
namespace Go.Proofs.Ytkonbldjmcccmaa
open Go.RowKit
/-- what the law asks behind the tree, in every later world -/
structure SerS (w : World) (v : Option Addr) (a : Option Addr) (n c : Nat) (E : List Nat) : Prop where
  enc : ∀ X, Below w.heap.size w X → Calls Try.prog 70 #[.pointer v] X (encPost X E)
  doc : ∀ X, Below w.heap.size w X → Calls Try.prog 71 #[.slice a n c] X (encPost X E)
  size : ∀ X, Below w.heap.size w X → Calls Try.prog 72 #[.pointer v] X (belowPost (.int .i64 (E.length : Nat)) X)
theorem sers_of {w0 w : World} {Q : List NP} {t : Tr} {v a : Option Addr} {n c : Nat} {l : PL} (hQ : StoreP NoB w0 w Q) (hT : TreeV Q t (.pointer v)) (hO : TOk t) (hC : Can t) (he : tl t = l) (hP : Prs w a n c l) (hs : PSrt l) (hn : n ≤ 200) (hl : ∀ x ∈ l, x.1.length ≤ 300) : SerS w v a n c (encL t) := by
  have hln : (tl t).length = n := by rw [he]; exact hP.len
  have hb : (layT t).length ≤ 200 * (300 + 46) := layT_bound (treeV_n hT) hO hC (by rw [he]; exact hl) (by omega) (by omega)
  exact ⟨fun X hX => encode_any (hQ.below hX) hT hO hC (by omega) (by omega), fun X hX => doc_encode (hP.below hX) hs (fun x hx => by have := hl x hx; omega) (by omega) (treeV_n hT) hO hC he (by omega), fun X hX => size_any (hQ.below hX) hT hO hC (by omega) (by omega)⟩
theorem sort_ser {w : World} {a : Option Addr} {n c : Nat} {l : PL} (h : Prs w a n c l) (hn : n ≤ 200) (hk : ∀ x ∈ l, x.1.length ≤ 300) : Calls Try.prog 37 #[.slice a n c] w fun e w1 => ∃ a1 m c1, e = .returned (.slice a1 m c1) ∧ Below w.heap.size w w1 ∧ Calls Try.prog 69 #[.slice a1 m c1, .int .u64 1] w1 fun e w2 => ∃ v, e = .returned (.pointer v) ∧ Below w1.heap.size w1 w2 ∧ ∃ E, SerS w2 v a1 m c1 E := by
  refine (ref_sort w a n c l h (by omega)).mono ?_
  rintro e w1 ⟨v, l0, rfl, hP, hS⟩
  obtain ⟨a1, c1, rfl, hp⟩ := hP.prs
  have hl : l0.length ≤ n := by have := hS.len; rw [h.len] at this; exact this
  have hsh := hS.short hk
  refine ⟨a1, l0.length, c1, rfl, hP.below_, (law_tree30 w1 a1 l0.length c1 l0 hp (by omega) hS.srt (fun x hx => by have := hsh x hx; omega)).mono fun e w2 ⟨t, v, Q, q1, q2, q3, q4, q5, q6⟩ => ⟨v, q1, q2.below_, _, sers_of q2 q3 q4 q5 q6 (hp.below q2.below_) hS.srt (by omega) hsh⟩⟩
set_option maxHeartbeats 2000000 in
set_option maxRecDepth 100000 in
theorem SerIs_any (w : World) (a : Option Addr) (n c : Nat) (l : PL) (h : Prs w a n c l) : Calls Try.prog 11 #[.slice a n c] w (truePost w) := by
  have hF := Lib.hid (far_30 w a n c l h 200 (by omega))
  have hal := Lib.hid (fun w => alive30 w)
  cases hb : (decide (200 < n) || farL 300 l) with
  | true =>
    rw [hb] at hF
    clear h hb
    go_enter Try.func11, Try.ntmps11
    go_wp2_with (first
      | (go_at_call 68; refine hF.out.mono ?_; rintro e w1 ⟨rfl, z1⟩; have B1 := Lib.hid z1; clear z1)
      | (go_at_call 67; refine (hal.out _).mono ?_; rintro e w2 ⟨rfl, z1⟩; have B2 := Lib.hid (B1.out.trans (z1.mono B1.out.size)); clear z1))
    go_ret
    exact ⟨rfl, B2.out⟩
  | false =>
    obtain ⟨h1, h3⟩ := far_m hb
    rw [hb] at hF
    have hso := Lib.hid (fun w1 (b1 : Below w.heap.size w w1) => sort_ser (h.below b1) h1 h3)
    clear h hb h3
    go_enter Try.func11, Try.ntmps11
    go_wp2_with (first
      | (go_at_call 67; refine (hal.out _).mono ?_; rintro e w8 ⟨rfl, z1⟩; have B8 := Lib.hid (B7.out.trans (z1.mono B7.out.size)); clear z1)
      | (go_at_call 72; refine (hX.out.size _ B6.out).mono ?_; rintro e w7 ⟨rfl, z1⟩; have B7 := Lib.hid (B6.out.trans (z1.mono B6.out.size)); clear z1)
      | (go_at_call 47; refine hSm.out.mono ?_; rintro e w6 ⟨rfl, z1⟩; have B6 := Lib.hid (B5.out.trans (z1.mono B5.out.size)); clear z1)
      | (go_at_call 71; refine (hX.out.doc _ B4.out).mono ?_; rintro e w5 ⟨a5, m5, c5, rfl, s5, z1⟩; have B5 := Lib.hid (B4.out.trans (z1.mono B4.out.size)); have hSm := Lib.hid (same_true (S4.out.below z1) s5); clear z1 s5)
      | (go_at_call 70; refine (hX.out.enc w3 (Below.refl _ _)).mono ?_; rintro e w4 ⟨a4, m4, c4, rfl, s4, z1⟩; have B4 := Lib.hid z1; have S4 := Lib.hid s4; obtain rfl : E.length = m4 := s4.len; clear z1 s4)
      | (go_at_call 69; refine hT.out.mono ?_; rintro e w3 ⟨at_, rfl, z1, E, z2⟩
         have BX := Lib.hid (B2.out.trans (z1.mono B2.out.size))
         have hX := Lib.hid z2
         clear z1 z2 hT)
      | (go_at_call 37; refine (hso.out _ B1.out).mono ?_; rintro e w2 ⟨a2, m, c2, rfl, z4, z5⟩; have B2 := Lib.hid (B1.out.trans (z4.mono B1.out.size)); have hT := Lib.hid z5; clear z4 z5)
      | (go_at_call 68; refine hF.out.mono ?_; rintro e w1 ⟨rfl, z1⟩; have B1 := Lib.hid z1; clear z1))
    go_ret
    exact ⟨rfl, BX.out.trans (B8.out.mono BX.out.size)⟩
end Go.Proofs.Ytkonbldjmcccmaa
