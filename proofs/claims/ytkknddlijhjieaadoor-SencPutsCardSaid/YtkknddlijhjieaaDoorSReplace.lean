/- bytes.Replace, all of them. -/
import Derived.Test.YtkknddlijhjieaaDoorSLib
set_option linter.unusedVariables false
set_option linter.unusedSimpArgs false
namespace Go.Proofs.YtkknddlijhjieaaDoor
open Go.RowKit
theorem underB : Tryd.prog.underlying 22 = some (.slice 5) := by kernel_rfl
set_option maxRecDepth 100000 in
theorem rep_none {w : World} {m : Int} (hM : MaxAt w m) (a0 : Option Addr) (n c : Nat) (s : List Nat) (h1 : BytesAt w a0 s) (l1 : s.length = n) (hc : n ≤ c) (hn : n ≤ 4000) (hnil : a0 = none → n = 0 ∧ c = 0) (g1 k1 c1 : Nat) (v2 : Value) (o : List Nat) (h2 : BytesAt w (some ⟨g1, 0, none⟩) o) (l2 : o.length = k1) (hk1 : 1 ≤ k1) (hk2 : k1 ≤ 2) (h0 : ncnt s o = 0) :
    Calls Tryd.prog 21 #[.slice a0 n c, .slice (some ⟨g1, 0, none⟩) k1 c1, v2, .int .i64 (-1)] w (clonePost 5 (bV s) w) := by
  have hC := lib_count hM a0 g1 n c k1 c1 s o h1 h2 l1 l2 hc (by omega) (by omega) hk1 hnil
  rw [h0] at hC
  replace hC := Lib.hid hC
  cases a0 with
  | none =>
    obtain ⟨rfl, rfl⟩ := hnil rfl
    obtain rfl : s = [] := List.eq_nil_of_length_eq_zero l1
    have hR : ∀ w' q, w' = w.drewN q → clonePost 5 (bV []) w (.returned (.slice none 0 0)) w' := fun w' q e => by subst e; exact ⟨_, none, rfl, Own.nil _ _, below_drewN (Below.refl _ _) _, Or.inl rfl⟩
    clear h1 h2 hnil h0 l1
    go_enter Tryd.func21, Tryd.ntmps21
    go_wp2_with (go_at_call 17; refine hC.out.mono ?_; rintro e w' ⟨rfl, q, rfl⟩)

    go_ret
    exact hR _ _ rfl
  | some p =>
    have Hr : Hid (∀ q, ∀ j u, (bV s)[j]? = some u → (w.drewN q).cell? (p.add j) = some u) := fun q j u hj => by
      rw [bV_get] at hj
      have hj2 : j < s.length := by
        by_cases h : j < s.length
        · exact h
        · rw [List.getElem?_eq_none (by omega)] at hj; simp at hj
      rw [List.getElem?_eq_getElem hj2] at hj
      simp only [Option.map_some, Option.some.injEq] at hj
      subst hj
      obtain ⟨p', hp, _, h2⟩ := h1.2 j hj2
      obtain rfl : p = p' := by simpa using hp
      show w.cell? _ = _
      rw [h2]
      simp [List.getD, hj2]
    have H1 := Lib.hid (bV_one s)
    have hlen : Hid ((bV s).length = n) := by show _ = _; simp [bV, l1]
    have hb1 : Hid (([] : List Value).length + n ≤ maxLen) := by show _ ≤ _; simp only [maxLen, List.length_nil]; omega
    have hb2 : Hid ((([] : List Value).length + n) * 1 ≤ 140737488355328) := by show _ ≤ _; simp only [List.length_nil]; omega
    have hR : Hid (∀ q v' w' bo', Own 5 w' v' ([] ++ bV s) bo' → Mod (fun k => (none : Option Nat) = some k) (w.drewN q) w' → NewOr (w.drewN q) none bo' → clonePost 5 (bV s) w (.returned v') w') := fun q v' w' bo' h1 h2 h3 => by
      refine ⟨v', bo', rfl, by simpa using h1, ?_, ?_⟩
      · have : Mod (fun _ => False) (w.drewN q) w' := h2.mono (fun k _ e => by cases e)
        have := this.below
        exact ⟨this.os, this.tape, this.output, this.size, this.block⟩
      · rcases h3 with rfl | ⟨g, e, hg⟩
        · exact Or.inl rfl
        · exact Or.inr ⟨g, e, hg⟩
    clear h1 h2 hnil h0 l1 hM
    go_enter Tryd.func21, Tryd.ntmps21
    go_wp2_with (first | (go_at_call 17; refine hC.out.mono ?_; rintro e w' ⟨rfl, q, rfl⟩) | (at_builtin; go_loud (refine wpList_append_at rfl _ (.tmp 24) 22 rfl 5 (.int .u8 0) 1 cloneB_under cloneB_info rfl (.slice none 0 0) rfl [] none (Own.nil _ _) p n c (bV s) rfl hlen.out (Hr.out _) H1.out hb1.out hb2.out ?_); intro v1 w1 bo1 HO HM HN))
    go_ret
    exact hR.out _ _ _ _ HO.out HM.out HN.out
end Go.Proofs.YtkknddlijhjieaaDoor
