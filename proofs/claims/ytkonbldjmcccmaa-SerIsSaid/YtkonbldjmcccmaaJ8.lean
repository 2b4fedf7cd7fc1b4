/- The law FindSteps. -/
import Derived.Test.YtkonbldjmcccmaaJ7
import Derived.Test.YtkonbldjmcccmaaJ6
import Derived.Test.YtkonbldjmcccmaaJ4
set_option linter.unusedVariables false
set_option linter.unusedSimpArgs false
/- The law FindSteps. -/
namespace Go.Proofs.Ytkonbldjmcccmaa
open Go.RowKit
theorem steps_any : ∀ N, StAsk N := fun N => Nat.strongRecOn N fun N IH => ref_steps N IH
theorem steps_none (w : World) (pa ba ra : Option Addr) (pn pc bn bc rn rc : Nat) (hs : Bool) (v : Int) (ka : Option Addr) (kn kc : Nat) : Calls Try.prog 40 #[.agg #[.int .i64 0, .slice pa pn pc, .bool hs, .int .u64 v, .slice ba bn bc, .slice ra rn rc], .slice ka kn kc] w (belowPost (.int .i64 ((0 : Nat) : Int)) w) := by
  have hb : Hid (∀ o, Below w.heap.size w (w.alloc o)) := fun o => (Below.refl _ w).alloc (Nat.le_refl _) o
  go_enter Try.func40, Try.ntmps40
  go_wp2_with fail
  go_ret
  exact ⟨rfl, hb.out _⟩
theorem tdep_le : ∀ (t : Tr) (m : Nat), TOk t → Can t → (∀ p ∈ tl t, p.1.length ≤ m) → (IsN t → tdep t ≤ m + 1) ∧ (IsK t → tdep t ≤ m)
  | .nil, m, _, _, _ => ⟨fun h => h.elim, fun _ => Nat.zero_le _⟩
  | .kid b t r, m, ⟨h1, h2, h3, h4, h5, h6⟩, ⟨c1, c2⟩, h => ⟨fun h => h.elim, fun _ => by
    obtain ⟨x, hx⟩ := List.exists_mem_of_ne_nil _ (tl_ne t h2 h3 c1)
    have hm : ∀ p ∈ tl t, p.1.length + 1 ≤ m := fun p hp => by
      have := h (b :: p.1, p.2) (List.mem_append.2 (Or.inl (List.mem_map.2 ⟨p, hp, rfl⟩)))
      simpa using this
    have h0 := hm x hx
    have a1 := (tdep_le t (m - 1) h3 c1 fun p hp => by have := hm p hp; omega).1 h2
    have a2 := (tdep_le r m h5 c2 fun p hp => h p (List.mem_append.2 (Or.inr hp))).2 h4
    simp only [tdep]
    omega⟩
  | .node bs v has leaf ks, m, ⟨h1, h2, h3, h4, h5, h6, h7⟩, ⟨c1, c2⟩, h => ⟨fun _ => by
    have a := (tdep_le ks m h7 c1 fun p hp => by
      have := h (bs ++ p.1, p.2) (List.mem_append.2 (Or.inr (List.mem_map.2 ⟨p, hp, rfl⟩)))
      rw [List.length_append] at this
      omega).2 h6
    simp only [tdep]
    omega, fun h => h.elim⟩
theorem treeV_n {Q : List NP} {t : Tr} {v : Value} (h : TreeV Q t v) : t = .nil ∨ IsN t := by
  rcases h with ⟨h, _⟩ | ⟨h, _⟩
  · exact Or.inl h
  · exact Or.inr h
theorem nil_of_tl {t : Tr} (h : t = .nil ∨ IsN t) (h1 : TOk t) (h2 : Can t) (h3 : tl t = []) : t = .nil := by
  rcases h with h | h
  · exact h
  · exact absurd h3 (tl_ne t h h1 h2)
/-- what the law asks, in every later world -/
structure StS (w : World) (v : Option Addr) (a : Option Addr) (n c : Nat) (ka : Option Addr) (kn kc : Nat) (S D : Nat) : Prop where
  steps : ∀ X, Below w.heap.size w X → Calls Try.prog 39 #[.pointer v, .slice ka kn kc] X (belowPost (.int .i64 (S : Nat)) X)
  build : ∀ X, Below w.heap.size w X → Calls Try.prog 41 #[.slice a n c] X fun e w' => ∃ (kd : Int) (pa : Option Addr) (pn pc : Nat) (hs : Bool) (y : Int) (ba : Option Addr) (bn bc : Nat) (ra : Option Addr) (rn rc : Nat), e = .returned (.agg #[.int .i64 kd, .slice pa pn pc, .bool hs, .int .u64 y, .slice ba bn bc, .slice ra rn rc]) ∧ Below X.heap.size X w' ∧
    ∀ X2, Below w'.heap.size w' X2 → Calls Try.prog 40 #[.agg #[.int .i64 kd, .slice pa pn pc, .bool hs, .int .u64 y, .slice ba bn bc, .slice ra rn rc], .slice ka kn kc] X2 (belowPost (.int .i64 (S : Nat)) X2)
  depth : ∀ X, Below w.heap.size w X → Calls Try.prog 42 #[.pointer v] X (belowPost (.int .i64 (D : Nat)) X)
  le1 : S ≤ kn + 1
  le2 : S ≤ D
  le3 : D ≤ 1000
theorem sts_of {w0 w : World} {Q : List NP} {t : Tr} {v a : Option Addr} {n c : Nat} {l : PL} {ka : Option Addr} {kn kc : Nat} {k : List Nat} (hQ : StoreP NoB w0 w Q) (hT : TreeV Q t (.pointer v)) (hO : TOk t) (hC : Can t) (he : tl t = l) (hP : Prs w a n c l) (hs : PSrt l) (hK : Sl w ka kn kc k) (hn : n ≤ 300) (hk : kn ≤ 600) (hl : ∀ x ∈ l, x.1.length ≤ 300) : StS w v a n c ka kn kc (tstep t k) (tdep t) where
  steps := fun X hb => find_steps (hQ.below hb) (hK.below hb) hT hO (by omega)
  build := fun X hb => (doc_build (hP.below hb) hs (fun x hx => by have := hl x hx; omega) (by omega)).mono fun e w' ⟨kd, pa, pn, pc, h, y, ba, bn, bc, ra, rn, rc, q1, q2, q3⟩ => by
    refine ⟨kd, pa, pn, pc, h, y, ba, bn, bc, ra, rn, rc, q1, q2, fun X2 hb2 => ?_⟩
    rcases q3 with ⟨e0, rfl, _⟩ | ⟨t', n1, o1, c1, e1, hR⟩
    · have ht := nil_of_tl (treeV_n hT) hO hC (by rw [he, e0])
      subst ht
      exact steps_none X2 _ _ _ _ _ _ _ _ _ _ _ _ _ _
    · have hst : tstep t k = tstep t' k := tstep_same k hO o1 hC c1 (treeV_n hT) (Or.inr n1) (by rw [he, e1])
      rw [hst]
      cases t' with
      | nil => exact n1.elim
      | kid => exact n1.elim
      | node bs' v' has' leaf' ks' =>
        exact steps_any k.length bs' v' has' leaf' ks' _ k (Nat.le_refl _) (hR.keep hb2.size fun j hj => hb2.block j hj) (fun j hj => Nat.lt_of_lt_of_le hj hb2.size) o1 (((hK.below hb).below q2).below hb2) (by omega)
  depth := fun X hb => depth_any (tdep t) (by
    rcases treeV_n hT with rfl | h
    · exact Nat.zero_le _
    · have := (tdep_le t 300 hO hC (by rw [he]; exact hl)).1 h; omega) t (Nat.le_refl _) (hQ.below hb) hT hO
  le1 := by rw [← hK.len]; exact tstep_le k (treeV_n hT) hO
  le2 := tstep_dep t k
  le3 := by
    rcases treeV_n hT with rfl | h
    · exact Nat.zero_le _
    · have := (tdep_le t 300 hO hC (by rw [he]; exact hl)).1 h; omega
theorem sort_sts {w : World} {a : Option Addr} {n c : Nat} {l : PL} (h : Prs w a n c l) (hn : n ≤ 300) (hk : ∀ x ∈ l, x.1.length ≤ 300) : Calls Try.prog 37 #[.slice a n c] w fun e w1 => ∃ a1 m c1, e = .returned (.slice a1 m c1) ∧ Below w.heap.size w w1 ∧ Calls Try.prog 38 #[.slice a1 m c1] w1 fun e w2 => ∃ v, e = .returned (.pointer v) ∧ Below w1.heap.size w1 w2 ∧
    ∀ ka kn kc k, Sl w2 ka kn kc k → kn ≤ 600 → ∃ S D, StS w2 v a1 m c1 ka kn kc S D := by
  refine (ref_sort w a n c l h (by omega)).mono ?_
  rintro e w1 ⟨v, l0, rfl, hP, hS⟩
  obtain ⟨a1, c1, rfl, hp⟩ := hP.prs
  have hl : l0.length ≤ n := by have := hS.len; rw [h.len] at this; exact this
  have hsh := hS.short hk
  refine ⟨a1, l0.length, c1, rfl, hP.below_, (law_tree w1 a1 l0.length c1 l0 hp (by omega) hS.srt (fun x hx => by have := hsh x hx; omega)).mono fun e w2 ⟨t, v, Q, q1, q2, q3, q4, q5, q6⟩ => ⟨v, q1, q2.below_, fun ka kn kc k hK hkn => ⟨_, _, sts_of q2 q3 q4 q5 q6 (hp.below q2.below_) hS.srt hK (by omega) hkn hsh⟩⟩⟩
set_option maxHeartbeats 4000000 in
set_option maxRecDepth 100000 in
theorem FindSteps_any (w : World) (a : Option Addr) (n c : Nat) (l : PL) (h : Prs w a n c l) (ka : Option Addr) (kn kc : Nat) (k : List Nat) (hK : Sl w ka kn kc k) : Calls Try.prog 5 #[.slice a n c, .slice ka kn kc] w (truePost w) := by
  have hF := Lib.hid (far_any w a n c l h ka kn kc)
  have hal := Lib.hid (fun w => aliveF_any w)
  cases hb : (decide (300 < n) || decide (600 < kn) || farL 300 l) with
  | true =>
    rw [hb] at hF
    clear h hK hb
    go_enter Try.func5, Try.ntmps5
    go_wp2_with (first
      | (go_at_call 35; refine hF.out.mono ?_; rintro e w1 ⟨rfl, z1⟩; have B1 := Lib.hid z1; clear z1)
      | (go_at_call 36; refine (hal.out _).mono ?_; rintro e w2 ⟨rfl, z1⟩; have B2 := Lib.hid (B1.out.trans (z1.mono B1.out.size)); clear z1))
    go_ret
    exact ⟨rfl, B2.out⟩
  | false =>
    obtain ⟨h1, h2, h3⟩ := far_no hb
    rw [hb] at hF
    have HK := Lib.hid hK
    have hso := Lib.hid (fun w1 (b1 : Below w.heap.size w w1) => sort_sts (h.below b1) h1 h3)
    clear h hK hb h3
    go_enter Try.func5, Try.ntmps5
    go_wp2_with (first
      | (go_at_call 36; refine (hal.out _).mono ?_; rintro e w8 ⟨rfl, z1⟩; have B8 := Lib.hid (B7.out.trans (z1.mono B7.out.size)); clear z1)
      | (go_at_call 42; refine (hX.out.depth _ B6.out).mono ?_; rintro e w7 ⟨rfl, z1⟩; have B7 := Lib.hid (B6.out.trans (z1.mono B6.out.size)); clear z1)
      | (go_at_call 40; refine (hStp.out _ (Below.refl _ _)).mono ?_; rintro e w6 ⟨rfl, z1⟩; have B6 := Lib.hid (B5.out.trans (z1.mono B5.out.size)); clear z1)
      | (go_at_call 41; refine (hX.out.build _ B4.out).mono ?_; rintro e w5 ⟨kd, pa, pn, pc, hs, y, ba, bn, bc, ra, rn, rc, rfl, z1, z2⟩; have hStp := Lib.hid z2; have B5 := Lib.hid (B4.out.trans (z1.mono B4.out.size)); clear z1 z2)
      | (go_at_call 39; refine (hX.out.steps w3 (Below.refl _ _)).mono ?_; rintro e w4 ⟨rfl, z1⟩; have B4 := Lib.hid z1; clear z1)
      | (go_at_call 38; refine hT.out.mono ?_; rintro e w3 ⟨at_, rfl, z1, z2⟩
         have BX := Lib.hid (B2.out.trans (z1.mono B2.out.size))
         obtain ⟨S, D, hX0⟩ := z2 _ _ _ _ (HK.out.below BX.out) h2
         have hX := Lib.hid hX0
         have hl1 := hX0.le1
         have hl2 := hX0.le2
         have hl3 := hX0.le3
         have hg1 : (S : Int) ≤ (kn : Int) + 1 := by omega
         have hg2 : (S : Int) ≤ (D : Int) := by omega
         have hwk : IntKind.i64.wrap ((kn : Int) + 1) = (kn : Int) + 1 := IntWalk.i64_in _ (by omega)
         clear z1 z2 hT hX0)
      | (go_at_call 37; refine (hso.out _ B1.out).mono ?_; rintro e w2 ⟨a2, m, c2, rfl, z4, z5⟩; have B2 := Lib.hid (B1.out.trans (z4.mono B1.out.size)); have hT := Lib.hid z5; clear z4 z5)
      | (go_at_call 35; refine hF.out.mono ?_; rintro e w1 ⟨rfl, z1⟩; have B1 := Lib.hid z1; clear z1))
    go_ret
    exact ⟨rfl, BX.out.trans (B8.out.mono BX.out.size)⟩
end Go.Proofs.Ytkonbldjmcccmaa
