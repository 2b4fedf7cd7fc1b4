/- The law FindAll. -/
import Derived.Test.YthifjldmhfpkhaaJ4
set_option linter.unusedVariables false
set_option linter.unusedSimpArgs false
/- The law FindAll. -/
namespace Go.Proofs.Ythifjldmhfpkhaa
open Go.RowKit
theorem psrt_look {l : PL} (h : PSrt l) {i : Nat} (hi : i < l.length) : plook l (l.getD i ([], 0)).1 = some (l.getD i ([], 0)).2 :=
  plook_at (fun j hj e => by
    have := h.at_ (i := j) (j := i) hj hi
    rw [e] at this
    exact slt_irrefl _ this) hi rfl
theorem sl_of_own {w : World} {v : Value} {bs : List Nat} {n : Nat} {bo : Option Nat} (h : OwnS 1 u8T w v n (bV bs) bo) (hb : ∀ x ∈ bs, x < 256) : ∃ a c, v = .slice a n c ∧ Sl w a n c bs := by
  rcases h with ⟨rfl, rfl, e, rfl⟩ | ⟨g, cap, cur, rfl, rfl, h4, h5, h6, h7, h8, h9⟩
  · have : bs = [] := by simpa [bV] using e
    subst this
    exact ⟨none, 0, rfl, sl_nil w⟩
  · have hl : bs.length = n := by simpa [bV] using h9
    refine ⟨_, _, rfl, hl, ⟨hb, fun i hi => ⟨_, rfl, ?_, ?_⟩⟩, h5, h6, fun e => by cases e⟩
    · rw [add0]; exact (Array.getElem?_eq_some_iff.1 h4).1
    · rw [add0]
      have h4' : w.heap[g]? = some (.cells cur.toList.toArray u8T (0, 0)) := h4
      rw [cell_of_blk h4']
      have : (cur.toList.take (n * 1))[i]? = (bV bs)[i]? := by rw [h8]
      rw [List.getElem?_take, if_pos (by omega), bV_get, List.getElem?_eq_getElem hi] at this
      rw [this]
      simp [List.getD, hi]
theorem sl_news {w : World} {p : Addr} {n c : Nat} {bs : List Nat} (h : Sl w (some p) n c bs) {w' : World} (hb : Below w.heap.size w w') : ∀ j u, (bV bs)[j]? = some u → w'.cell? (p.add j) = some u := fun j u hj => by
  rw [bV_get] at hj
  have hj2 : j < bs.length := by
    by_cases h : j < bs.length
    · exact h
    · rw [List.getElem?_eq_none (by omega)] at hj; simp at hj
  rw [List.getElem?_eq_getElem hj2] at hj
  simp only [Option.map_some, Option.some.injEq] at hj
  subst hj
  obtain ⟨p', hp, h1, h2⟩ := h.at_.2 j hj2
  obtain rfl : p = p' := by simpa using hp
  rw [hb.cell h1, h2]
  simp [List.getD, hj2]
theorem sort_says2 {w : World} {a : Option Addr} {n c : Nat} {l : PL} (h : Prs w a n c l) (hn : n ≤ 300) (hk : ∀ x ∈ l, x.1.length ≤ 300) : Calls Try.prog 50 #[.slice a n c] w fun e w1 => ∃ a1 m c1 l0, e = .returned (.slice a1 m c1) ∧ Prs w1 a1 m c1 l0 ∧ m ≤ n ∧ PSrt l0 ∧ (∀ x ∈ l0, x.1.length ≤ 300) ∧ Below w.heap.size w w1 ∧ Calls Try.prog 51 #[.slice a1 m c1] w1 (saysPost l0 w1) := by
  refine (ref_sort w a n c l h (by omega)).mono ?_
  rintro e w1 ⟨v, l0, rfl, hP, hS⟩
  obtain ⟨a1, c1, rfl, hp⟩ := hP.prs
  have hl : l0.length ≤ n := by have := hS.len; rw [h.len] at this; exact this
  exact ⟨a1, l0.length, c1, l0, rfl, hp, hl, hS.srt, hS.short hk, hP.below_, law_tree_says w1 a1 l0.length c1 l0 hp (by omega) hS.srt (fun x hx => by have := hS.short hk x hx; omega)⟩
theorem run_append_nn (w : World) (t ty : TypeId) (ht : Try.prog.underlying t = some (.slice u8T)) (c : Nat) : (Builtin.append_ #[t, t] ty #[.slice none 0 0, .slice none 0 c]).run Try.prog w = .ok (.slice none 0 0) w := by
  obtain ⟨i, hi, hz, hsize, hby⟩ := info_parts cloneB_info
  have hu : ∀ w, (underlying t).run Try.prog w = .ok (.slice u8T) w := fun w => by simp [underlying, go_sem, ht]
  have hs : ∀ w, (sizeOf u8T).run Try.prog w = .ok 1 w := fun w => by
    have hi' : Try.prog.info? u8T = some i := hi
    simp [sizeOf, typeInfo, go_sem, hi', hsize]
  simp only [Builtin.append_, Sem.run_bind, Result.andThen_ok, hu, hs, List.getElem?_toArray, List.getElem?_cons_zero, List.getElem?_cons_succ]
  simp [go_sem, hu, hs]
theorem wpList_append_b {w : World} {ops : Array Oper} {rest : List Oper} {o : Oper} {a : Act} {Q : Exit → Act → World → Prop} (hgd : o.guard = none) (s x : Operand) (t : TypeId)
    (ho : o.op = .call { callee := .builtin .append, args := #[s, x], argTypes := #[t, t] }) (ht : Try.prog.underlying t = some (.slice u8T)) (hs : a.eval s = .slice none 0 0)
    (a3 : Option Addr) (n3 c3 : Nat) (bs : List Nat) (hx : a.eval x = .slice a3 n3 c3) (hS : Sl w a3 n3 c3 bs) (hn : n3 ≤ 1000)
    (h : ∀ v' w' bo', Hid (OwnS 1 u8T w' v' n3 (bV bs) bo') → Hid (Below w.heap.size w w') → Hid (NewOr w none bo') → wpList Try.prog ops Q rest (a.put o.dst v') w') : wpList Try.prog ops Q (o :: rest) a w := by
  have hl := hS.len
  cases a3 with
  | none =>
    obtain ⟨rfl, rfl⟩ := hS.nil rfl
    obtain rfl : bs = [] := List.eq_nil_of_length_eq_zero hl
    refine wpList_plain hgd fun K hK => ?_
    have hr := run_append_nn w t o.type ht 0
    unfold Oper.wp execOp
    simp only [ho, resolve, invoke, builtin, Sem.run_bind, Sem.run_pure, Result.andThen_ok, List.map_toArray, List.map_cons, List.map_nil, hs, hx, hr]
    exact hK _ _ (h _ w none (OwnS.nil _ _ _) (Below.refl _ w) (Or.inl rfl))
  | some p =>
    refine wpList_append_s hgd s x t ho u8T (.int .u8 0) 1 1 ht cloneB_info rfl (by omega) (.slice none 0 0) hs 0 [] none (OwnS.nil _ _ _) p n3 c3 (bV bs) hx (by simp [bV, hl]) (sl_news hS (Below.refl _ w)) (bV_one bs) (by unfold maxLen; omega) (by omega) ?_
    intro v' w' bo' H1 H2 H3
    have H1' := H1.out
    rw [Nat.zero_add, List.nil_append] at H1'
    exact h v' w' bo' H1' (H2.out.belowOf (Nat.le_refl _) (fun _ e => by cases e)) H3
/-- behind the two appends -/
theorem all_aft {w3 wr w4 : World} {a3 : Option Addr} {n3 c3 : Nat} {x : List Nat} {y : Int} {t : TypeId} {bo1 : Option Nat} {b : Nat} (hb : b < 256) (hR : Below w3.heap.size w3 wr) (hM : Below (wr.alloc (.cells #[.slice a3 n3 c3, .int .u64 y] t)).heap.size (wr.alloc (.cells #[.slice a3 n3 c3, .int .u64 y] t)) w4) (hN : NewOr (wr.alloc (.cells #[.slice a3 n3 c3, .int .u64 y] t)) none bo1) (hx : ∀ z ∈ x, z < 256) :
    ∀ v2 w5 bo2, OwnS 1 u8T w5 v2 (n3 + 1) (bV x ++ [.int .u8 (b : Nat)]) bo2 → Mod (fun k => bo1 = some k) (w4.alloc (.cells #[.int .u8 (b : Nat)] 5)) w5 → ∃ a5 c5, v2 = .slice a5 (n3 + 1) c5 ∧ w5.cell? ⟨wr.heap.size, 0, none⟩ = some (.slice a3 n3 c3) ∧ w5.cell? ⟨wr.heap.size, 1, none⟩ = some (.int .u64 y) ∧ Sl w5 a5 (n3 + 1) c5 (x ++ [b]) ∧ Below wr.heap.size wr w5 := fun v2 w5 bo2 hO hm => by
  have hk : (wr.alloc (.cells #[.slice a3 n3 c3, .int .u64 y] t)).heap[wr.heap.size]? = some (.cells [.slice a3 n3 c3, .int .u64 y].toArray t (0, 0)) := heap_alloc_new wr _
  obtain ⟨wB, hwB⟩ : ∃ wB, wB = wr.alloc (.cells #[.slice a3 n3 c3, .int .u64 y] t) := ⟨_, rfl⟩
  have b0 : Below wr.heap.size wr wB := by rw [hwB]; exact (Below.refl _ _).alloc (Nat.le_refl _) _
  have sB : wB.heap.size = wr.heap.size + 1 := by rw [hwB]; simp
  rw [← hwB] at hM hN hk
  have bo : bo1 = none ∨ ∃ g, bo1 = some g ∧ wB.heap.size ≤ g := by
    rcases hN with e | ⟨g, e, h⟩
    · exact Or.inl e
    · exact Or.inr ⟨g, e, h⟩
  have h1 : Below wB.heap.size wB (w4.alloc (.cells #[.int .u8 (b : Nat)] 5)) := hM.alloc hM.size _
  have h2 : Below wB.heap.size wB w5 := h1.trans (hm.sinceOf bo h1.size)
  have hk5 := (h2.block wr.heap.size (by omega)).trans hk
  have hbv : bV x ++ [.int .u8 (b : Nat)] = bV (x ++ [b]) := by simp [bV]
  rw [hbv] at hO
  obtain ⟨a5, c5, e, hS⟩ := sl_of_own hO (by
    intro z hz
    rcases List.mem_append.1 hz with hz | hz
    · exact hx z hz
    · rw [List.mem_singleton.1 hz]; exact hb)
  exact ⟨a5, c5, e, by rw [cell_of_blk hk5]; rfl, by rw [cell_of_blk hk5]; rfl, hS, b0.trans (h2.mono b0.size)⟩
set_option maxHeartbeats 4000000 in
set_option maxRecDepth 100000 in
theorem FindAll_any (w : World) (a : Option Addr) (n c : Nat) (l : PL) (h : Prs w a n c l) (b : Nat) (hbb : b < 256) : Calls Try.prog 10 #[.slice a n c, .int .u8 (b : Nat)] w (truePost w) := by
  have hF := Lib.hid (far_any w a n c l h none 0 0)
  have hal := Lib.hid (fun w => aliveF_any w)
  cases hb : (decide (300 < n) || decide (600 < 0) || farL 300 l) with
  | true =>
    rw [hb] at hF
    clear h hb
    go_enter Try.func10, Try.ntmps10
    go_wp2_with (first
      | (go_at_call 48; refine hF.out.mono ?_; rintro e w1 ⟨rfl, z1⟩; have B1 := Lib.hid z1; clear z1)
      | (go_at_call 49; refine (hal.out _).mono ?_; rintro e w2 ⟨rfl, z1⟩; have B2 := Lib.hid (B1.out.trans (z1.mono B1.out.size)); clear z1))
    go_ret
    exact ⟨rfl, B2.out⟩
  | false =>
    obtain ⟨h1, h2, h3⟩ := far_no hb
    rw [hb] at hF
    by_cases hm : 100 < n
    · have hm2 : (100 : Int) < (n : Int) := by omega
      clear h hb
      go_enter Try.func10, Try.ntmps10
      go_wp2_with (first
        | (go_at_call 48; refine hF.out.mono ?_; rintro e w1 ⟨rfl, z1⟩; have B1 := Lib.hid z1; clear z1)
        | (go_at_call 49; refine (hal.out _).mono ?_; rintro e w2 ⟨rfl, z1⟩; have B2 := Lib.hid (B1.out.trans (z1.mono B1.out.size)); clear z1))
      go_ret
      exact ⟨rfl, B2.out⟩
    · have hm2 : ¬ (100 : Int) < (n : Int) := by omega
      have hso := Lib.hid (fun w1 (b1 : Below w.heap.size w w1) => sort_says2 (h.below b1) h1 h3)
      have hsh := Lib.hid h3
      clear h hb h3
      go_enter Try.func10, Try.ntmps10
      go_wp2_with (first
        | (go_at_call 51; refine hT.out.mono ?_; rintro e w3 ⟨at_, rfl, z1⟩
           have B3 := Lib.hid (B2.out.trans (z1.below.mono B2.out.size))
           have hS := Lib.hid z1
           have hP3 := Lib.hid (hP.out.below z1.below)
           clear z1 hP hT B2)
        | (go_at_call 50; refine (hso.out _ B1.out).mono ?_; rintro e w2 ⟨a2, m, c2, l0, rfl, z1, z2, z3, z6, z4, z5⟩; have hsh0 := Lib.hid z6; clear z6; have hP := Lib.hid z1; have hmn := z2; have hsrt := Lib.hid z3; have B2 := Lib.hid (B1.out.trans (z4.mono B1.out.size)); have hT := Lib.hid z5; clear z1 z2 z3 z4 z5 B1)
        | (go_at_call 48; refine hF.out.mono ?_; rintro e w1 ⟨rfl, z1⟩; have B1 := Lib.hid z1; clear z1))
      have hw0 := Lib.hid (Below.refl w3.heap.size w3)
      go_loopw [32] (fun vi wr => ∃ i : Nat, vi = .int .i64 (i : Nat) ∧ i ≤ m ∧ Hid (Below w3.heap.size w3 wr)) (fun vi _ => (m - intOf vi).toNat)
      case atStart => exact ⟨0, rfl, by omega, hw0⟩
      case round =>
        clear hw0
        obtain ⟨i, rfl, hi, hR⟩ := hrel
        by_cases hlt : i < m
        · have hlt2 : (i : Int) < (m : Int) := by omega
          have hlt0 : (0 : Int) ≤ (i : Int) := by omega
          obtain ⟨p, a3, n3, c3, rfl, q1, q2, q3⟩ := prs_row (hP3.out.below hR.out) hlt
          have hn3 : n3 ≤ 300 := by rw [← q3.len]; exact hsh0.out _ (mem_getD (by rw [hP3.out.len]; exact hlt))
          have hlk := psrt_look hsrt.out (i := i) (by rw [hP3.out.len]; exact hlt)
          generalize (l0.getD i ([], 0)).2 = y at *
          generalize (l0.getD i ([], 0)).1 = x at *
          have HLK := Lib.hid hlk
          clear hlk
          have Q3 := Lib.hid (q3.below ((Below.refl _ wr).alloc (Nat.le_refl _) (.cells #[.slice a3 n3 c3, .int .u64 y] kpT)))
          have hw9 : IntKind.i64.wrap (((i : Nat) : Int) + 1) = ((i + 1 : Nat) : Int) := by rw [show ((i : Nat) : Int) + 1 = ((i + 1 : Nat) : Int) by omega]; exact IntWalk.i64_in _ (by omega)
          have Q30 := Lib.hid q3
          have hone : Hid (∀ u ∈ ([.int .u8 (b : Nat)] : List Value), u.oneCell' = true) := by intro u hu; simp only [List.mem_singleton] at hu; subst hu; rfl
          have hxb := Lib.hid q3.at_.1
          have hl1 : Hid (n3 + 1 ≤ maxLen) := by show _ ≤ _; unfold maxLen; omega
          have hl2 : Hid ((n3 + 1) * 1 ≤ 140737488355328) := by show _ ≤ _; omega
          have hcut : ∀ w, (Instr.slice 26 (.slice a3 n3 c3) none (some (.int .i64 ((n3 - 1 : Nat) : Int))) none).run Try.prog w = .ok (.slice a3 (n3 - 1) c3) w := fun w => by rw [run_to8 w a3 n3 c3 (n3 - 1) (by have := q3.cap; omega), cutA_zero]
          have hmax : max 0 (IntKind.i64.wrap ((n3 : Int) - 1)) = ((n3 - 1 : Nat) : Int) := by
            by_cases e : n3 = 0
            · subst e; rfl
            · rw [show ((n3 : Int) - 1) = ((n3 - 1 : Nat) : Int) by omega, IntWalk.i64_in _ (by omega)]
              omega
          have hcap3 := q3.cap
          clear q3
          go_wp2_with (first
            | (at_builtin; go_loud (refine wpList_append_s rfl _ _ 26 rfl u8T (.int .u8 0) 1 1 Try.underlying26 cloneB_info rfl (by omega) v1 rfl n3 (bV x) bo1 HO2.out ⟨w4.heap.size, 0, none⟩ 1 1 [.int .u8 (b : Nat)] rfl rfl hN2.out hone.out hl1.out hl2.out ?_); intro v2 w5 bo2 HO3 HM3 HN3
               obtain ⟨a5, c5, e5, k0, k1, hS5, B5⟩ := hAft.out v2 w5 bo2 HO3.out HM3.out
               subst e5
               have hS30 := Lib.hid ((Q30.out).below B5)
               have hS5 := Lib.hid hS5
               have B5 := Lib.hid B5
               clear HO3 HM3 HN3)
            | (at_builtin; go_loud (refine wpList_append_b rfl _ _ 26 rfl Try.underlying26 rfl a3 n3 c3 x rfl Q3.out (by omega) ?_); intro v1 w4 bo1 HO HM HN
               have HO2 := Lib.hid (HO.out.below ((Below.refl _ w4).alloc (Nat.le_refl _) (.cells #[.int .u8 (b : Nat)] 5)))
               have hN2 : Hid (∀ j u, ([.int .u8 (b : Nat)] : List Value)[j]? = some u → (w4.alloc (.cells #[.int .u8 (b : Nat)] 5)).cell? ((⟨w4.heap.size, 0, none⟩ : Addr).add j) = some u) := fun j u h => by
                 have hb : (w4.alloc (.cells #[.int .u8 (b : Nat)] 5)).heap[w4.heap.size]? = some (.cells [.int .u8 (b : Nat)].toArray 5 (0, 0)) := heap_alloc_new w4 _
                 rw [add0, cell_of_blk hb]; exact h
               have hAft := Lib.hid (all_aft (b := b) hbb hR.out HM.out HN.out hxb.out)))
          obtain ⟨L, hL⟩ : ∃ L, L = (max 0 ((n3 : Int) - 1)).toNat := ⟨_, rfl⟩
          rw [← hL]
          have hLn : L ≤ n3 := by omega
          obtain ⟨w6, hw6⟩ : ∃ w6, w6 = w5.alloc (.cells #[.slice a3 n3 c3, .slice a5 (n3 + 1) c5, .slice a3 L c3] 26) := ⟨_, rfl⟩
          rw [← hw6]
          have b6 : Below w5.heap.size w5 w6 := by rw [hw6]; exact (Below.refl _ _).alloc (Nat.le_refl _) _
          have BW := Lib.hid (hR.out.trans ((B5.out.trans (b6.mono B5.out.size)).mono hR.out.size))
          have hKb : w6.heap[w5.heap.size]? = some (.cells [.slice a3 n3 c3, .slice a5 (n3 + 1) c5, .slice a3 L c3].toArray 26 (0, 0)) := by rw [hw6]; exact heap_alloc_new w5 _
          have hS3 : Sl w5 a3 n3 c3 x := hS30.out
          have hKeys : Hid (∀ j, j < 3 → ∀ w', Below w6.heap.size w6 w' → ∃ aj nj cj kj, w'.cell? ⟨w5.heap.size, j, none⟩ = some (.slice aj nj cj) ∧ Sl w' aj nj cj kj ∧ nj ≤ 1000) := fun j hj w' hb => by
            have hKb' := (hb.block w5.heap.size (Array.getElem?_eq_some_iff.1 hKb).1).trans hKb
            have hc : ∀ j, w'.cell? ⟨w5.heap.size, j, none⟩ = _ := fun j => cell_of_blk hKb' j
            obtain rfl | rfl | rfl : j = 0 ∨ j = 1 ∨ j = 2 := by omega
            · exact ⟨_, _, _, x, hc 0, (hS3.below b6).below hb, by omega⟩
            · exact ⟨_, _, _, x ++ [b], hc 1, (hS5.out.below b6).below hb, by omega⟩
            · refine ⟨_, _, _, x.take L, hc 2, ?_, by omega⟩
              have := hS3.to_ (hi := L) (by omega)
              rw [cutA_zero] at this
              exact (this.below b6).below hb
          have hW3 := Lib.hid (hS3.below b6)
          have hC0 := Lib.hid ((b6.cell (cell_lt k0)).trans k0)
          have hC1 := Lib.hid ((b6.cell (p := ⟨wr.heap.size, 1, none⟩) (cell_lt k1)).trans k1)
          have h60 := Lib.hid (Below.refl w6.heap.size w6)
          clear hL hw6 b6 hKb hS3 HO HM HN HO2 hN2 hAft hS5 B5 hone hxb hl1 hl2 hcut hmax k0 k1
          obtain ⟨wo, rfl⟩ : ∃ wo : World, wo = wr := ⟨_, rfl⟩
          go_loopw [56] (fun vj wq => ∃ j : Nat, vj = .int .i64 (j : Nat) ∧ j ≤ 3 ∧ Hid (Below w6.heap.size w6 wq)) (fun vj _ => (3 - intOf vj).toNat)
          case atStart => exact ⟨0, rfl, by omega, h60⟩
          case round =>
            clear h60
            obtain ⟨j, rfl, hj, hQ⟩ := hrel
            have BX := Lib.hid (BW.out.trans (hQ.out.mono BW.out.size))
            by_cases hj3 : j < 3
            · have hj4 : (j : Int) < 3 := by omega
              have hj0 : (0 : Int) ≤ (j : Int) := by omega
              obtain ⟨aj, nj, cj, kj, cc, sk, hnj⟩ := hKeys.out j hj3 _ hQ.out
              have hw8 : IntKind.i64.wrap (((j : Nat) : Int) + 1) = ((j + 1 : Nat) : Int) := by rw [show ((j : Nat) : Int) + 1 = ((j + 1 : Nat) : Int) by omega]; exact IntWalk.i64_in _ (by omega)
              have hg := hS.out.get _ (BX.out) _ _ _ kj sk hnj
              have hdg := fun w4 (b4 : Below wr.heap.size wr w4) => doc_get w4 _ _ _ l0 (hP3.out.below (BX.out.trans (b4.mono BX.out.size))) (by omega) (sk.below b4)
              unfold getVal at hg hdg
              generalize (plook l0 kj).getD 0 = r0 at hg hdg
              generalize (plook l0 kj).isSome = r1 at hg hdg
              have hg := Lib.hid hg
              have hdg := Lib.hid hdg
              clear sk
              go_wp2_with (first
                | (go_at_call 53; refine (hdg.out _ Bg.out).mono ?_; rintro e w8 ⟨rfl, q8, e8⟩; have Bd : Hid (Below w6.heap.size w6 w8) := (by show Below _ _ _; rw [e8]; exact (hQ.out.trans (Bg.out.mono hQ.out.size)).trans (below_drewN (Below.refl _ _) q8)); clear e8)
                | (go_at_call 52; refine hg.out.mono ?_; rintro e w7 ⟨rfl, z1⟩; have Bg := Lib.hid z1; clear z1))
              go_roundw
              case rel => exact ⟨j + 1, (by first | rfl | go_num), by omega, Bd⟩
              case measure => (simp [intOf]) <;> omega
            · have hj4 : ¬ (j : Int) < 3 := by omega
              have hg : Hid (Calls Try.prog 52 #[.pointer at_, .slice a3 n3 c3] wr (belowPost (.tuple #[.int .u64 y, .bool true]) wr)) := by
                have := hS.out.get _ BX.out _ _ _ x (hW3.out.below hQ.out) (by omega)
                rw [HLK.out] at this
                exact this
              have k0 := (hQ.out.cell (cell_lt hC0.out)).trans hC0.out
              have k1 := (hQ.out.cell (p := ⟨wo.heap.size, 1, none⟩) (cell_lt hC1.out)).trans hC1.out
              have K0 := Lib.hid k0
              have K1 := Lib.hid k1
              go_wp2_with (go_at_call 52; refine hg.out.mono ?_; rintro e w7 ⟨rfl, z1⟩; have Bg := Lib.hid (BX.out.trans (z1.mono BX.out.size)); have k2 := (z1.cell (cell_lt K0.out)).trans K0.out; have k3 := (z1.cell (p := ⟨wo.heap.size, 1, none⟩) (cell_lt K1.out)).trans K1.out; clear z1)
              go_roundw
              case rel => exact ⟨i + 1, (by first | rfl | go_num), by omega, Bg⟩
              case measure => (simp [intOf]) <;> omega
        · have hlt2 : ¬ (i : Int) < (m : Int) := by omega
          obtain rfl : i = m := by omega
          have hAl := Lib.hid (hal.out wr)
          go_wp2_with (go_at_call 49; refine hAl.out.mono ?_; rintro e w12 ⟨rfl, z1⟩; have BZ := Lib.hid (B3.out.trans ((hR.out.trans (z1.mono hR.out.size)).mono B3.out.size)); clear z1)
          go_ret
          exact ⟨rfl, BZ.out⟩
end Go.Proofs.Ythifjldmhfpkhaa
