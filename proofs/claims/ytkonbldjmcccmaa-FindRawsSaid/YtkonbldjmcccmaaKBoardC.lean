/- Boards: Copy. -/
import Derived.Test.YtkonbldjmcccmaaKBoardY
import Derived.Lib.SliceRun
set_option linter.unusedVariables false
set_option linter.unusedSimpArgs false
namespace Go.Proofs.Ytkonbldjmcccmaa
open Go.RowKit
/-- a clone of a slice -/
def clonePost (ty : Nat) (xs : List Value) (w : World) (e : Ending) (w' : World) : Prop := ∃ v' bo', e = .returned v' ∧ Own ty w' v' xs bo' ∧ Below w.heap.size w w' ∧ (bo' = none ∨ ∃ g, bo' = some g ∧ w.heap.size ≤ g)
theorem Own.read {ty : Nat} {w : World} {a : Addr} {n c : Nat} {xs : List Value} {bo : Option Nat} (h : Own ty w (.slice (some a) n c) xs bo) : xs.length = n ∧ ∀ j u, xs[j]? = some u → w.cell? (a.add j) = some u := by
  rcases h with ⟨h, _, _⟩ | ⟨g, cap, cur, rfl, hv, hg, hl, hm, hs, ht⟩
  · simp at h
  · simp only [Value.slice.injEq, Option.some.injEq] at hv
    obtain ⟨rfl, rfl, rfl⟩ := hv
    refine ⟨rfl, fun j u hj => ?_⟩
    have hjl : j < xs.length := by
      by_cases h : j < xs.length
      · exact h
      · rw [List.getElem?_eq_none (by omega)] at hj; simp at hj
    have e : (⟨g, 0, none⟩ : Addr).add j = ⟨g, j, none⟩ := by unfold Addr.add; split <;> simp_all
    rw [e, cell_of_row w g j cur _ (0, 0) hg, ← hj, ← take_get ht hjl]
    simp
theorem Own.fresh0 (ty : Nat) (w : World) : Own ty (w.alloc (.cells #[] ty)) (.slice (some ⟨w.heap.size, 0, none⟩) 0 0) [] (some w.heap.size) :=
  Or.inr ⟨w.heap.size, 0, #[], rfl, rfl, heap_alloc_new w _, by simp, by simp [maxLen], rfl, rfl⟩
theorem clone_end {ty : Nat} {xs : List Value} {w w1 : World} {v1 : Value} {bo1 : Option Nat} {o : Obj} (HO : Own ty w1 v1 ([] ++ xs) bo1) (HM : Mod (fun k => some w.heap.size = some k) (w.alloc o) w1) (HN : NewOr (w.alloc o) (some w.heap.size) bo1) : clonePost ty xs w (.returned v1) w1 := by
  refine ⟨v1, bo1, rfl, by simpa using HO, ?_, ?_⟩
  · have this : Mod (fun _ => False) w w1 := ((Mod.refl (fun _ => False) w).alloc o).then HM (fun i hi e => by have h := Option.some.inj e; omega)
    exact this.below
  · rcases HN with e | ⟨g, e, hg⟩
    · exact Or.inr ⟨_, e, Nat.le_refl _⟩
    · exact Or.inr ⟨g, e, by simp at hg; omega⟩
theorem cloneI_under : Try.prog.underlying 23 = some (.slice 3) := by kernel_rfl
theorem cloneI_info : (Try.prog.info? 3).map (fun i => (i.zero, i.size, i.bytes)) = some (some (.int .i64 0), 1, 8) := by kernel_rfl
set_option maxRecDepth 100000 in
theorem cloneI_any (w : World) (v : Value) (xs : List Value) (bo : Option Nat) (hown : Own 3 w v xs bo) (h1 : ∀ u ∈ xs, u.oneCell' = true) (hl : xs.length ≤ 1000) : Calls Try.prog 189 #[v] w (clonePost 3 xs w) := by
  have q1 : ∀ (w : World) (a : Option Addr) (n c n' c' : Nat), (binOp .eql 23 (.slice a n c) (.slice none n' c')).run Try.prog w = .ok (.bool a.isNone) w := fun w a n c n' c' => Lib.run_eql_slice_nil w _ _ a n c n' c' cloneI_under
  have Hown := Lib.hid hown
  rcases hown with ⟨rfl, rfl, rfl⟩ | ⟨g, cap, cur, rfl, rfl, hg, hnc, hcm, hcs, htake⟩
  · have hR : clonePost 3 [] w (.returned (.slice none 0 0)) w := ⟨_, none, rfl, Own.nil _ _, Below.refl _ _, Or.inl rfl⟩
    clear Hown h1 hl
    go_enter Try.func189, Try.ntmps189
    go_wp2_with fail
    go_ret
    exact hR
  · clear hg hnc hcm hcs htake
    have Hr : Hid (∀ o, ∀ j u, xs[j]? = some u → (w.alloc o).cell? ((⟨g, 0, none⟩ : Addr).add j) = some u) := fun o j u hj => (Hown.out.alloc o).read.2 j u hj
    have H1 := Lib.hid h1
    have hb1 : Hid (([] : List Value).length + xs.length ≤ maxLen) := by show _ ≤ _; simp only [maxLen, List.length_nil]; omega
    have hb2 : Hid ((([] : List Value).length + xs.length) * 8 ≤ 140737488355328) := by show _ ≤ _; simp only [List.length_nil]; omega
    clear h1 hl
    go_enter Try.func189, Try.ntmps189
    go_wp2_with (at_builtin; go_loud (refine wpList_append_at rfl (.tmp 5) (.tmp 6) 23 rfl 3 (.int .i64 0) 8 cloneI_under cloneI_info rfl _ rfl [] (some w.heap.size) (Own.fresh0 _ _) ⟨g, 0, none⟩ xs.length cap xs rfl rfl (Hr.out _) H1.out hb1.out hb2.out ?_); intro v1 w1 bo1 HO HM HN)
    go_ret
    exact clone_end HO.out HM.out HN.out

theorem cloneN_under : Try.prog.underlying 196 = some (.slice 28) := by kernel_rfl
theorem cloneN_info : (Try.prog.info? 28).map (fun i => (i.zero, i.size, i.bytes)) = some (some (.pointer none), 1, 8) := by kernel_rfl
set_option maxRecDepth 100000 in
theorem cloneN_any (w : World) (v : Value) (xs : List Value) (bo : Option Nat) (hown : Own 28 w v xs bo) (h1 : ∀ u ∈ xs, u.oneCell' = true) (hl : xs.length ≤ 1000) : Calls Try.prog 196 #[v] w (clonePost 28 xs w) := by
  have q1 : ∀ (w : World) (a : Option Addr) (n c n' c' : Nat), (binOp .eql 196 (.slice a n c) (.slice none n' c')).run Try.prog w = .ok (.bool a.isNone) w := fun w a n c n' c' => Lib.run_eql_slice_nil w _ _ a n c n' c' cloneN_under
  have Hown := Lib.hid hown
  rcases hown with ⟨rfl, rfl, rfl⟩ | ⟨g, cap, cur, rfl, rfl, hg, hnc, hcm, hcs, htake⟩
  · have hR : clonePost 28 [] w (.returned (.slice none 0 0)) w := ⟨_, none, rfl, Own.nil _ _, Below.refl _ _, Or.inl rfl⟩
    clear Hown h1 hl
    go_enter Try.func196, Try.ntmps196
    go_wp2_with fail
    go_ret
    exact hR
  · clear hg hnc hcm hcs htake
    have Hr : Hid (∀ o, ∀ j u, xs[j]? = some u → (w.alloc o).cell? ((⟨g, 0, none⟩ : Addr).add j) = some u) := fun o j u hj => (Hown.out.alloc o).read.2 j u hj
    have H1 := Lib.hid h1
    have hb1 : Hid (([] : List Value).length + xs.length ≤ maxLen) := by show _ ≤ _; simp only [maxLen, List.length_nil]; omega
    have hb2 : Hid ((([] : List Value).length + xs.length) * 8 ≤ 140737488355328) := by show _ ≤ _; simp only [List.length_nil]; omega
    clear h1 hl
    go_enter Try.func196, Try.ntmps196
    go_wp2_with (at_builtin; go_loud (refine wpList_append_at rfl (.tmp 5) (.tmp 6) 196 rfl 28 (.pointer none) 8 cloneN_under cloneN_info rfl _ rfl [] (some w.heap.size) (Own.fresh0 _ _) ⟨g, 0, none⟩ xs.length cap xs rfl rfl (Hr.out _) H1.out hb1.out hb2.out ?_); intro v1 w1 bo1 HO HM HN)
    go_ret
    exact clone_end HO.out HM.out HN.out

theorem cloneU_under : Try.prog.underlying 186 = some (.slice 184) := by kernel_rfl
theorem cloneU_info : (Try.prog.info? 184).map (fun i => (i.zero, i.size, i.bytes)) = some (some (.int .u16 0), 1, 2) := by kernel_rfl
set_option maxRecDepth 100000 in
theorem cloneU_any (w : World) (v : Value) (xs : List Value) (bo : Option Nat) (hown : Own 184 w v xs bo) (h1 : ∀ u ∈ xs, u.oneCell' = true) (hl : xs.length ≤ 1000) : Calls Try.prog 190 #[v] w (clonePost 184 xs w) := by
  have q1 : ∀ (w : World) (a : Option Addr) (n c n' c' : Nat), (binOp .eql 186 (.slice a n c) (.slice none n' c')).run Try.prog w = .ok (.bool a.isNone) w := fun w a n c n' c' => Lib.run_eql_slice_nil w _ _ a n c n' c' cloneU_under
  have Hown := Lib.hid hown
  rcases hown with ⟨rfl, rfl, rfl⟩ | ⟨g, cap, cur, rfl, rfl, hg, hnc, hcm, hcs, htake⟩
  · have hR : clonePost 184 [] w (.returned (.slice none 0 0)) w := ⟨_, none, rfl, Own.nil _ _, Below.refl _ _, Or.inl rfl⟩
    clear Hown h1 hl
    go_enter Try.func190, Try.ntmps190
    go_wp2_with fail
    go_ret
    exact hR
  · clear hg hnc hcm hcs htake
    have Hr : Hid (∀ o, ∀ j u, xs[j]? = some u → (w.alloc o).cell? ((⟨g, 0, none⟩ : Addr).add j) = some u) := fun o j u hj => (Hown.out.alloc o).read.2 j u hj
    have H1 := Lib.hid h1
    have hb1 : Hid (([] : List Value).length + xs.length ≤ maxLen) := by show _ ≤ _; simp only [maxLen, List.length_nil]; omega
    have hb2 : Hid ((([] : List Value).length + xs.length) * 2 ≤ 140737488355328) := by show _ ≤ _; simp only [List.length_nil]; omega
    clear h1 hl
    go_enter Try.func190, Try.ntmps190
    go_wp2_with (at_builtin; go_loud (refine wpList_append_at rfl (.tmp 5) (.tmp 6) 186 rfl 184 (.int .u16 0) 2 cloneU_under cloneU_info rfl _ rfl [] (some w.heap.size) (Own.fresh0 _ _) ⟨g, 0, none⟩ xs.length cap xs rfl rfl (Hr.out _) H1.out hb1.out hb2.out ?_); intro v1 w1 bo1 HO HM HN)
    go_ret
    exact clone_end HO.out HM.out HN.out
namespace I
variable {w : World} {r rm : Nat} {l : KV} {p : Nat → Nat} {vx : Value} {xs : List Value} {bx : Option Nat} {vf : Value} {fs : List Nat} {bf : Option Nat}
def bcopyPost (rm : Nat) (l : KV) (w : World) (e : Ending) (w' : World) : Prop := e = .returned (.pointer (some ⟨w.heap.size, 0, none⟩)) ∧ ∃ S, BdAt bdT elT u16T w' w.heap.size rm l S ∧ Below w.heap.size w w' ∧ ∀ k, S k → w.heap.size ≤ k
theorem bcopy_end (h : BdIs bdT elT u16T w r rm l p vx xs bx vf fs bf) {W0 w1 w2 : World} {v1 v2 : Value} {bo1 bo2 : Option Nat} (hB0 : Below w.heap.size w W0) (hs0 : W0.heap.size = w.heap.size + 1)
    (HB1 : Below W0.drew.heap.size W0.drew w1) (HB2 : Below w1.heap.size w1 w2) (HO1 : Own elT w1 v1 xs bo1) (HO2 : Own u16T w2 v2 (fsV fs) bo2) (HN1 : bo1 = none ∨ ∃ g, bo1 = some g ∧ W0.drew.heap.size ≤ g) (HN2 : bo2 = none ∨ ∃ g, bo2 = some g ∧ w1.heap.size ≤ g)
    (hb2 : w2.heap[w.heap.size]? = some (.cells (bdL rm l.length p vx vf).toArray bdT (0, 0))) :
    bcopyPost rm l w (.returned (.pointer (some ⟨w.heap.size, 0, none⟩))) ((w2.setCell ⟨w.heap.size, 258, none⟩ v1).setCell ⟨w.heap.size, 259, none⟩ v2) := by
  have s1 : W0.heap.size ≤ w1.heap.size := HB1.size
  have s2 := HB2.size
  have n1 : ∀ g, bo1 = some g → w.heap.size < g ∧ g < w1.heap.size := fun g e => by
    rcases HN1 with e' | ⟨g', e', hg⟩
    · rw [e'] at e; simp at e
    · rw [e'] at e; cases e
      rw [e'] at HO1
      have hg2 : W0.heap.size ≤ g := hg
      exact ⟨by omega, HO1.lt⟩
  have n2 : ∀ g, bo2 = some g → w1.heap.size ≤ g := fun g e => by
    rcases HN2 with e' | ⟨g', e', hg⟩
    · rw [e'] at e; simp at e
    · rw [e'] at e; cases e; exact hg
  have b1 := setCell_list w2 w.heap.size 258 _ bdT v1 hb2
  rw [bdL_setX] at b1
  have k1 := setRow_heap w2 w.heap.size _ (bdL rm l.length p v1 vf).toArray _ _ hb2
  rw [← b1] at k1
  have b2 := setCell_list _ w.heap.size 259 _ bdT v2 k1
  rw [bdL_setF] at b2
  have k2 := setRow_heap _ w.heap.size _ (bdL rm l.length p v1 v2).toArray _ _ k1
  rw [← b2] at k2
  have kS : ∀ k, k ≠ w.heap.size → ((w2.setCell ⟨w.heap.size, 258, none⟩ v1).setCell ⟨w.heap.size, 259, none⟩ v2).heap[k]? = w2.heap[k]? := fun k hk => by
    rw [Below.heap_setCell _ _ _ _ hk, Below.heap_setCell _ _ _ _ hk]
  refine ⟨rfl, _, ⟨p, v1, xs, bo1, v2, fs, bo2, ⟨k2, ?_, ?_, fun e => by have := n1 _ e; omega, fun e => by have := n2 _ e; omega, fun g e e' => by have := n1 _ e; have := n2 _ e'; omega, h.pl⟩, rfl⟩, ?_, fun k hk => ?_⟩
  · exact HO1.keep fun g e => (kS g (by have := n1 _ e; omega)).trans (HB2.block g (n1 _ e).2)
  · exact HO2.keep fun g e => kS g (by have := n2 _ e; omega)
  · have m : Below w.heap.size w w2 := (hB0.drew.trans (HB1.mono (by show w.heap.size ≤ W0.heap.size; omega))).trans (HB2.mono (by omega))
    exact (m.setCell (p := ⟨w.heap.size, 258, none⟩) (Nat.le_refl _) _).setCell (p := ⟨w.heap.size, 259, none⟩) (Nat.le_refl _) _
  · rcases hk with hk | hk | hk
    · omega
    · have := n1 _ hk; omega
    · have := n2 _ hk; omega
theorem bd_info : (Try.prog.info? bdT).map (·.size) = some 260 := by kernel_rfl
set_option maxHeartbeats 2000000 in
set_option maxRecDepth 100000 in
theorem bd_copy (h : BdIs bdT elT u16T w r rm l p vx xs bx vf fs bf) : Calls Try.prog 145 #[.pointer (some ⟨r, 0, none⟩)] w (bcopyPost rm l w) := by
  obtain ⟨cs, hcs⟩ : ∃ cs : List Value, cs = bdL rm l.length p vx vf := ⟨_, rfl⟩
  have hlen : cs.length = 260 := by rw [hcs, bdL_length]
  have hblk := Lib.hid h.blk
  rw [← hcs] at hblk
  obtain ⟨ax, cx, hvx⟩ := h.ownX.len
  obtain ⟨af, cf, hvf⟩ := h.ownF.len
  have hone : ∀ v ∈ cs, v.oneCell' = true := by
    rw [hcs]; intro v hv
    simp only [bdL, List.mem_cons, List.mem_append, List.not_mem_nil, or_false] at hv
    rcases hv with rfl | rfl | hv | rfl | rfl
    · rfl
    · rfl
    · simp only [atL, List.mem_map] at hv; obtain ⟨b, _, rfl⟩ := hv; rfl
    · rw [hvx]; rfl
    · rw [hvf]; rfl
  have c0 := h.c0
  have cX := h.cX
  have cF := h.cF
  have hr := h.r1
  have hlt := h.lt
  have HH := Lib.hid h
  have Hcs := Lib.hid hcs
  have Hvx := Lib.hid hvx
  have Hvf := Lib.hid hvf
  have hz : Hid ((Try.prog.info? bdT).map (·.size) = some cs.toArray.size) := by show _ = _; rw [bd_info]; simp [hlen]
  have ha : Hid (cs.toArray.all (·.oneCell') = true) := by show _ = _; rw [Array.all_eq_true_iff_forall_mem]; intro v hv; exact hone v (by simpa using hv)
  have hs : Hid (260 = cs.toArray.size) := by show _ = _; simp [hlen]
  rw [hvx] at cX
  rw [hvf] at cF
  clear h hcs hone hlen hvx hvf
  go_enter Try.func145, Try.ntmps145
  go_wp2_with (first | (go_at_call 184; refine (bok_yes _ _ _ c0 hr).mono ?_; rintro e w' ⟨rfl, rfl⟩) | (refine wpList_load_row rfl bdT _ rfl r rfl bdT cs.toArray (0, 0) _ hblk.out Try.underlying188 rfl hz.out ?_) | (refine wpList_store_row rfl bdT (.tmp 3) (.tmp 9) rfl _ cs.toArray rfl rfl bdT _ (heap_alloc_new _ _) hz.out hs.out ha.out ?_; rw [World.setRow_alloc_new]))
  have hSX := Lib.hid (show ∀ v ∈ xs, v.oneCell' = true from HH.out.pl.one)
  have hSF := Lib.hid (show ∀ v ∈ fsV fs, v.oneCell' = true from fun v hv => by simp only [fsV, List.mem_map] at hv; obtain ⟨b, _, rfl⟩ := hv; rfl)
  have hLX : Hid (xs.length ≤ 1000) := by have := HH.out.pl.leX; have := HH.out.r256; show _ ≤ _; omega
  have hLF : Hid ((fsV fs).length ≤ 1000) := by have := HH.out.pl.leX; have := HH.out.r256; have := HH.out.pl.cnt; show _ ≤ _; simp [fsV]; omega
  obtain ⟨W0, HW⟩ : ∃ W0, Hid (W0 = w.alloc (Obj.cells cs.toArray bdT)) := ⟨_, rfl⟩
  rw [show w.alloc (Obj.cells cs.toArray 188) = W0 from HW.out.symm]
  have hoX : Hid (Own elT W0 (.slice ax xs.length cx) xs bx) := by have := HH.out.ownX.alloc (Obj.cells cs.toArray bdT); rw [Hvx.out, ← HW.out] at this; exact this
  have hoF : Hid (Own u16T W0 (.slice af (fsV fs).length cf) (fsV fs) bf) := by have := HH.out.ownF.alloc (Obj.cells cs.toArray bdT); rw [Hvf.out, ← HW.out] at this; exact this
  have hB0 : Hid (Below w.heap.size w W0) := by rw [HW.out]; exact (Below.refl _ _).alloc (Nat.le_refl _) _
  have hs0 : Hid (W0.heap.size = w.heap.size + 1) := by show _ = _; rw [HW.out]; simp
  have hb0 : Hid (W0.heap[w.heap.size]? = some (.cells cs.toArray bdT (0, 0))) := by show _ = _; rw [HW.out]; exact heap_alloc_new _ _
  have cX0 : W0.cell? ⟨r, 258, none⟩ = some (.slice ax xs.length cx) := (hB0.out.cell (p := ⟨r, 258, none⟩) hlt).trans cX
  have cF0 : W0.cell? ⟨r, 259, none⟩ = some (.slice af (fsV fs).length cf) := (hB0.out.cell (p := ⟨r, 259, none⟩) hlt).trans cF
  clear cX cF c0
  simp only [Act.put]
  have hcl : Hid (Calls Try.prog 189 #[.slice ax xs.length cx] W0.drew (clonePost elT xs W0.drew)) := cloneI_any W0.drew _ xs bx (hoX.out.keep fun _ _ => rfl) hSX.out hLX.out
  have F1 : Hid (∀ w1, Below W0.drew.heap.size W0.drew w1 → w1.cell? ⟨r, 259, none⟩ = some (.slice af (fsV fs).length cf) ∧ Hid (Own u16T w1 (.slice af (fsV fs).length cf) (fsV fs) bf) ∧ Hid (w1.heap[w.heap.size]? = some (.cells cs.toArray bdT (0, 0)) ∧ w.heap.size < w1.heap.size)) := fun w1 hb =>
    ⟨(hb.cell (p := ⟨r, 259, none⟩) (by have := hs0.out; show r < W0.heap.size; omega)).trans cF0, hoF.out.keep (fun g hg => hb.block g (by subst hg; exact hoF.out.lt)), (hb.block w.heap.size (by have h1 := hs0.out; show _ < W0.heap.size; omega)).trans hb0.out, by have h1 := hs0.out; have h2 : W0.heap.size ≤ w1.heap.size := hb.size; omega⟩
  have F2 : Hid (∀ w1, Own u16T w1 (.slice af (fsV fs).length cf) (fsV fs) bf → Calls Try.prog 190 #[.slice af (fsV fs).length cf] w1 (clonePost u16T (fsV fs) w1)) := fun w1 ho => cloneU_any w1 _ (fsV fs) bf ho hSF.out hLF.out
  have F3 : Hid (∀ w1 w2, (w1.heap[w.heap.size]? = some (.cells cs.toArray bdT (0, 0)) ∧ w.heap.size < w1.heap.size) → Below w1.heap.size w1 w2 → Hid (w2.heap[w.heap.size]? = some (.cells cs.toArray bdT (0, 0))) ∧ w2.cell? ⟨w.heap.size, 258, none⟩ = some (.slice ax xs.length cx) ∧ w2.cell? ⟨w.heap.size, 259, none⟩ = some (.slice af (fsV fs).length cf) ∧ (∀ j, w2.frozen? ⟨w.heap.size, j, none⟩ = false)) := fun w1 w2 h1 hb => by
    have hb2 := (hb.block w.heap.size h1.2).trans h1.1
    refine ⟨hb2, ?_, ?_, fun j => frozen_of_blk hb2 j⟩
    · rw [cell_of_blk hb2, Hcs.out, bdL_X, Hvx.out]
    · rw [cell_of_blk hb2, Hcs.out, bdL_F, Hvf.out]
  go_region_with (first | (go_at_call 189; go_loud (refine hcl.out.mono ?_); rintro e w1 ⟨v1, bo1, rfl, HO1, HB1, HN1⟩; obtain ⟨a1, c1, rfl⟩ := HO1.len; obtain ⟨cF1, hoF1, hb1⟩ := F1.out _ HB1; have HO1 := Lib.hid HO1; have HB1 := Lib.hid HB1; have HN1 := Lib.hid HN1) | (go_at_call 190; go_loud (refine (F2.out _ hoF1.out).mono ?_); rintro e w2 ⟨v2, bo2, rfl, HO2, HB2, HN2⟩; obtain ⟨a2, c2, rfl⟩ := HO2.len; obtain ⟨hb2, q1, q2, q3⟩ := F3.out _ _ hb1.out HB2; have HO2 := Lib.hid HO2; have HB2 := Lib.hid HB2; have HN2 := Lib.hid HN2))
  all_goals
    go_wp2_with fail
    go_ret
    exact bcopy_end HH.out hB0.out hs0.out HB1.out HB2.out HO1.out HO2.out HN1.out HN2.out (by have := hb2.out; rw [Hcs.out] at this; exact this)
end I

namespace N
variable {w : World} {r rm : Nat} {l : KV} {p : Nat → Nat} {vx : Value} {xs : List Value} {bx : Option Nat} {vf : Value} {fs : List Nat} {bf : Option Nat}
def bcopyPost (rm : Nat) (l : KV) (w : World) (e : Ending) (w' : World) : Prop := e = .returned (.pointer (some ⟨w.heap.size, 0, none⟩)) ∧ ∃ S, BdAt bdT elT u16T w' w.heap.size rm l S ∧ Below w.heap.size w w' ∧ ∀ k, S k → w.heap.size ≤ k
theorem bcopy_end (h : BdIs bdT elT u16T w r rm l p vx xs bx vf fs bf) {W0 w1 w2 : World} {v1 v2 : Value} {bo1 bo2 : Option Nat} (hB0 : Below w.heap.size w W0) (hs0 : W0.heap.size = w.heap.size + 1)
    (HB1 : Below W0.drew.heap.size W0.drew w1) (HB2 : Below w1.heap.size w1 w2) (HO1 : Own elT w1 v1 xs bo1) (HO2 : Own u16T w2 v2 (fsV fs) bo2) (HN1 : bo1 = none ∨ ∃ g, bo1 = some g ∧ W0.drew.heap.size ≤ g) (HN2 : bo2 = none ∨ ∃ g, bo2 = some g ∧ w1.heap.size ≤ g)
    (hb2 : w2.heap[w.heap.size]? = some (.cells (bdL rm l.length p vx vf).toArray bdT (0, 0))) :
    bcopyPost rm l w (.returned (.pointer (some ⟨w.heap.size, 0, none⟩))) ((w2.setCell ⟨w.heap.size, 258, none⟩ v1).setCell ⟨w.heap.size, 259, none⟩ v2) := by
  have s1 : W0.heap.size ≤ w1.heap.size := HB1.size
  have s2 := HB2.size
  have n1 : ∀ g, bo1 = some g → w.heap.size < g ∧ g < w1.heap.size := fun g e => by
    rcases HN1 with e' | ⟨g', e', hg⟩
    · rw [e'] at e; simp at e
    · rw [e'] at e; cases e
      rw [e'] at HO1
      have hg2 : W0.heap.size ≤ g := hg
      exact ⟨by omega, HO1.lt⟩
  have n2 : ∀ g, bo2 = some g → w1.heap.size ≤ g := fun g e => by
    rcases HN2 with e' | ⟨g', e', hg⟩
    · rw [e'] at e; simp at e
    · rw [e'] at e; cases e; exact hg
  have b1 := setCell_list w2 w.heap.size 258 _ bdT v1 hb2
  rw [bdL_setX] at b1
  have k1 := setRow_heap w2 w.heap.size _ (bdL rm l.length p v1 vf).toArray _ _ hb2
  rw [← b1] at k1
  have b2 := setCell_list _ w.heap.size 259 _ bdT v2 k1
  rw [bdL_setF] at b2
  have k2 := setRow_heap _ w.heap.size _ (bdL rm l.length p v1 v2).toArray _ _ k1
  rw [← b2] at k2
  have kS : ∀ k, k ≠ w.heap.size → ((w2.setCell ⟨w.heap.size, 258, none⟩ v1).setCell ⟨w.heap.size, 259, none⟩ v2).heap[k]? = w2.heap[k]? := fun k hk => by
    rw [Below.heap_setCell _ _ _ _ hk, Below.heap_setCell _ _ _ _ hk]
  refine ⟨rfl, _, ⟨p, v1, xs, bo1, v2, fs, bo2, ⟨k2, ?_, ?_, fun e => by have := n1 _ e; omega, fun e => by have := n2 _ e; omega, fun g e e' => by have := n1 _ e; have := n2 _ e'; omega, h.pl⟩, rfl⟩, ?_, fun k hk => ?_⟩
  · exact HO1.keep fun g e => (kS g (by have := n1 _ e; omega)).trans (HB2.block g (n1 _ e).2)
  · exact HO2.keep fun g e => kS g (by have := n2 _ e; omega)
  · have m : Below w.heap.size w w2 := (hB0.drew.trans (HB1.mono (by show w.heap.size ≤ W0.heap.size; omega))).trans (HB2.mono (by omega))
    exact (m.setCell (p := ⟨w.heap.size, 258, none⟩) (Nat.le_refl _) _).setCell (p := ⟨w.heap.size, 259, none⟩) (Nat.le_refl _) _
  · rcases hk with hk | hk | hk
    · omega
    · have := n1 _ hk; omega
    · have := n2 _ hk; omega
theorem bd_info : (Try.prog.info? bdT).map (·.size) = some 260 := by kernel_rfl
set_option maxHeartbeats 2000000 in
set_option maxRecDepth 100000 in
theorem bd_copy (h : BdIs bdT elT u16T w r rm l p vx xs bx vf fs bf) : Calls Try.prog 155 #[.pointer (some ⟨r, 0, none⟩)] w (bcopyPost rm l w) := by
  obtain ⟨cs, hcs⟩ : ∃ cs : List Value, cs = bdL rm l.length p vx vf := ⟨_, rfl⟩
  have hlen : cs.length = 260 := by rw [hcs, bdL_length]
  have hblk := Lib.hid h.blk
  rw [← hcs] at hblk
  obtain ⟨ax, cx, hvx⟩ := h.ownX.len
  obtain ⟨af, cf, hvf⟩ := h.ownF.len
  have hone : ∀ v ∈ cs, v.oneCell' = true := by
    rw [hcs]; intro v hv
    simp only [bdL, List.mem_cons, List.mem_append, List.not_mem_nil, or_false] at hv
    rcases hv with rfl | rfl | hv | rfl | rfl
    · rfl
    · rfl
    · simp only [atL, List.mem_map] at hv; obtain ⟨b, _, rfl⟩ := hv; rfl
    · rw [hvx]; rfl
    · rw [hvf]; rfl
  have c0 := h.c0
  have cX := h.cX
  have cF := h.cF
  have hr := h.r1
  have hlt := h.lt
  have HH := Lib.hid h
  have Hcs := Lib.hid hcs
  have Hvx := Lib.hid hvx
  have Hvf := Lib.hid hvf
  have hz : Hid ((Try.prog.info? bdT).map (·.size) = some cs.toArray.size) := by show _ = _; rw [bd_info]; simp [hlen]
  have ha : Hid (cs.toArray.all (·.oneCell') = true) := by show _ = _; rw [Array.all_eq_true_iff_forall_mem]; intro v hv; exact hone v (by simpa using hv)
  have hs : Hid (260 = cs.toArray.size) := by show _ = _; simp [hlen]
  rw [hvx] at cX
  rw [hvf] at cF
  clear h hcs hone hlen hvx hvf
  go_enter Try.func155, Try.ntmps155
  go_wp2_with (first | (go_at_call 194; refine (bok_yes _ _ _ c0 hr).mono ?_; rintro e w' ⟨rfl, rfl⟩) | (refine wpList_load_row rfl bdT _ rfl r rfl bdT cs.toArray (0, 0) _ hblk.out Try.underlying198 rfl hz.out ?_) | (refine wpList_store_row rfl bdT (.tmp 3) (.tmp 9) rfl _ cs.toArray rfl rfl bdT _ (heap_alloc_new _ _) hz.out hs.out ha.out ?_; rw [World.setRow_alloc_new]))
  have hSX := Lib.hid (show ∀ v ∈ xs, v.oneCell' = true from HH.out.pl.one)
  have hSF := Lib.hid (show ∀ v ∈ fsV fs, v.oneCell' = true from fun v hv => by simp only [fsV, List.mem_map] at hv; obtain ⟨b, _, rfl⟩ := hv; rfl)
  have hLX : Hid (xs.length ≤ 1000) := by have := HH.out.pl.leX; have := HH.out.r256; show _ ≤ _; omega
  have hLF : Hid ((fsV fs).length ≤ 1000) := by have := HH.out.pl.leX; have := HH.out.r256; have := HH.out.pl.cnt; show _ ≤ _; simp [fsV]; omega
  obtain ⟨W0, HW⟩ : ∃ W0, Hid (W0 = w.alloc (Obj.cells cs.toArray bdT)) := ⟨_, rfl⟩
  rw [show w.alloc (Obj.cells cs.toArray 198) = W0 from HW.out.symm]
  have hoX : Hid (Own elT W0 (.slice ax xs.length cx) xs bx) := by have := HH.out.ownX.alloc (Obj.cells cs.toArray bdT); rw [Hvx.out, ← HW.out] at this; exact this
  have hoF : Hid (Own u16T W0 (.slice af (fsV fs).length cf) (fsV fs) bf) := by have := HH.out.ownF.alloc (Obj.cells cs.toArray bdT); rw [Hvf.out, ← HW.out] at this; exact this
  have hB0 : Hid (Below w.heap.size w W0) := by rw [HW.out]; exact (Below.refl _ _).alloc (Nat.le_refl _) _
  have hs0 : Hid (W0.heap.size = w.heap.size + 1) := by show _ = _; rw [HW.out]; simp
  have hb0 : Hid (W0.heap[w.heap.size]? = some (.cells cs.toArray bdT (0, 0))) := by show _ = _; rw [HW.out]; exact heap_alloc_new _ _
  have cX0 : W0.cell? ⟨r, 258, none⟩ = some (.slice ax xs.length cx) := (hB0.out.cell (p := ⟨r, 258, none⟩) hlt).trans cX
  have cF0 : W0.cell? ⟨r, 259, none⟩ = some (.slice af (fsV fs).length cf) := (hB0.out.cell (p := ⟨r, 259, none⟩) hlt).trans cF
  clear cX cF c0
  simp only [Act.put]
  have hcl : Hid (Calls Try.prog 196 #[.slice ax xs.length cx] W0.drew (clonePost elT xs W0.drew)) := cloneN_any W0.drew _ xs bx (hoX.out.keep fun _ _ => rfl) hSX.out hLX.out
  have F1 : Hid (∀ w1, Below W0.drew.heap.size W0.drew w1 → w1.cell? ⟨r, 259, none⟩ = some (.slice af (fsV fs).length cf) ∧ Hid (Own u16T w1 (.slice af (fsV fs).length cf) (fsV fs) bf) ∧ Hid (w1.heap[w.heap.size]? = some (.cells cs.toArray bdT (0, 0)) ∧ w.heap.size < w1.heap.size)) := fun w1 hb =>
    ⟨(hb.cell (p := ⟨r, 259, none⟩) (by have := hs0.out; show r < W0.heap.size; omega)).trans cF0, hoF.out.keep (fun g hg => hb.block g (by subst hg; exact hoF.out.lt)), (hb.block w.heap.size (by have h1 := hs0.out; show _ < W0.heap.size; omega)).trans hb0.out, by have h1 := hs0.out; have h2 : W0.heap.size ≤ w1.heap.size := hb.size; omega⟩
  have F2 : Hid (∀ w1, Own u16T w1 (.slice af (fsV fs).length cf) (fsV fs) bf → Calls Try.prog 190 #[.slice af (fsV fs).length cf] w1 (clonePost u16T (fsV fs) w1)) := fun w1 ho => cloneU_any w1 _ (fsV fs) bf ho hSF.out hLF.out
  have F3 : Hid (∀ w1 w2, (w1.heap[w.heap.size]? = some (.cells cs.toArray bdT (0, 0)) ∧ w.heap.size < w1.heap.size) → Below w1.heap.size w1 w2 → Hid (w2.heap[w.heap.size]? = some (.cells cs.toArray bdT (0, 0))) ∧ w2.cell? ⟨w.heap.size, 258, none⟩ = some (.slice ax xs.length cx) ∧ w2.cell? ⟨w.heap.size, 259, none⟩ = some (.slice af (fsV fs).length cf) ∧ (∀ j, w2.frozen? ⟨w.heap.size, j, none⟩ = false)) := fun w1 w2 h1 hb => by
    have hb2 := (hb.block w.heap.size h1.2).trans h1.1
    refine ⟨hb2, ?_, ?_, fun j => frozen_of_blk hb2 j⟩
    · rw [cell_of_blk hb2, Hcs.out, bdL_X, Hvx.out]
    · rw [cell_of_blk hb2, Hcs.out, bdL_F, Hvf.out]
  go_region_with (first | (go_at_call 196; go_loud (refine hcl.out.mono ?_); rintro e w1 ⟨v1, bo1, rfl, HO1, HB1, HN1⟩; obtain ⟨a1, c1, rfl⟩ := HO1.len; obtain ⟨cF1, hoF1, hb1⟩ := F1.out _ HB1; have HO1 := Lib.hid HO1; have HB1 := Lib.hid HB1; have HN1 := Lib.hid HN1) | (go_at_call 190; go_loud (refine (F2.out _ hoF1.out).mono ?_); rintro e w2 ⟨v2, bo2, rfl, HO2, HB2, HN2⟩; obtain ⟨a2, c2, rfl⟩ := HO2.len; obtain ⟨hb2, q1, q2, q3⟩ := F3.out _ _ hb1.out HB2; have HO2 := Lib.hid HO2; have HB2 := Lib.hid HB2; have HN2 := Lib.hid HN2))
  all_goals
    go_wp2_with fail
    go_ret
    exact bcopy_end HH.out hB0.out hs0.out HB1.out HB2.out HO1.out HO2.out HN1.out HN2.out (by have := hb2.out; rw [Hcs.out] at this; exact this)
end N
end Go.Proofs.Ytkonbldjmcccmaa
