/- The document's rows: Set, Drop. -/
import Derived.Test.YthifjldmhfpkhaaKRef
import Derived.Test.YthifjldmhfpkhaaKTrio
import Derived.Deep.RegionWith
import Derived.Deep.RegionHeld3
import Derived.Deep.MidRow
import Derived.StillTailTactics
set_option linter.unusedVariables false
set_option linter.unusedSimpArgs false
namespace Go.Proofs.Ythifjldmhfpkhaa
open Go.RowKit
theorem results_cell_tmp {P : Program} {fn : Func} {p u : Tmp} {ty : TypeId} (h : fn.results = #[.cell p ty, .tmp u]) (tmps : Array Value) (w : World) (g : Nat) (t : TypeId) (cs : Array Value) (fr : Nat × Nat) (d : TypeDesc)
    (hp : tmps.getD p undef = .pointer (some ⟨g, 0, none⟩)) (hg : w.heap[g]? = some (.cells cs t fr))
    (hu : P.underlying ty = some d) (hd : (match d with | .struct _ | .array _ _ => true | _ => false) = true) (hi : (P.info? ty).map (·.size) = some cs.size) :
    (results fn tmps).run P w = .ok (.tuple #[.agg cs, tmps.getD u undef]) w := by
  have hl := run_loadVar_row (P := P) w g t ty cs fr d hg hu hd hi
  have hp' : tmps[p]?.getD undef = .pointer (some ⟨g, 0, none⟩) := by simpa [Array.getD_eq_getD_getElem?] using hp
  simp [results, h, hp', asAddr, hl]
section
variable {l : KV}
theorem zero_size : Try.zeroCells42.size = 513 := by kernel_rfl
/-- two blocks: the row's, and the result's -/
structure RR (w : World) (l : KV) (z : Array Value) (wr : World) : Prop where
  b0 : wr.heap[w.heap.size]? = some (.cells (rrL 256 (rrF l) (rrG l)).toArray rrT (0, 0))
  b1 : wr.heap[w.heap.size + 1]? = some (.cells z rrT (0, 0))
  old : Below w.heap.size w wr
theorem RR.start (w : World) (l : KV) : RR w l Try.zeroCells42 ((w.alloc (.cells (rrA l) rrT)).alloc (.cells Try.zeroCells42 rrT)) := by
  refine ⟨?_, ?_, ?_⟩
  · unfold rrA; rw [Below.heap_alloc _ _ _ (by simp), heap_alloc_new]
  · have := heap_alloc_new (w.alloc (.cells (rrA l) rrT)) (.cells Try.zeroCells42 rrT)
    rw [World.size_alloc] at this
    exact this
  · exact ((Below.refl _ w).alloc (Nat.le_refl _) _).alloc (by simp) _
section
variable {w wr w' : World} {z : Array Value}
theorem RR.below (h : RR w l z wr) (hb : Below wr.heap.size wr w') : RR w l z w' :=
  ⟨(hb.block _ (Array.getElem?_eq_some_iff.1 h.b0).1).trans h.b0, (hb.block _ (Array.getElem?_eq_some_iff.1 h.b1).1).trans h.b1, h.old.trans (hb.mono h.old.size)⟩
theorem RR.drewN (h : RR w l z wr) (n : Nat) : RR w l z (wr.drewN n) := ⟨h.b0, h.b1, below_drewN h.old n⟩
theorem RR.c0 (h : RR w l z wr) : wr.cell? ⟨w.heap.size, 0, none⟩ = some (.int .i64 256) := by rw [cell_of_blk h.b0]; rfl
theorem RR.cF (h : RR w l z wr) {b : Nat} (hb : b < 256) : wr.cell? ⟨w.heap.size, 1 + b, none⟩ = some (.bool (rrF l b)) := by rw [cell_of_blk h.b0, rrL_has _ _ _ hb]
theorem RR.cG (h : RR w l z wr) {b : Nat} (hb : b < 256) : wr.cell? ⟨w.heap.size, 257 + b, none⟩ = some (rrG l b) := by rw [cell_of_blk h.b0, rrL_val _ _ _ hb]
theorem RR.fz (h : RR w l z wr) (j : Nat) : wr.frozen? ⟨w.heap.size, j, none⟩ = false := frozen_of_blk h.b0 j
/-- both cells of a byte are put -/
theorem RR.put (h : RR w l z wr) {l' : KV} (b : Nat) (y : Bool) (v : Value) (he : ((rrL 256 (rrF l) (rrG l)).set (1 + b) (.bool y)).set (257 + b) v = rrL 256 (rrF l') (rrG l')) : RR w l' z ((wr.setCell ⟨w.heap.size, 1 + b, none⟩ (.bool y)).setCell ⟨w.heap.size, 257 + b, none⟩ v) := by
  have e1 : (wr.setCell ⟨w.heap.size, 1 + b, none⟩ (.bool y)).heap[w.heap.size]? = some (.cells ((rrL 256 (rrF l) (rrG l)).set (1 + b) (.bool y)).toArray rrT (0, 0)) := by
    rw [setCell_list wr w.heap.size (1 + b) _ rrT _ h.b0, setRow_heap wr _ _ _ _ _ h.b0]
  have e2 : ((wr.setCell ⟨w.heap.size, 1 + b, none⟩ (.bool y)).setCell ⟨w.heap.size, 257 + b, none⟩ v).heap[w.heap.size]? = some (.cells (rrL 256 (rrF l') (rrG l')).toArray rrT (0, 0)) := by
    rw [setCell_list (wr.setCell ⟨w.heap.size, 1 + b, none⟩ (.bool y)) w.heap.size (257 + b) _ rrT _ e1, setRow_heap (wr.setCell ⟨w.heap.size, 1 + b, none⟩ (.bool y)) _ _ _ _ _ e1, he]
  refine ⟨e2, ?_, (h.old.setCell (p := ⟨w.heap.size, 1 + b, none⟩) (Nat.le_refl _) _).setCell (p := ⟨w.heap.size, 257 + b, none⟩) (Nat.le_refl _) _⟩
  rw [Below.heap_setCell _ _ _ _ (by show w.heap.size + 1 ≠ w.heap.size; omega), Below.heap_setCell _ _ _ _ (by show w.heap.size + 1 ≠ w.heap.size; omega)]
  exact h.b1
theorem RR.cG' (h : RR w l z wr) {b : Nat} (hb : b < 256) (y : Value) : (wr.setCell ⟨w.heap.size, 1 + b, none⟩ y).cell? ⟨w.heap.size, 257 + b, none⟩ = some (rrG l b) ∧ (wr.setCell ⟨w.heap.size, 1 + b, none⟩ y).frozen? ⟨w.heap.size, 257 + b, none⟩ = false := by
  have e1 : (wr.setCell ⟨w.heap.size, 1 + b, none⟩ y).heap[w.heap.size]? = some (.cells ((rrL 256 (rrF l) (rrG l)).set (1 + b) y).toArray rrT (0, 0)) := by
    rw [setCell_list wr w.heap.size (1 + b) _ rrT _ h.b0, setRow_heap wr _ _ _ _ _ h.b0]
  refine ⟨?_, frozen_of_blk e1 _⟩
  rw [cell_of_blk e1, List.getElem?_set_ne (by omega), rrL_val _ _ _ hb]
theorem RR.done (h : RR w l z wr) : RR w l (rrA l) (wr.setRow (w.heap.size + 1) (rrA l)) := by
  refine ⟨?_, setRow_heap wr _ _ _ _ _ h.b1, h.old.trans ?_⟩
  · rw [setRow_other _ _ _ _ (by omega)]; exact h.b0
  · have : Mod (· = w.heap.size + 1) wr (wr.setRow (w.heap.size + 1) (rrA l)) := (Mod.refl _ wr).setRow _ _ (fun _ => rfl)
    have hs := h.old.size
    exact ⟨this.os, this.tape, this.output, this.size, fun j hj => this.same j (by omega) (by omega)⟩
theorem RR.cells (h : RR w l z wr) : (loadCellsFrom ⟨w.heap.size, 0, none⟩ 0 513 #[]).run Try.prog wr = .ok (rrA l) wr := by
  have := run_loadCells_list (P := Try.prog) wr ⟨w.heap.size, 0, none⟩ (rrA l).toList (fun j v hv => by
    have hadd : (⟨w.heap.size, 0, none⟩ : Addr).add j = ⟨w.heap.size, j, none⟩ := by unfold Addr.add; split <;> simp_all
    rw [hadd, cell_of_row wr w.heap.size j (rrA l) rrT (0, 0) h.b0]
    simpa using hv)
  have hs : (rrA l).toList.length = 513 := by simp [rr_size]
  rw [hs] at this
  simpa [loadCells] using this
theorem RR.range (h : RR w l z wr) : wr.rangeAt w.heap.size 0 (rrL 256 (rrF l) (rrG l)) := fun j v hv => by rw [Nat.zero_add, cell_of_blk h.b0]; exact hv
theorem RR.load (h : RR w l z wr) : (Instr.loadAt rrT (.pointer (some ⟨w.heap.size, 0, none⟩))).run Try.prog wr = .ok (.agg (rrA l)) wr := by
  simp only [Instr.loadAt, Instr.sureAddr, Sem.run_bind, Sem.run_pure, Result.andThen]
  exact run_loadVar_row wr w.heap.size rrT rrT (rrA l) (0, 0) _ h.b0 Try.underlying42 rfl (rr_info l)
end
set_option maxHeartbeats 800000 in
set_option maxRecDepth 100000 in
theorem ref_set (hs : Srt l) (hl : Low l) (hv : I.Vals l) (b : Nat) (hb : b < 256) (x : Int) (w : World) : Calls Try.prog 29 #[.agg (rrA l), .int .u8 (b : Nat), .int .i64 x] w fun e w' => e = .returned (.tuple #[.agg (rrA (kins l b (.int .i64 x))), .int .i64 0]) ∧ Below w.heap.size w w' := by
  have hV2 := Lib.hid (I.Vals.ins hv b x)
  have hP := Lib.hid (fun wr (q : RR w l Try.zeroCells42 wr) => q.put b true (.int .i64 x) (rr_ins hs hb (.int .i64 x)))
  have hb1 : (b : Int) < 256 := by omega
  have hLen := Lib.hid (fun w => ref_len hs hl w)
  have hgh : rrF l b = has l b := get_has hs b
  have hroom : has l b = false → l.length < 256 := fun e => by
    have h1 := ins_len hs e (.int .i64 x)
    have h2 := len256 (hs.ins b (.int .i64 x)) (hl.ins hb (.int .i64 x))
    omega
  have hz := Lib.hid (rr_info (kins l b (.int .i64 x)))
  have hzs : Hid (Try.zeroCells42.size = (rrA (kins l b (.int .i64 x))).size) := by show _ = _; rw [rr_size]; exact zero_size
  have ho := Lib.hid (rr_one hV2.out)
  go_enter Try.func29, Try.ntmps29
  go_wp2_with fail
  have hst := Lib.hid (RR.start w l)
  generalize (w.alloc (.cells (rrA l) rrT)).alloc (.cells Try.zeroCells42 rrT) = w2 at *
  have cF := hst.out.cF hb
  have cF1 : ∀ n, (w2.drewN n).cell? ⟨w.heap.size, 1 + b, none⟩ = some (.bool (rrF l b)) := fun n => cF
  rw [hgh] at cF cF1
  have hw8 : IntKind.i64.wrap ((b : Nat) : Int) = (b : Nat) := IntWalk.i64_in _ (by omega)
  cases hh : has l b with
  | true =>
    rw [hh] at cF cF1
    clear hroom hgh hh
    go_quiet (fail)
    have q3 := Lib.hid (hst.out.drewN nq)
    generalize w2.drewN nq = w3 at *
    have cG := q3.out.cG hb
    have z1 := q3.out.fz (1 + b)
    obtain ⟨cG2, z2⟩ := q3.out.cG' hb (.bool true)
    have cF2 := q3.out.cF hb
    have q4 := Lib.hid (hP.out _ q3.out)
    go_wp2_with (first | (refine wpList_load_row rfl rrT (.tmp 3) rfl w.heap.size rfl rrT (rrA (kins l b (.int .i64 x))) (0, 0) _ q4.out.b0 Try.underlying42 rfl hz.out ?_) | (refine wpList_store_row rfl rrT (.tmp 6) (.tmp 31) rfl (w.heap.size + 1) (rrA (kins l b (.int .i64 x))) rfl rfl rrT _ q4.out.b1 hz.out hzs.out ho.out ?_))
    (try simp only [Exit.inBlock, Exit.then])
    refine bodyPost_ret (results_cell_tmp rfl _ _ (w.heap.size + 1) rrT (rrA (kins l b (.int .i64 x))) (0, 0) _ rfl q4.out.done.b1 Try.underlying42 rfl hz.out) rfl ?_
    exact ⟨rfl, q4.out.done.old⟩
  | false =>
    rw [hh] at cF cF1
    have hr := hroom hh
    have hne : ((l.length : Nat) : Int) ≠ 256 := by omega
    have hgl : Hid (rrF l b = false) := hgh.trans hh
    clear hr hroom hgh hh
    have c0 := hst.out.c0
    have hzl : Hid ((Try.prog.info? rrT).map (·.size) = some (rrL 256 (rrF l) (rrG l)).length) := by show _ = _; rw [rrL_len]; exact rrSz
    have hst2 := Lib.hid (hst.out.drewN 1)
    have hld2 : (Instr.loadAt rrT (.pointer (some ⟨w.heap.size, 0, none⟩))).run Try.prog w2.drew = .ok (.agg (rrA l)) w2.drew := (hst.out.drewN 1).load
    have hld5 : (loadVar rrT ⟨w.heap.size, 0, none⟩).run Try.prog w2.drew = .ok (.agg (rrA l)) w2.drew := run_loadVar_row w2.drew w.heap.size rrT rrT (rrA l) (0, 0) _ hst2.out.b0 Try.underlying42 rfl (rr_info l)
    have hc2 : w2.drew.cell? ⟨w.heap.size, 0, none⟩ = some (.int .i64 256) := (hst.out.drewN 1).c0
    have hc3 : w2.drew.cell? ⟨w.heap.size, 1 + b, none⟩ = some (.bool false) := cF
    refine wp_region_noPanic ?_
    refine wp_region_held_drew (S := fun wr => RR w l Try.zeroCells42 wr ∧ wr.cell? ⟨w.heap.size, 0, none⟩ = some (.int .i64 256) ∧ wr.cell? ⟨w.heap.size, 1 + b, none⟩ = some (.bool false)) (by kernel_rfl) ?_ (fun hHeld => ?_)
    · exact ⟨hst2.out, hc2, hc3⟩
    refine wpAnyH_take (i := 0) (oi := ⟨some 8, _, _, _, _, _⟩) (v := ?_) rfl (by kernel_rfl) (by kernel_rfl) (by kernel_rfl) (fun _ _ _ h => h) (Or.inl ⟨by rfl, ?_⟩) (by assumption) ?_
    rotate_left
    · (intro w hSw; (try dsimp only at hSw); go_simp) <;> with_reducible rfl
    (try simp only [Act.put, List.setIfInBounds_toArray, List.set_cons_zero, List.set_cons_succ])
    refine wpAnyH_take (i := 1) (oi := ⟨some 9, _, _, _, _, _⟩) (v := ?_) rfl (by kernel_rfl) (by kernel_rfl) (by kernel_rfl) (fun _ _ _ h => h) (Or.inl ⟨by rfl, ?_⟩) (by assumption) ?_
    rotate_left
    · (intro w hSw; (try dsimp only at hSw); go_simp) <;> with_reducible rfl
    (try simp only [Act.put, List.setIfInBounds_toArray, List.set_cons_zero, List.set_cons_succ])
    refine wpAnyH_take (i := 2) (oi := ⟨some 10, _, _, _, _, _⟩) (v := ?_) rfl (by kernel_rfl) (by kernel_rfl) (by kernel_rfl) (fun _ _ _ h => h) (Or.inl ⟨by rfl, ?_⟩) (by assumption) ?_
    rotate_left
    · (intro w hSw; (try dsimp only at hSw); go_simp) <;> with_reducible rfl
    (try simp only [Act.put, List.setIfInBounds_toArray, List.set_cons_zero, List.set_cons_succ])
    refine wpAnyH_take (i := 3) (oi := ⟨some 11, _, _, _, _, _⟩) (v := ?_) rfl (by kernel_rfl) (by kernel_rfl) (by kernel_rfl) (fun _ _ _ h => h) (Or.inl ⟨by rfl, ?_⟩) (by assumption) ?_
    rotate_left
    · (intro w hSw; (try dsimp only at hSw); go_simp) <;> with_reducible rfl
    (try simp only [Act.put, List.setIfInBounds_toArray, List.set_cons_zero, List.set_cons_succ])
    refine wpAnyH_take (i := 4) (oi := ⟨some 12, _, _, _, _, _⟩) (v := ?_) rfl (by kernel_rfl) (by kernel_rfl) (by kernel_rfl) (fun _ _ _ h => h) (Or.inl ⟨by rfl, ?_⟩) (by assumption) ?_
    rotate_left
    · (intro w hSw; (try dsimp only at hSw); go_simp) <;> with_reducible rfl
    (try simp only [Act.put, List.setIfInBounds_toArray, List.set_cons_zero, List.set_cons_succ])
    refine wpAnyH_take (i := 5) (oi := ⟨some 13, _, _, _, _, _⟩) (v := ?_) rfl (by kernel_rfl) (by kernel_rfl) (by kernel_rfl) (fun _ _ _ h => h) (Or.inl ⟨by rfl, ?_⟩) (by assumption) ?_
    rotate_left
    · (intro w hSw; (try dsimp only at hSw); go_simp) <;> with_reducible rfl
    (try simp only [Act.put, List.setIfInBounds_toArray, List.set_cons_zero, List.set_cons_succ])
    refine wpAnyH_take (i := 6) (oi := ⟨some 14, _, _, _, _, _⟩) (v := ?_) rfl (by kernel_rfl) (by kernel_rfl) (by kernel_rfl) (fun _ _ _ h => h) (Or.inl ⟨by rfl, ?_⟩) (by assumption) ?_
    rotate_left
    · (intro w hSw; (try dsimp only at hSw); go_simp) <;> with_reducible rfl
    (try simp only [Act.put, List.setIfInBounds_toArray, List.set_cons_zero, List.set_cons_succ])
    refine wpAnyH_take (i := 9) (oi := ⟨some 17, _, _, _, _, _⟩) (v := ?_) rfl (by kernel_rfl) (by kernel_rfl) (by kernel_rfl) (fun _ _ _ h => h) (Or.inl ⟨by rfl, ?_⟩) (by assumption) ?_
    rotate_left
    · (intro w hSw; (try dsimp only at hSw); go_simp) <;> with_reducible rfl
    (try simp only [Act.put, List.setIfInBounds_toArray, List.set_cons_zero, List.set_cons_succ])
    refine wpAnyH_take (i := 10) (oi := ⟨some 18, _, _, _, _, _⟩) (v := ?_) rfl (by kernel_rfl) (by kernel_rfl) (by kernel_rfl) (fun _ _ _ h => h) (Or.inl ⟨by rfl, ?_⟩) (by assumption) ?_
    rotate_left
    · (intro w hSw; (try dsimp only at hSw); go_simp) <;> with_reducible rfl
    (try simp only [Act.put, List.setIfInBounds_toArray, List.set_cons_zero, List.set_cons_succ])
    refine wpAnyH_take (i := 7) (oi := ⟨some 15, _, _, _, _, _⟩) (v := _) rfl (by kernel_rfl) (by kernel_rfl) (by kernel_rfl) (fun _ _ _ h => h) (yieldsIf_load_mid (by rfl) rrT (.tmp 3) rfl w.heap.size 0 rfl (rrL 256 (rrF l) (rrG l)) _ (fun wr q => q.1.range) Try.underlying42 rfl hzl.out) (by assumption) ?_
    (try simp only [Act.put, List.setIfInBounds_toArray, List.set_cons_zero, List.set_cons_succ])
    refine wpAnyH_ready (rs := [8]) (by kernel_rfl) (by simp) ?_
    refine AllReadyH.cons (o := ⟨some 16, _, _, _, _, _⟩) rfl (fun K hK => ?_) AllReadyH.nil
    go_simp
    go_at_call 30
    refine (hLen.out _).mono ?_
    rintro e w3 ⟨rfl, qb⟩
    have q3 := Lib.hid (hst2.out.below qb)
    clear qb
    refine hK.out _ _ ⟨q3.out, q3.out.c0, by have := q3.out.cF hb; rw [hgl.out] at this; exact this⟩ (fun hHeld => ?_)
    clear hK K
    (try simp only [Act.put, List.setIfInBounds_toArray, List.set_cons_zero, List.set_cons_succ])
    refine wpAnyH_take (i := 11) (oi := ⟨some 19, _, _, _, _, _⟩) (v := ?_) rfl (by kernel_rfl) (by kernel_rfl) (by kernel_rfl) (fun _ _ _ h => h) (Or.inl ⟨by rfl, ?_⟩) (by assumption) ?_
    rotate_left
    · (intro w hSw; (try dsimp only at hSw); go_simp) <;> with_reducible rfl
    (try simp only [Act.put, List.setIfInBounds_toArray, List.set_cons_zero, List.set_cons_succ])
    refine wpAnyH_take (i := 12) (oi := ⟨some 20, _, _, _, _, _⟩) (v := ?_) rfl (by kernel_rfl) (by kernel_rfl) (by kernel_rfl) (fun _ _ _ h => h) (Or.inl ⟨by rfl, ?_⟩) (by assumption) ?_
    rotate_left
    · (intro w hSw; (try dsimp only at hSw); go_simp) <;> with_reducible rfl
    (try simp only [Act.put, List.setIfInBounds_toArray, List.set_cons_zero, List.set_cons_succ])
    refine wpAnyH_done (by kernel_rfl) ?_ _
    refine NoPanic.normal ?_
    clear c0 hst2 hzl hld2 hld5 hc2 hc3 hHeld cF cF1 hst
    have cG := q3.out.cG hb
    have z1 := q3.out.fz (1 + b)
    obtain ⟨cG2, z2⟩ := q3.out.cG' hb (.bool true)
    have cF2 := q3.out.cF hb
    have q4 := Lib.hid (hP.out _ q3.out)
    go_wp2_with (first | (refine wpList_load_row rfl rrT (.tmp 3) rfl w.heap.size rfl rrT (rrA (kins l b (.int .i64 x))) (0, 0) _ q4.out.b0 Try.underlying42 rfl hz.out ?_) | (refine wpList_store_row rfl rrT (.tmp 6) (.tmp 31) rfl (w.heap.size + 1) (rrA (kins l b (.int .i64 x))) rfl rfl rrT _ q4.out.b1 hz.out hzs.out ho.out ?_))
    (try simp only [Exit.inBlock, Exit.then])
    refine bodyPost_ret (results_cell_tmp rfl _ _ (w.heap.size + 1) rrT (rrA (kins l b (.int .i64 x))) (0, 0) _ rfl q4.out.done.b1 Try.underlying42 rfl hz.out) rfl ?_
    exact ⟨rfl, q4.out.done.old⟩
end
end Go.Proofs.Ythifjldmhfpkhaa
