/- The document's rows: Drop, New, Next, Prev. -/
import Derived.Test.YthifjldmhfpkhaaKRefS
import Derived.Deep.Cut
set_option linter.unusedVariables false
set_option linter.unusedSimpArgs false
namespace Go.Proofs.Ythifjldmhfpkhaa
open Go.RowKit
section
variable {l : KV}
set_option maxRecDepth 100000 in
theorem ref_drop (hs : Srt l) (hl : Low l) (hv : I.Vals l) (b : Nat) (hb : b < 256) (w : World) : Calls Try.prog 28 #[.agg (rrA l), .int .u8 (b : Nat)] w fun e w' => e = .returned (.tuple #[.agg (rrA (kdel l b)), .int .i64 (if has l b then 0 else 6)]) ∧ Below w.heap.size w w' := by
  have hV1 := Lib.hid (I.Vals.del hv b)
  have hP := Lib.hid (fun wr (q : RR w l Try.zeroCells42 wr) => q.put b false (.int .i64 0) (rr_del hs hb))
  have hb1 : (b : Int) < 256 := by omega
  have hgh : rrF l b = has l b := get_has hs b
  have hw8 : IntKind.i64.wrap ((b : Nat) : Int) = (b : Nat) := IntWalk.i64_in _ (by omega)
  have hnot : has l b = false → kdel l b = l := fun e => by
    unfold kdel
    refine List.filter_eq_self.2 fun p hp => ?_
    have : p.1 ≠ b := fun q => by
      have h1 := (mem_get hs).2 (show (p.1, p.2) ∈ l from hp)
      have h2 := get_has hs b
      rw [← q, h1, q, e] at h2
      simp at h2
    simpa using this
  cases hh : has l b with
  | true =>
    have hz := Lib.hid (rr_info (kdel l b))
    have hzs : Hid (Try.zeroCells42.size = (rrA (kdel l b)).size) := by show _ = _; rw [rr_size]; exact zero_size
    have ho := Lib.hid (rr_one hV1.out)
    simp only [if_true]
    clear hnot
    rw [hh] at hgh
    clear hh
    have Hgh := Lib.hid hgh
    clear hgh
    go_enter Try.func28, Try.ntmps28
    go_upto_region 1 with fail
    have hst := Lib.hid (RR.start w l)
    generalize (w.alloc (.cells (rrA l) rrT)).alloc (.cells Try.zeroCells42 rrT) = w2 at *
    have cF := hst.out.cF hb
    rw [Hgh.out] at cF
    have cG := hst.out.cG hb
    have z1 := hst.out.fz (1 + b)
    obtain ⟨cG2, z2⟩ := hst.out.cG' hb (.bool false)
    have q4 := Lib.hid (hP.out _ hst.out)
    go_wp2_with (first | (refine wpList_load_row rfl rrT (.tmp 2) rfl w.heap.size rfl rrT (rrA (kdel l b)) (0, 0) _ q4.out.b0 Try.underlying42 rfl hz.out ?_) | (refine wpList_store_row rfl rrT (.tmp 4) (.tmp 21) rfl (w.heap.size + 1) (rrA (kdel l b)) rfl rfl rrT _ q4.out.b1 hz.out hzs.out ho.out ?_))
    (try simp only [Exit.inBlock, Exit.then])
    refine bodyPost_ret (results_cell_tmp rfl _ _ (w.heap.size + 1) rrT (rrA (kdel l b)) (0, 0) _ rfl q4.out.done.b1 Try.underlying42 rfl hz.out) rfl ?_
    exact ⟨rfl, q4.out.done.old⟩
  | false =>
    rw [hnot hh]
    have hz := Lib.hid (rr_info l)
    have hzs : Hid (Try.zeroCells42.size = (rrA l).size) := by show _ = _; rw [rr_size]; exact zero_size
    have ho := Lib.hid (rr_one hv)
    simp only [Bool.false_eq_true, if_false]
    rw [hh] at hgh
    clear hh hnot hP hV1
    have Hgh := Lib.hid hgh
    clear hgh
    go_enter Try.func28, Try.ntmps28
    go_upto_region 1 with fail
    have hst := Lib.hid (RR.start w l)
    generalize (w.alloc (.cells (rrA l) rrT)).alloc (.cells Try.zeroCells42 rrT) = w2 at *
    have cF := hst.out.cF hb
    rw [Hgh.out] at cF
    go_wp2_with (first | (refine wpList_load_row rfl rrT (.tmp 2) rfl w.heap.size rfl rrT (rrA l) (0, 0) _ hst.out.b0 Try.underlying42 rfl hz.out ?_) | (refine wpList_store_row rfl rrT (.tmp 4) (.tmp 12) rfl (w.heap.size + 1) (rrA l) rfl rfl rrT _ hst.out.b1 hz.out hzs.out ho.out ?_))
    (try simp only [Exit.inBlock, Exit.then])
    refine bodyPost_ret (results_cell_tmp rfl _ _ (w.heap.size + 1) rrT (rrA l) (0, 0) _ rfl hst.out.done.b1 Try.underlying42 rfl hz.out) rfl ?_
    exact ⟨rfl, hst.out.done.old⟩
end
end Go.Proofs.Ythifjldmhfpkhaa
