/- The document's rows: Next, Prev, New. -/
import Derived.Test.YthifjldmhfpkhaaKRefD
set_option linter.unusedVariables false
set_option linter.unusedSimpArgs false
namespace Go.Proofs.Ythifjldmhfpkhaa
open Go.RowKit
section
variable {l : KV}
set_option maxHeartbeats 800000 in
set_option maxRecDepth 100000 in
theorem ref_next (hs : Srt l) (hl : Low l) (hv : I.Vals l) (f : Int) (hlo : -9223372036854775808 ≤ f) (hhi : f ≤ 9223372036854775807) (w : World) : Calls Try.prog 88 #[.agg (rrA l), .int .i64 f] w fun e w' => e = .returned (I.atV (knxt l f)) ∧ Below w.heap.size w w' := by
  have Hhi := Lib.hid hhi
  have Hlo := Lib.hid hlo
  clear hhi hlo
  have HL := Lib.hid hl
  have HS := Lib.hid hs
  have HV2 := Lib.hid hv
  clear hl hs hv
  generalize hV : I.atV (knxt l f) = V
  have HV := Lib.hid hV
  clear hV
  obtain ⟨g, Hgf⟩ : ∃ g : Nat, Hid (g = f.toNat) := ⟨_, rfl⟩
  have key : Hid (knxt l f = knxt l (g : Nat)) := by
    show _ = _
    rw [Hgf.out]
    by_cases h0 : 0 ≤ f
    · rw [Int.toNat_of_nonneg h0]
    · rw [nxt_neg l (f := f) (by omega)]; congr 1; omega
  have fin : Hid (∀ g', 256 ≤ g' → knxt l ((g' : Nat) : Int) = none) := fun g' hg => nxt_high HL.out (by omega)
  have start : Hid (V = I.atV (knxt l (g : Nat))) := by show _ = _; rw [← HV.out, key.out]
  have hmax : Hid ((if f < 0 then (0 : Int) else f) = (g : Nat)) := by show _ = _; have := Hgf.out; split <;> omega
  have hmax2 : Hid ((if (0 : Int) ≤ f then f else 0) = (g : Nat)) := by show _ = _; have := Hgf.out; split <;> omega
  have hg63 : Hid ((g : Int) ≤ 9223372036854775807) := by show _ ≤ _; have := Hgf.out; have := Hhi.out; omega
  by_cases h0 : 0 ≤ f
  · obtain ⟨q, rfl⟩ := Int.eq_ofNat_of_zero_le h0
    obtain rfl : g = q := by have := Hgf.out; omega
    clear Hgf h0 hmax hmax2
    go_enter Try.func88, Try.ntmps88
    go_wp2_with fail
    have HF := Lib.hid (fun b hb => rr_cellF w l (b := b) hb)
    have HG := Lib.hid (fun b hb => rr_cellG w l (b := b) hb)
    have hB : Hid (Below w.heap.size w (w.alloc (.cells (rrA l) rrT))) := (Below.refl _ w).alloc (Nat.le_refl _) _
    generalize w.alloc (.cells (rrA l) rrT) = w1 at *
    go_loop [7] (fun vb => ∃ b : Nat, vb = .int .i64 (b : Nat) ∧ (b : Int) ≤ 9223372036854775807 ∧ Hid (V = I.atV (knxt l (b : Nat)))) (fun vb => (256 - intOf vb).toNat)
    case atStart => exact ⟨g, (by first | rfl | exact congrArg (Value.int .i64) (by omega)), hg63.out, start.out⟩
    case round =>
      obtain ⟨b, rfl, hb63, HK⟩ := hrel
      by_cases hlt : b < 256
      · have hlt2 : (b : Int) < 256 := by omega
        have hb2 := hlt
        have hw9 : IntKind.i64.wrap (((b : Nat) : Int) + 1) = ((b : Nat) : Int) + 1 := IntWalk.i64_in _ (by omega)
        clear hlt
        cases hk : kget l b with
        | some v =>
          have hR : Hid (V = .tuple #[.int .u8 (b : Nat), v, .bool true]) := by show _ = _; rw [HK.out, nxt_hit HS.out hk]; rfl
          have hf : rrF l b = true := by unfold rrF; rw [hk]; rfl
          have hgg : rrG l b = v := by unfold rrG; rw [hk]; rfl
          obtain ⟨x, rfl⟩ : ∃ x : Int, v = .int .i64 x := by
            obtain ⟨p, hp, e⟩ := Option.map_eq_some_iff.1 hk
            obtain ⟨x, hx⟩ := HV2.out p (List.mem_of_find?_eq_some hp)
            exact ⟨x, by rw [← e, hx]⟩
          have cF := HF.out b hb2
          have cG : ∀ n, (w1.drewN n).cell? ⟨w.heap.size, 257 + b, none⟩ = some (rrG l b) := fun n => HG.out b hb2
          rw [hf] at cF
          rw [hgg] at cG
          have hw8 : IntKind.u8.wrap ((b : Nat) : Int) = (b : Nat) := IntWalk.u8_in _ (by omega)
          clear hk hf hgg
          go_wp2_with fail
          go_quiet (fail)
          go_wp2_with fail
          go_ret3
          exact ⟨congrArg Ending.returned hR.out.symm, below_drewN hB.out _⟩
        | none =>
          have HK2 : Hid (V = I.atV (knxt l ((b + 1 : Nat) : Int))) := by show _ = _; rw [HK.out, nxt_miss HS.out hk]
          have hf : rrF l b = false := by unfold rrF; rw [hk]; rfl
          have cF := HF.out b hb2
          rw [hf] at cF
          clear hk hf
          go_wp2_with fail
          go_round
          case rel => exact ⟨b + 1, (by first | rfl | go_num), by omega, HK2⟩
          case measure => (simp [intOf]) <;> omega
      · have hlt2 : ¬ (b : Int) < 256 := by omega
        have hR : Hid (V = .tuple #[.int .u8 0, .int .i64 0, .bool false]) := by show _ = _; rw [HK.out, fin.out b (by omega)]; rfl
        clear hlt
        go_wp2_with fail
        go_ret3
        exact ⟨congrArg Ending.returned hR.out.symm, hB.out⟩
  · obtain rfl : g = 0 := by have := Hgf.out; omega
    clear Hgf hmax hmax2
    go_enter Try.func88, Try.ntmps88
    go_wp2_with fail
    have HF := Lib.hid (fun b hb => rr_cellF w l (b := b) hb)
    have HG := Lib.hid (fun b hb => rr_cellG w l (b := b) hb)
    have hB : Hid (Below w.heap.size w (w.alloc (.cells (rrA l) rrT))) := (Below.refl _ w).alloc (Nat.le_refl _) _
    generalize w.alloc (.cells (rrA l) rrT) = w1 at *
    go_loop [7] (fun vb => ∃ b : Nat, vb = .int .i64 (b : Nat) ∧ (b : Int) ≤ 9223372036854775807 ∧ Hid (V = I.atV (knxt l (b : Nat)))) (fun vb => (256 - intOf vb).toNat)
    case atStart => exact ⟨0, (by first | rfl | exact congrArg (Value.int .i64) (by omega)), hg63.out, start.out⟩
    case round =>
      obtain ⟨b, rfl, hb63, HK⟩ := hrel
      by_cases hlt : b < 256
      · have hlt2 : (b : Int) < 256 := by omega
        have hb2 := hlt
        have hw9 : IntKind.i64.wrap (((b : Nat) : Int) + 1) = ((b : Nat) : Int) + 1 := IntWalk.i64_in _ (by omega)
        clear hlt
        cases hk : kget l b with
        | some v =>
          have hR : Hid (V = .tuple #[.int .u8 (b : Nat), v, .bool true]) := by show _ = _; rw [HK.out, nxt_hit HS.out hk]; rfl
          have hf : rrF l b = true := by unfold rrF; rw [hk]; rfl
          have hgg : rrG l b = v := by unfold rrG; rw [hk]; rfl
          obtain ⟨x, rfl⟩ : ∃ x : Int, v = .int .i64 x := by
            obtain ⟨p, hp, e⟩ := Option.map_eq_some_iff.1 hk
            obtain ⟨x, hx⟩ := HV2.out p (List.mem_of_find?_eq_some hp)
            exact ⟨x, by rw [← e, hx]⟩
          have cF := HF.out b hb2
          have cG : ∀ n, (w1.drewN n).cell? ⟨w.heap.size, 257 + b, none⟩ = some (rrG l b) := fun n => HG.out b hb2
          rw [hf] at cF
          rw [hgg] at cG
          have hw8 : IntKind.u8.wrap ((b : Nat) : Int) = (b : Nat) := IntWalk.u8_in _ (by omega)
          clear hk hf hgg
          go_wp2_with fail
          go_quiet (fail)
          go_wp2_with fail
          go_ret3
          exact ⟨congrArg Ending.returned hR.out.symm, below_drewN hB.out _⟩
        | none =>
          have HK2 : Hid (V = I.atV (knxt l ((b + 1 : Nat) : Int))) := by show _ = _; rw [HK.out, nxt_miss HS.out hk]
          have hf : rrF l b = false := by unfold rrF; rw [hk]; rfl
          have cF := HF.out b hb2
          rw [hf] at cF
          clear hk hf
          go_wp2_with fail
          go_round
          case rel => exact ⟨b + 1, (by first | rfl | go_num), by omega, HK2⟩
          case measure => (simp [intOf]) <;> omega
      · have hlt2 : ¬ (b : Int) < 256 := by omega
        have hR : Hid (V = .tuple #[.int .u8 0, .int .i64 0, .bool false]) := by show _ = _; rw [HK.out, fin.out b (by omega)]; rfl
        clear hlt
        go_wp2_with fail
        go_ret3
        exact ⟨congrArg Ending.returned hR.out.symm, hB.out⟩
set_option maxHeartbeats 800000 in
set_option maxRecDepth 100000 in
theorem ref_prev (hs : Srt l) (hl : Low l) (hv : I.Vals l) (f : Int) (hlo : -9223372036854775808 ≤ f) (hhi : f ≤ 9223372036854775807) (w : World) : Calls Try.prog 89 #[.agg (rrA l), .int .i64 f] w fun e w' => e = .returned (I.atV (kprv l f)) ∧ Below w.heap.size w w' := by
  have Hlo := Lib.hid hlo
  clear hhi hlo
  have HS := Lib.hid hs
  have HV2 := Lib.hid hv
  have hhigh : 255 ≤ f → kprv l f = kprv l (255 : Nat) := prv_high hl
  clear hl hs hv
  generalize hV : I.atV (kprv l f) = V
  have HV := Lib.hid hV
  clear hV
  obtain ⟨g, Hgf⟩ : ∃ g : Int, Hid (g = min f 255) := ⟨_, rfl⟩
  have start : Hid (V = I.atV (kprv l g)) := by
    show _ = _
    rw [← HV.out, Hgf.out]
    by_cases h0 : 255 ≤ f
    · rw [hhigh h0, Int.min_eq_right h0]; rfl
    · rw [Int.min_eq_left (by omega)]
  clear hhigh HV
  have hg9 : Hid (-9223372036854775808 ≤ g ∧ g ≤ 255) := by show _ ∧ _; have := Hgf.out; have := Hlo.out; omega
  by_cases h0 : 255 < f
  · obtain rfl : g = 255 := by have := Hgf.out; omega
    clear Hgf
    go_enter Try.func89, Try.ntmps89
    go_wp2_with fail
    have HF := Lib.hid (fun b hb => rr_cellF w l (b := b) hb)
    have HG := Lib.hid (fun b hb => rr_cellG w l (b := b) hb)
    have hB : Hid (Below w.heap.size w (w.alloc (.cells (rrA l) rrT))) := (Below.refl _ w).alloc (Nat.le_refl _) _
    generalize w.alloc (.cells (rrA l) rrT) = w1 at *
    go_loop [7] (fun vb => ∃ b : Int, vb = .int .i64 b ∧ -9223372036854775808 ≤ b ∧ b ≤ 255 ∧ Hid (V = I.atV (kprv l b))) (fun vb => (intOf vb + 1).toNat)
    case atStart => exact ⟨255, (by first | rfl | exact congrArg (Value.int .i64) (by omega)), hg9.out.1, hg9.out.2, start.out⟩
    case round =>
      obtain ⟨b, rfl, hb9, hb8, HK⟩ := hrel
      by_cases hlt : 0 ≤ b
      · obtain ⟨b, rfl⟩ := Int.eq_ofNat_of_zero_le hlt
        have hb2 : b < 256 := by omega
        have hb256 : (b : Int) < 256 := by omega
        have hw9 : IntKind.i64.wrap (((b : Nat) : Int) - 1) = ((b : Nat) : Int) - 1 := IntWalk.i64_in _ (by omega)
        cases hk : kget l b with
        | some v =>
          have hR : Hid (V = .tuple #[.int .u8 (b : Nat), v, .bool true]) := by show _ = _; rw [HK.out, prv_hit HS.out hk]; rfl
          have hf : rrF l b = true := by unfold rrF; rw [hk]; rfl
          have hgg : rrG l b = v := by unfold rrG; rw [hk]; rfl
          obtain ⟨x, rfl⟩ : ∃ x : Int, v = .int .i64 x := by
            obtain ⟨p, hp, e⟩ := Option.map_eq_some_iff.1 hk
            obtain ⟨x, hx⟩ := HV2.out p (List.mem_of_find?_eq_some hp)
            exact ⟨x, by rw [← e, hx]⟩
          have cF := HF.out b hb2
          have cG : ∀ n, (w1.drewN n).cell? ⟨w.heap.size, 257 + b, none⟩ = some (rrG l b) := fun n => HG.out b hb2
          rw [hf] at cF
          rw [hgg] at cG
          have hw8 : IntKind.u8.wrap ((b : Nat) : Int) = (b : Nat) := IntWalk.u8_in _ (by omega)
          clear hk hf hgg
          go_wp2_with fail
          go_quiet (fail)
          go_wp2_with fail
          go_ret3
          exact ⟨congrArg Ending.returned hR.out.symm, below_drewN hB.out _⟩
        | none =>
          have HK2 : Hid (V = I.atV (kprv l ((b : Int) - 1))) := by show _ = _; rw [HK.out, prv_miss HS.out hk]
          have hf : rrF l b = false := by unfold rrF; rw [hk]; rfl
          have cF := HF.out b hb2
          rw [hf] at cF
          clear hk hf
          go_wp2_with fail
          go_round
          case rel => exact ⟨(b : Int) - 1, (by first | rfl | go_num), by omega, by omega, HK2⟩
          case measure => (simp [intOf]) <;> omega
      · have hR : Hid (V = .tuple #[.int .u8 0, .int .i64 0, .bool false]) := by show _ = _; rw [HK.out, prv_neg l (f := b) (by omega)]; rfl
        go_wp2_with fail
        go_ret3
        exact ⟨congrArg Ending.returned hR.out.symm, hB.out⟩
  · obtain rfl : g = f := by have := Hgf.out; omega
    clear Hgf
    go_enter Try.func89, Try.ntmps89
    go_wp2_with fail
    have HF := Lib.hid (fun b hb => rr_cellF w l (b := b) hb)
    have HG := Lib.hid (fun b hb => rr_cellG w l (b := b) hb)
    have hB : Hid (Below w.heap.size w (w.alloc (.cells (rrA l) rrT))) := (Below.refl _ w).alloc (Nat.le_refl _) _
    generalize w.alloc (.cells (rrA l) rrT) = w1 at *
    go_loop [7] (fun vb => ∃ b : Int, vb = .int .i64 b ∧ -9223372036854775808 ≤ b ∧ b ≤ 255 ∧ Hid (V = I.atV (kprv l b))) (fun vb => (intOf vb + 1).toNat)
    case atStart => exact ⟨g, (by first | rfl | exact congrArg (Value.int .i64) (by omega)), hg9.out.1, hg9.out.2, start.out⟩
    case round =>
      obtain ⟨b, rfl, hb9, hb8, HK⟩ := hrel
      by_cases hlt : 0 ≤ b
      · obtain ⟨b, rfl⟩ := Int.eq_ofNat_of_zero_le hlt
        have hb2 : b < 256 := by omega
        have hb256 : (b : Int) < 256 := by omega
        have hw9 : IntKind.i64.wrap (((b : Nat) : Int) - 1) = ((b : Nat) : Int) - 1 := IntWalk.i64_in _ (by omega)
        cases hk : kget l b with
        | some v =>
          have hR : Hid (V = .tuple #[.int .u8 (b : Nat), v, .bool true]) := by show _ = _; rw [HK.out, prv_hit HS.out hk]; rfl
          have hf : rrF l b = true := by unfold rrF; rw [hk]; rfl
          have hgg : rrG l b = v := by unfold rrG; rw [hk]; rfl
          obtain ⟨x, rfl⟩ : ∃ x : Int, v = .int .i64 x := by
            obtain ⟨p, hp, e⟩ := Option.map_eq_some_iff.1 hk
            obtain ⟨x, hx⟩ := HV2.out p (List.mem_of_find?_eq_some hp)
            exact ⟨x, by rw [← e, hx]⟩
          have cF := HF.out b hb2
          have cG : ∀ n, (w1.drewN n).cell? ⟨w.heap.size, 257 + b, none⟩ = some (rrG l b) := fun n => HG.out b hb2
          rw [hf] at cF
          rw [hgg] at cG
          have hw8 : IntKind.u8.wrap ((b : Nat) : Int) = (b : Nat) := IntWalk.u8_in _ (by omega)
          clear hk hf hgg
          go_wp2_with fail
          go_quiet (fail)
          go_wp2_with fail
          go_ret3
          exact ⟨congrArg Ending.returned hR.out.symm, below_drewN hB.out _⟩
        | none =>
          have HK2 : Hid (V = I.atV (kprv l ((b : Int) - 1))) := by show _ = _; rw [HK.out, prv_miss HS.out hk]
          have hf : rrF l b = false := by unfold rrF; rw [hk]; rfl
          have cF := HF.out b hb2
          rw [hf] at cF
          clear hk hf
          go_wp2_with fail
          go_round
          case rel => exact ⟨(b : Int) - 1, (by first | rfl | go_num), by omega, by omega, HK2⟩
          case measure => (simp [intOf]) <;> omega
      · have hR : Hid (V = .tuple #[.int .u8 0, .int .i64 0, .bool false]) := by show _ = _; rw [HK.out, prv_neg l (f := b) (by omega)]; rfl
        go_wp2_with fail
        go_ret3
        exact ⟨congrArg Ending.returned hR.out.symm, hB.out⟩
theorem rrA_nil : (Try.prog.built rrT [(0, .int .i64 256)]) = some (rrA []) := by kernel_rfl
set_option maxRecDepth 100000 in
theorem ref_new (w : World) : Calls Try.prog 26 #[] w fun e w' => e = .returned (.agg (rrA [])) ∧ Below w.heap.size w w' := by
  have hz := Lib.hid (rr_info [])
  have hzs : Hid (Try.zeroCells42.size = (rrA []).size) := by show _ = _; rw [rr_size]; exact zero_size
  have ho := Lib.hid (rr_one (l := []) (fun p hp => by simp at hp))
  have hb : Hid ((w.alloc (.cells Try.zeroCells42 rrT)).heap[w.heap.size]? = some (.cells Try.zeroCells42 rrT (0, 0))) := heap_alloc_new _ _
  have hd : Hid (∀ w2, w2 = (w.alloc (.cells Try.zeroCells42 rrT)).setRow w.heap.size (rrA []) → w2.heap[w.heap.size]? = some (.cells (rrA []) rrT (0, 0)) ∧ Below w.heap.size w w2) := fun w2 e => by
    subst e
    rw [World.setRow_alloc_new]
    exact ⟨heap_alloc_new _ _, (Below.refl _ w).alloc (Nat.le_refl _) _⟩
  go_enter Try.func26, Try.ntmps26
  go_upto_region 1 with fail
  have hbu := run_build (P := Try.prog) (w.alloc (.cells Try.zeroCells42 rrT)) rrT #[(0, .int .i64 256)] (rrA []) rrA_nil
  go_wp2_with (refine wpList_store_row rfl rrT (.tmp 0) (.tmp 1) rfl w.heap.size (rrA []) rfl rfl rrT _ hb.out hz.out hzs.out ho.out ?_)
  (try simp only [Exit.inBlock, Exit.then])
  refine bodyPost_ret (results_cell_row rfl _ _ w.heap.size rrT (rrA []) (0, 0) _ rfl (hd.out _ rfl).1 Try.underlying42 rfl hz.out) rfl ?_
  exact ⟨rfl, (hd.out _ rfl).2⟩
end
end Go.Proofs.Ythifjldmhfpkhaa
