/- Boards: the calls that only read. -/
import Derived.Test.YtkonbldjmcccmaaKBoard
set_option linter.unusedVariables false
set_option linter.unusedSimpArgs false
namespace Go.Proofs.Ytkonbldjmcccmaa
open Go.RowKit
namespace I
abbrev bdT : Nat := 188
abbrev elT : Nat := 3
abbrev u16T : Nat := 184
variable {w : World} {r rm : Nat} {l : KV} {p : Nat → Nat} {vx : Value} {xs : List Value} {bx : Option Nat} {vf : Value} {fs : List Nat} {bf : Option Nat}
theorem bok_nil (w : World) : Calls Try.prog 184 #[.pointer none] w fun e w' => e = .returned (.bool false) ∧ w = w' := by
  go_enter Try.func184, Try.ntmps184
  go_wp2_with fail
  go_ret
  exact ⟨rfl, rfl⟩
theorem bok_yes (w : World) (r rm : Nat) (hc : w.cell? ⟨r, 0, none⟩ = some (.int .i64 rm)) (h : 0 < rm) : Calls Try.prog 184 #[.pointer (some ⟨r, 0, none⟩)] w fun e w' => e = .returned (.bool true) ∧ w = w' := by
  go_enter Try.func184, Try.ntmps184
  go_wp2_with fail
  go_ret
  exact ⟨rfl, rfl⟩
theorem bd_len (h : BdIs bdT elT u16T w r rm l p vx xs bx vf fs bf) : Calls Try.prog 143 #[.pointer (some ⟨r, 0, none⟩)] w fun e w' => e = .returned (.int .i64 l.length) ∧ w = w' := by
  have c0 := h.c0
  have c1 := h.c1
  have hr := h.r1
  clear h
  go_enter Try.func143, Try.ntmps143
  go_wp2_with (go_at_call 184; refine (bok_yes _ _ _ c0 hr).mono ?_; rintro e w' ⟨rfl, rfl⟩)
  go_ret
  exact ⟨rfl, rfl⟩
theorem bd_room (h : BdIs bdT elT u16T w r rm l p vx xs bx vf fs bf) : Calls Try.prog 135 #[.pointer (some ⟨r, 0, none⟩)] w fun e w' => e = .returned (.int .i64 rm) ∧ w = w' := by
  have c0 := h.c0
  have hr := h.r1
  clear h
  go_enter Try.func135, Try.ntmps135
  go_wp2_with (go_at_call 184; refine (bok_yes _ _ _ c0 hr).mono ?_; rintro e w' ⟨rfl, rfl⟩)
  go_ret
  exact ⟨rfl, rfl⟩
set_option maxHeartbeats 800000 in
theorem bd_get (h : BdIs bdT elT u16T w r rm l p vx xs bx vf fs bf) (b : Nat) (hb : b < 256) : Calls Try.prog 139 #[.pointer (some ⟨r, 0, none⟩), .int .u8 b] w fun e w' => e = .returned (getV (kget l b)) ∧ ∃ n, w' = w.drewN n := by
  have c0 := h.c0
  have hr := h.r1
  have cA := h.cA b hb
  have hbi : (b : Int) < 256 := by omega
  generalize hV : getV (kget l b) = V
  cases hh : has l b with
  | false =>
    rw [(h.pl.zero b hb).2 hh] at cA
    have cA' : w.cell? ⟨r, 2 + b, none⟩ = some (.int .u16 0) := cA
    have hR : Hid (V = .tuple #[(.int .i64 0), .bool false]) := by show _ = _; rw [← hV, get_no h.pl.srt hh]; rfl
    clear h hh hV cA
    go_enter Try.func139, Try.ntmps139
    go_wp2_with (go_at_call 184; refine (bok_yes _ _ _ c0 hr).mono ?_; rintro e w' ⟨rfl, rfl⟩)
    go_ret2
    exact ⟨congrArg Ending.returned hR.out.symm, 0, rfl⟩
  | true =>
    obtain ⟨g, cap, q, v, e1, e2, e3, e4, e5, e6, e7, e8⟩ := h.here hb hh
    rw [e3, show ((q + 1 : Nat) : Int) = (q : Int) + 1 from by omega] at cA
    have cX := h.cX
    rw [e2] at cX
    have hR : Hid (V = .tuple #[v, .bool true]) := by show _ = _; rw [← hV, e7]; rfl
    have hx : xs.length ≤ 256 := by have := h.pl.leX; have := h.r256; omega
    generalize xs.length = k at *
    have hq0 : ((q : Int) + 1 == 0) = false := beq_eq_false_iff_ne.mpr (by omega)
    have hq1 : (q : Int) < (k : Int) := by omega
    have hq2 : (q : Int) ≤ 256 := by omega
    clear h hh hV e1 e2 e3 e7 e6
    go_enter Try.func139, Try.ntmps139
    go_wp2_with (go_at_call 184; refine (bok_yes _ _ _ c0 hr).mono ?_; rintro e w' ⟨rfl, rfl⟩)
    have k1 : IntKind.u16.wrap ((q : Int) + 1 - 1) = (q : Int) := by rw [IntWalk.u16_in _ (by omega)]; omega
    go_quiet (fail)
    go_wp2_with fail
    go_ret2
    exact ⟨congrArg Ending.returned hR.out.symm, nq, rfl⟩
set_option maxHeartbeats 800000 in
set_option maxRecDepth 100000 in
theorem bd_next (h : BdIs bdT elT u16T w r rm l p vx xs bx vf fs bf) (f : Int) (hlo : -9223372036854775808 ≤ f) (hhi : f ≤ 9223372036854775807) : Calls Try.prog 205 #[.pointer (some ⟨r, 0, none⟩), .int .i64 f] w fun e w' => e = .returned (atV (knxt l f)) ∧ ∃ n, w' = w.drewN n := by
  have Hhi := Lib.hid hhi
  have Hlo := Lib.hid hlo
  clear hhi hlo
  have c0 := h.c0
  have hr := h.r1
  have HL := Lib.hid h.pl.low
  have HS := Lib.hid h.pl.srt
  have HG : ∀ n b, b < 256 → Hid (Calls Try.prog 139 #[.pointer (some ⟨r, 0, none⟩), .int .u8 (b : Nat)] (w.drewN n) fun e w' => e = .returned (getV (kget l b)) ∧ ∃ m, w' = (w.drewN n).drewN m) := fun n b hb => bd_get (h.keep (w' := w.drewN n) fun _ _ => rfl) b hb
  have Hg := Lib.hid HG
  clear HG h
  generalize hV : atV (knxt l f) = V
  have HV := Lib.hid hV
  clear hV
  obtain ⟨g, Hgf⟩ : ∃ g : Nat, Hid (g = f.toNat) := ⟨_, rfl⟩
  have key : Hid (knxt l f = knxt l (g : Nat)) := by
    show _ = _
    rw [Hgf.out]
    by_cases h0 : 0 ≤ f
    · rw [Int.toNat_of_nonneg h0]
    · rw [nxt_neg l (f := f) (by omega)]; congr 1; omega
  have fin : Hid (∀ g', 256 ≤ g' → knxt l ((g' : Nat) : Int) = none) := fun g' hg => nxt_high HL.out (by omega)
  have start : Hid (V = atV (knxt l (g : Nat))) := by show _ = _; rw [← HV.out, key.out]
  by_cases h0 : 0 ≤ f
  · obtain ⟨q, rfl⟩ := Int.eq_ofNat_of_zero_le h0
    obtain rfl : g = q := by have := Hgf.out; omega
    clear Hgf h0
    go_enter Try.func205, Try.ntmps205
    go_wp2_with (go_at_call 184; refine (bok_yes _ _ _ c0 hr).mono ?_; rintro e w' ⟨rfl, rfl⟩)
    go_loopw [7] (fun vb wr => ∃ b n : Nat, vb = .int .i64 b ∧ Hid (V = atV (knxt l (b : Nat))) ∧ wr = w.drewN n) (fun vb _ => (256 - intOf vb).toNat)
    case atStart => exact ⟨g, 0, rfl, start.out, rfl⟩
    case round =>
      obtain ⟨b, n, rfl, HK, rfl⟩ := hrel
      by_cases hlt : b < 256
      · have hg1 := Hg.out n b hlt
        have hlt2 : (b : Int) ≤ 255 := by omega
        clear hlt
        cases hk : kget l b with
        | some v =>
          have hR : Hid (V = .tuple #[.int .u8 (b : Nat), v, .bool true]) := by show _ = _; rw [HK.out, nxt_hit HS.out hk]; rfl
          have hgv : Hid (getV (kget l b) = .tuple #[v, .bool true]) := by show _ = _; rw [hk]; rfl
          clear hk
          go_wp2_with (go_at_call 139; refine hg1.out.mono ?_; rintro e w' ⟨rfl, nd, rfl⟩; rw [hgv.out])
          go_ret3
          exact ⟨congrArg Ending.returned hR.out.symm, n + nd, by simp⟩
        | none =>
          have HK2 : Hid (V = atV (knxt l ((b + 1 : Nat) : Int))) := by show _ = _; rw [HK.out, nxt_miss HS.out hk]
          have hgv : Hid (getV (kget l b) = .tuple #[(.int .i64 0), .bool false]) := by show _ = _; rw [hk]; rfl
          clear hk
          go_wp2_with (go_at_call 139; refine hg1.out.mono ?_; rintro e w' ⟨rfl, nd, rfl⟩; rw [hgv.out])
          go_roundw
          case rel => exact ⟨b + 1, n + nd, (by first | rfl | go_num), HK2, by simp⟩
          case measure => (simp [intOf]) <;> omega
      · have hlt2 : 256 ≤ (b : Int) := by omega
        have hR : Hid (V = .tuple #[.int .u8 0, (.int .i64 0), .bool false]) := by show _ = _; rw [HK.out, fin.out b (by omega)]; rfl
        clear hlt
        go_wp2_with fail
        go_ret3
        exact ⟨congrArg Ending.returned hR.out.symm, n, rfl⟩
  · obtain rfl : g = 0 := by have := Hgf.out; omega
    clear Hgf
    go_enter Try.func205, Try.ntmps205
    go_wp2_with (go_at_call 184; refine (bok_yes _ _ _ c0 hr).mono ?_; rintro e w' ⟨rfl, rfl⟩)
    go_loopw [7] (fun vb wr => ∃ b n : Nat, vb = .int .i64 b ∧ Hid (V = atV (knxt l (b : Nat))) ∧ wr = w.drewN n) (fun vb _ => (256 - intOf vb).toNat)
    case atStart => exact ⟨0, 0, rfl, start.out, rfl⟩
    case round =>
      obtain ⟨b, n, rfl, HK, rfl⟩ := hrel
      by_cases hlt : b < 256
      · have hg1 := Hg.out n b hlt
        have hlt2 : (b : Int) ≤ 255 := by omega
        clear hlt
        cases hk : kget l b with
        | some v =>
          have hR : Hid (V = .tuple #[.int .u8 (b : Nat), v, .bool true]) := by show _ = _; rw [HK.out, nxt_hit HS.out hk]; rfl
          have hgv : Hid (getV (kget l b) = .tuple #[v, .bool true]) := by show _ = _; rw [hk]; rfl
          clear hk
          go_wp2_with (go_at_call 139; refine hg1.out.mono ?_; rintro e w' ⟨rfl, nd, rfl⟩; rw [hgv.out])
          go_ret3
          exact ⟨congrArg Ending.returned hR.out.symm, n + nd, by simp⟩
        | none =>
          have HK2 : Hid (V = atV (knxt l ((b + 1 : Nat) : Int))) := by show _ = _; rw [HK.out, nxt_miss HS.out hk]
          have hgv : Hid (getV (kget l b) = .tuple #[(.int .i64 0), .bool false]) := by show _ = _; rw [hk]; rfl
          clear hk
          go_wp2_with (go_at_call 139; refine hg1.out.mono ?_; rintro e w' ⟨rfl, nd, rfl⟩; rw [hgv.out])
          go_roundw
          case rel => exact ⟨b + 1, n + nd, (by first | rfl | go_num), HK2, by simp⟩
          case measure => (simp [intOf]) <;> omega
      · have hlt2 : 256 ≤ (b : Int) := by omega
        have hR : Hid (V = .tuple #[.int .u8 0, (.int .i64 0), .bool false]) := by show _ = _; rw [HK.out, fin.out b (by omega)]; rfl
        clear hlt
        go_wp2_with fail
        go_ret3
        exact ⟨congrArg Ending.returned hR.out.symm, n, rfl⟩
end I

namespace N
abbrev bdT : Nat := 198
abbrev elT : Nat := 28
abbrev u16T : Nat := 184
variable {w : World} {r rm : Nat} {l : KV} {p : Nat → Nat} {vx : Value} {xs : List Value} {bx : Option Nat} {vf : Value} {fs : List Nat} {bf : Option Nat}
theorem bok_nil (w : World) : Calls Try.prog 194 #[.pointer none] w fun e w' => e = .returned (.bool false) ∧ w = w' := by
  go_enter Try.func194, Try.ntmps194
  go_wp2_with fail
  go_ret
  exact ⟨rfl, rfl⟩
theorem bok_yes (w : World) (r rm : Nat) (hc : w.cell? ⟨r, 0, none⟩ = some (.int .i64 rm)) (h : 0 < rm) : Calls Try.prog 194 #[.pointer (some ⟨r, 0, none⟩)] w fun e w' => e = .returned (.bool true) ∧ w = w' := by
  go_enter Try.func194, Try.ntmps194
  go_wp2_with fail
  go_ret
  exact ⟨rfl, rfl⟩
theorem bd_len (h : BdIs bdT elT u16T w r rm l p vx xs bx vf fs bf) : Calls Try.prog 164 #[.pointer (some ⟨r, 0, none⟩)] w fun e w' => e = .returned (.int .i64 l.length) ∧ w = w' := by
  have c0 := h.c0
  have c1 := h.c1
  have hr := h.r1
  clear h
  go_enter Try.func164, Try.ntmps164
  go_wp2_with (go_at_call 194; refine (bok_yes _ _ _ c0 hr).mono ?_; rintro e w' ⟨rfl, rfl⟩)
  go_ret
  exact ⟨rfl, rfl⟩
theorem bd_room (h : BdIs bdT elT u16T w r rm l p vx xs bx vf fs bf) : Calls Try.prog 162 #[.pointer (some ⟨r, 0, none⟩)] w fun e w' => e = .returned (.int .i64 rm) ∧ w = w' := by
  have c0 := h.c0
  have hr := h.r1
  clear h
  go_enter Try.func162, Try.ntmps162
  go_wp2_with (go_at_call 194; refine (bok_yes _ _ _ c0 hr).mono ?_; rintro e w' ⟨rfl, rfl⟩)
  go_ret
  exact ⟨rfl, rfl⟩
set_option maxHeartbeats 800000 in
theorem bd_get (h : BdIs bdT elT u16T w r rm l p vx xs bx vf fs bf) (b : Nat) (hb : b < 256) : Calls Try.prog 152 #[.pointer (some ⟨r, 0, none⟩), .int .u8 b] w fun e w' => e = .returned (getV (kget l b)) ∧ ∃ n, w' = w.drewN n := by
  have c0 := h.c0
  have hr := h.r1
  have cA := h.cA b hb
  have hbi : (b : Int) < 256 := by omega
  generalize hV : getV (kget l b) = V
  cases hh : has l b with
  | false =>
    rw [(h.pl.zero b hb).2 hh] at cA
    have cA' : w.cell? ⟨r, 2 + b, none⟩ = some (.int .u16 0) := cA
    have hR : Hid (V = .tuple #[(.pointer none), .bool false]) := by show _ = _; rw [← hV, get_no h.pl.srt hh]; rfl
    clear h hh hV cA
    go_enter Try.func152, Try.ntmps152
    go_wp2_with (go_at_call 194; refine (bok_yes _ _ _ c0 hr).mono ?_; rintro e w' ⟨rfl, rfl⟩)
    go_ret2
    exact ⟨congrArg Ending.returned hR.out.symm, 0, rfl⟩
  | true =>
    obtain ⟨g, cap, q, v, e1, e2, e3, e4, e5, e6, e7, e8⟩ := h.here hb hh
    rw [e3, show ((q + 1 : Nat) : Int) = (q : Int) + 1 from by omega] at cA
    have cX := h.cX
    rw [e2] at cX
    have hR : Hid (V = .tuple #[v, .bool true]) := by show _ = _; rw [← hV, e7]; rfl
    have hx : xs.length ≤ 256 := by have := h.pl.leX; have := h.r256; omega
    generalize xs.length = k at *
    have hq0 : ((q : Int) + 1 == 0) = false := beq_eq_false_iff_ne.mpr (by omega)
    have hq1 : (q : Int) < (k : Int) := by omega
    have hq2 : (q : Int) ≤ 256 := by omega
    clear h hh hV e1 e2 e3 e7 e6
    go_enter Try.func152, Try.ntmps152
    go_wp2_with (go_at_call 194; refine (bok_yes _ _ _ c0 hr).mono ?_; rintro e w' ⟨rfl, rfl⟩)
    have k1 : IntKind.u16.wrap ((q : Int) + 1 - 1) = (q : Int) := by rw [IntWalk.u16_in _ (by omega)]; omega
    go_quiet (fail)
    go_wp2_with fail
    go_ret2
    exact ⟨congrArg Ending.returned hR.out.symm, nq, rfl⟩
set_option maxHeartbeats 800000 in
set_option maxRecDepth 100000 in
theorem bd_next (h : BdIs bdT elT u16T w r rm l p vx xs bx vf fs bf) (f : Int) (hlo : -9223372036854775808 ≤ f) (hhi : f ≤ 9223372036854775807) : Calls Try.prog 148 #[.pointer (some ⟨r, 0, none⟩), .int .i64 f] w fun e w' => e = .returned (atV (knxt l f)) ∧ ∃ n, w' = w.drewN n := by
  have Hhi := Lib.hid hhi
  have Hlo := Lib.hid hlo
  clear hhi hlo
  have c0 := h.c0
  have hr := h.r1
  have HL := Lib.hid h.pl.low
  have HS := Lib.hid h.pl.srt
  have HG : ∀ n b, b < 256 → Hid (Calls Try.prog 152 #[.pointer (some ⟨r, 0, none⟩), .int .u8 (b : Nat)] (w.drewN n) fun e w' => e = .returned (getV (kget l b)) ∧ ∃ m, w' = (w.drewN n).drewN m) := fun n b hb => bd_get (h.keep (w' := w.drewN n) fun _ _ => rfl) b hb
  have Hg := Lib.hid HG
  clear HG h
  generalize hV : atV (knxt l f) = V
  have HV := Lib.hid hV
  clear hV
  obtain ⟨g, Hgf⟩ : ∃ g : Nat, Hid (g = f.toNat) := ⟨_, rfl⟩
  have key : Hid (knxt l f = knxt l (g : Nat)) := by
    show _ = _
    rw [Hgf.out]
    by_cases h0 : 0 ≤ f
    · rw [Int.toNat_of_nonneg h0]
    · rw [nxt_neg l (f := f) (by omega)]; congr 1; omega
  have fin : Hid (∀ g', 256 ≤ g' → knxt l ((g' : Nat) : Int) = none) := fun g' hg => nxt_high HL.out (by omega)
  have start : Hid (V = atV (knxt l (g : Nat))) := by show _ = _; rw [← HV.out, key.out]
  by_cases h0 : 0 ≤ f
  · obtain ⟨q, rfl⟩ := Int.eq_ofNat_of_zero_le h0
    obtain rfl : g = q := by have := Hgf.out; omega
    clear Hgf h0
    go_enter Try.func148, Try.ntmps148
    go_wp2_with (go_at_call 194; refine (bok_yes _ _ _ c0 hr).mono ?_; rintro e w' ⟨rfl, rfl⟩)
    go_loopw [7] (fun vb wr => ∃ b n : Nat, vb = .int .i64 b ∧ Hid (V = atV (knxt l (b : Nat))) ∧ wr = w.drewN n) (fun vb _ => (256 - intOf vb).toNat)
    case atStart => exact ⟨g, 0, rfl, start.out, rfl⟩
    case round =>
      obtain ⟨b, n, rfl, HK, rfl⟩ := hrel
      by_cases hlt : b < 256
      · have hg1 := Hg.out n b hlt
        have hlt2 : (b : Int) ≤ 255 := by omega
        clear hlt
        cases hk : kget l b with
        | some v =>
          have hR : Hid (V = .tuple #[.int .u8 (b : Nat), v, .bool true]) := by show _ = _; rw [HK.out, nxt_hit HS.out hk]; rfl
          have hgv : Hid (getV (kget l b) = .tuple #[v, .bool true]) := by show _ = _; rw [hk]; rfl
          clear hk
          go_wp2_with (go_at_call 152; refine hg1.out.mono ?_; rintro e w' ⟨rfl, nd, rfl⟩; rw [hgv.out])
          go_ret3
          exact ⟨congrArg Ending.returned hR.out.symm, n + nd, by simp⟩
        | none =>
          have HK2 : Hid (V = atV (knxt l ((b + 1 : Nat) : Int))) := by show _ = _; rw [HK.out, nxt_miss HS.out hk]
          have hgv : Hid (getV (kget l b) = .tuple #[(.pointer none), .bool false]) := by show _ = _; rw [hk]; rfl
          clear hk
          go_wp2_with (go_at_call 152; refine hg1.out.mono ?_; rintro e w' ⟨rfl, nd, rfl⟩; rw [hgv.out])
          go_roundw
          case rel => exact ⟨b + 1, n + nd, (by first | rfl | go_num), HK2, by simp⟩
          case measure => (simp [intOf]) <;> omega
      · have hlt2 : 256 ≤ (b : Int) := by omega
        have hR : Hid (V = .tuple #[.int .u8 0, (.pointer none), .bool false]) := by show _ = _; rw [HK.out, fin.out b (by omega)]; rfl
        clear hlt
        go_wp2_with fail
        go_ret3
        exact ⟨congrArg Ending.returned hR.out.symm, n, rfl⟩
  · obtain rfl : g = 0 := by have := Hgf.out; omega
    clear Hgf
    go_enter Try.func148, Try.ntmps148
    go_wp2_with (go_at_call 194; refine (bok_yes _ _ _ c0 hr).mono ?_; rintro e w' ⟨rfl, rfl⟩)
    go_loopw [7] (fun vb wr => ∃ b n : Nat, vb = .int .i64 b ∧ Hid (V = atV (knxt l (b : Nat))) ∧ wr = w.drewN n) (fun vb _ => (256 - intOf vb).toNat)
    case atStart => exact ⟨0, 0, rfl, start.out, rfl⟩
    case round =>
      obtain ⟨b, n, rfl, HK, rfl⟩ := hrel
      by_cases hlt : b < 256
      · have hg1 := Hg.out n b hlt
        have hlt2 : (b : Int) ≤ 255 := by omega
        clear hlt
        cases hk : kget l b with
        | some v =>
          have hR : Hid (V = .tuple #[.int .u8 (b : Nat), v, .bool true]) := by show _ = _; rw [HK.out, nxt_hit HS.out hk]; rfl
          have hgv : Hid (getV (kget l b) = .tuple #[v, .bool true]) := by show _ = _; rw [hk]; rfl
          clear hk
          go_wp2_with (go_at_call 152; refine hg1.out.mono ?_; rintro e w' ⟨rfl, nd, rfl⟩; rw [hgv.out])
          go_ret3
          exact ⟨congrArg Ending.returned hR.out.symm, n + nd, by simp⟩
        | none =>
          have HK2 : Hid (V = atV (knxt l ((b + 1 : Nat) : Int))) := by show _ = _; rw [HK.out, nxt_miss HS.out hk]
          have hgv : Hid (getV (kget l b) = .tuple #[(.pointer none), .bool false]) := by show _ = _; rw [hk]; rfl
          clear hk
          go_wp2_with (go_at_call 152; refine hg1.out.mono ?_; rintro e w' ⟨rfl, nd, rfl⟩; rw [hgv.out])
          go_roundw
          case rel => exact ⟨b + 1, n + nd, (by first | rfl | go_num), HK2, by simp⟩
          case measure => (simp [intOf]) <;> omega
      · have hlt2 : 256 ≤ (b : Int) := by omega
        have hR : Hid (V = .tuple #[.int .u8 0, (.pointer none), .bool false]) := by show _ = _; rw [HK.out, fin.out b (by omega)]; rfl
        clear hlt
        go_wp2_with fail
        go_ret3
        exact ⟨congrArg Ending.returned hR.out.symm, n, rfl⟩
set_option maxHeartbeats 800000 in
theorem bd_prev (h : BdIs bdT elT u16T w r rm l p vx xs bx vf fs bf) (f : Int) (hlo : -9223372036854775808 ≤ f) (hhi : f ≤ 9223372036854775807) : Calls Try.prog 150 #[.pointer (some ⟨r, 0, none⟩), .int .i64 f] w fun e w' => e = .returned (atV (kprv l f)) ∧ ∃ n, w' = w.drewN n := by
  have c0 := h.c0
  have hr := h.r1
  have HS := Lib.hid h.pl.srt
  have HG : ∀ n b, b < 256 → Hid (Calls Try.prog 152 #[.pointer (some ⟨r, 0, none⟩), .int .u8 (b : Nat)] (w.drewN n) fun e w' => e = .returned (getV (kget l b)) ∧ ∃ m, w' = (w.drewN n).drewN m) := fun n b hb => bd_get (h.keep (w' := w.drewN n) fun _ _ => rfl) b hb
  have Hg := Lib.hid HG
  have hhigh : 255 ≤ f → kprv l f = kprv l (255 : Nat) := prv_high h.pl.low
  clear HG h
  generalize hV : atV (kprv l f) = V
  have HV := Lib.hid hV
  clear hV
  obtain ⟨g, Hgf⟩ : ∃ g : Int, Hid (g = min f 255) := ⟨_, rfl⟩
  have start : Hid (V = atV (kprv l g)) := by
    show _ = _
    rw [← HV.out, Hgf.out]
    by_cases h0 : 255 ≤ f
    · rw [hhigh h0, Int.min_eq_right h0]; rfl
    · rw [Int.min_eq_left (by omega)]
  clear hhigh HV
  by_cases h0 : 255 < f
  · obtain rfl : g = 255 := by have := Hgf.out; omega
    clear Hgf
    go_enter Try.func150, Try.ntmps150
    go_wp2_with (go_at_call 194; refine (bok_yes _ _ _ c0 hr).mono ?_; rintro e w' ⟨rfl, rfl⟩)
    go_loopw [7] (fun vb wr => ∃ (b : Int) (n : Nat), vb = .int .i64 b ∧ -9223372036854775808 ≤ b ∧ b ≤ 255 ∧ Hid (V = atV (kprv l b)) ∧ wr = w.drewN n) (fun vb _ => (intOf vb + 1).toNat)
    case atStart => exact ⟨255, 0, rfl, by omega, by omega, start.out, rfl⟩
    case round =>
      obtain ⟨b, n, rfl, hb9, hb8, HK, rfl⟩ := hrel
      by_cases hlt : 0 ≤ b
      · obtain ⟨b, rfl⟩ := Int.eq_ofNat_of_zero_le hlt
        have hg1 := Hg.out n b (by omega)
        cases hk : kget l b with
        | some v =>
          have hR : Hid (V = .tuple #[.int .u8 (b : Nat), v, .bool true]) := by show _ = _; rw [HK.out, prv_hit HS.out hk]; rfl
          have hgv : Hid (getV (kget l b) = .tuple #[v, .bool true]) := by show _ = _; rw [hk]; rfl
          clear hk
          go_wp2_with (go_at_call 152; refine hg1.out.mono ?_; rintro e w' ⟨rfl, nd, rfl⟩; rw [hgv.out])
          go_ret3
          exact ⟨congrArg Ending.returned hR.out.symm, n + nd, by simp⟩
        | none =>
          have HK2 : Hid (V = atV (kprv l ((b : Int) - 1))) := by show _ = _; rw [HK.out, prv_miss HS.out hk]
          have hgv : Hid (getV (kget l b) = .tuple #[(.pointer none), .bool false]) := by show _ = _; rw [hk]; rfl
          clear hk
          go_wp2_with (go_at_call 152; refine hg1.out.mono ?_; rintro e w' ⟨rfl, nd, rfl⟩; rw [hgv.out])
          go_roundw
          case rel => exact ⟨(b : Int) - 1, n + nd, (by first | rfl | go_num), by omega, by omega, HK2, by simp⟩
          case measure => (simp [intOf]) <;> omega
      · have hR : Hid (V = .tuple #[.int .u8 0, (.pointer none), .bool false]) := by show _ = _; rw [HK.out, prv_neg l (f := b) (by omega)]; rfl
        go_wp2_with fail
        go_ret3
        exact ⟨congrArg Ending.returned hR.out.symm, n, rfl⟩
  · obtain rfl : g = f := by have := Hgf.out; omega
    clear Hgf
    go_enter Try.func150, Try.ntmps150
    go_wp2_with (go_at_call 194; refine (bok_yes _ _ _ c0 hr).mono ?_; rintro e w' ⟨rfl, rfl⟩)
    go_loopw [7] (fun vb wr => ∃ (b : Int) (n : Nat), vb = .int .i64 b ∧ -9223372036854775808 ≤ b ∧ b ≤ 255 ∧ Hid (V = atV (kprv l b)) ∧ wr = w.drewN n) (fun vb _ => (intOf vb + 1).toNat)
    case atStart => exact ⟨g, 0, rfl, by omega, by omega, start.out, rfl⟩
    case round =>
      obtain ⟨b, n, rfl, hb9, hb8, HK, rfl⟩ := hrel
      by_cases hlt : 0 ≤ b
      · obtain ⟨b, rfl⟩ := Int.eq_ofNat_of_zero_le hlt
        have hg1 := Hg.out n b (by omega)
        cases hk : kget l b with
        | some v =>
          have hR : Hid (V = .tuple #[.int .u8 (b : Nat), v, .bool true]) := by show _ = _; rw [HK.out, prv_hit HS.out hk]; rfl
          have hgv : Hid (getV (kget l b) = .tuple #[v, .bool true]) := by show _ = _; rw [hk]; rfl
          clear hk
          go_wp2_with (go_at_call 152; refine hg1.out.mono ?_; rintro e w' ⟨rfl, nd, rfl⟩; rw [hgv.out])
          go_ret3
          exact ⟨congrArg Ending.returned hR.out.symm, n + nd, by simp⟩
        | none =>
          have HK2 : Hid (V = atV (kprv l ((b : Int) - 1))) := by show _ = _; rw [HK.out, prv_miss HS.out hk]
          have hgv : Hid (getV (kget l b) = .tuple #[(.pointer none), .bool false]) := by show _ = _; rw [hk]; rfl
          clear hk
          go_wp2_with (go_at_call 152; refine hg1.out.mono ?_; rintro e w' ⟨rfl, nd, rfl⟩; rw [hgv.out])
          go_roundw
          case rel => exact ⟨(b : Int) - 1, n + nd, (by first | rfl | go_num), by omega, by omega, HK2, by simp⟩
          case measure => (simp [intOf]) <;> omega
      · have hR : Hid (V = .tuple #[.int .u8 0, (.pointer none), .bool false]) := by show _ = _; rw [HK.out, prv_neg l (f := b) (by omega)]; rfl
        go_wp2_with fail
        go_ret3
        exact ⟨congrArg Ending.returned hR.out.symm, n, rfl⟩
end N
end Go.Proofs.Ytkonbldjmcccmaa
