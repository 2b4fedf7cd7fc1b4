/- The statement NodeCopies: its walk. -/
import Derived.Test.YthifjldmhfpkhaaNCp
import Derived.Test.YthifjldmhfpkhaaNLawF
import Derived.StillTailTactics
set_option linter.unusedVariables false
set_option linter.unusedSimpArgs false
namespace Go.Proofs.Ythifjldmhfpkhaa
open Go.RowKit
def cpW (w : World) (s1 s2 : Value) : World := w.alloc (.cells #[s1, s2] 76)
set_option maxHeartbeats 2000000 in
set_option maxRecDepth 100000 in
theorem NodeCopies_any (v : Int) (a0 a1 a2 : Option Addr) (n0 c0 n1 c1 n2 c2 : Nat) (bs ps ms : List Nat) (w : World) (hn0 : bs.length = min n0 300) (hc0 : n0 ≤ c0) (hm0 : c0 ≤ maxLen) (hb : BytesAt w a0 bs) (hi : In8 w a1 n1 c1 ps) (hj : In8 w a2 n2 c2 ms) :
    Calls Try.prog 8 #[.slice a0 n0 c0, .agg #[.slice a1 n1 c1, .slice a2 n2 c2], .int .u64 v] w (LawPost w) := by
  have L0 := Lib.hid hn0
  clear hn0
  go_enter Try.func8, Try.ntmps8
  go_wp2_with fail
  go_quiet (fail)
  obtain ⟨w0, hw0⟩ : ∃ w0, Hid (w0 = (cpW w (.slice a1 n1 c1) (.slice a2 n2 c2)).drewN nq) := ⟨_, rfl⟩
  change Exit.then _ _ _ _ ((cpW w (.slice a1 n1 c1) (.slice a2 n2 c2)).drewN nq)
  have hw : Hid (Below w.heap.size w w0) := by show Below _ _ _; rw [hw0.out]; exact below_drewN ((Below.refl _ w).alloc (Nat.le_refl _) _) _
  rw [← hw0.out]
  clear hw0
  have hi0 := Lib.hid (hi.below hw.out)
  have hj0 := Lib.hid (hj.below hw.out)
  have HB := Lib.hid (hb.below hw.out)
  clear hi hj hb
  have hIn := Lib.hid (sp_inner0 (P := []) (StoreP.nil NoX (Mod.refl _ w0)) hi0.out 1)
  have hLf1 : Hid (∀ wr n, StoreP NoX w0 wr [cpN n ps []] → Calls Try.prog 33 #[.pointer none, .int .u64 1, .slice a1 n1 c1, .int .u64 v] wr fun e w' => ∃ k, e = .returned (.pointer (some ⟨k, 0, none⟩)) ∧ StoreP NoX w0 w' [cpN n ps [], cpK k ps v]) := fun wr n q => by
    refine (sp_leaf0 q (hi0.out.below (Mod.below q.mod)) 1 v).mono ?_
    rintro e w' ⟨k, rfl, q', _⟩
    exact ⟨k, rfl, q'.1⟩
  have hLf2 : Hid (∀ wr n k, StoreP NoX w0 wr [cpN n ps [], cpK k ps v] → Calls Try.prog 33 #[.pointer none, .int .u64 1, .slice a2 n2 c2, .int .u64 v] wr fun e w' => ∃ x, e = .returned (.pointer (some ⟨x, 0, none⟩)) ∧ CpA w0 n k x ps ms v bs 0 w') := fun wr n k q => by
    refine (sp_leaf0 q (hj0.out.below (Mod.below q.mod)) 1 v).mono ?_
    rintro e w' ⟨x, rfl, q', _⟩
    exact ⟨x, rfl, _, q'.1, fun c => by simp [kget]⟩
  have hlen0 : bs.length ≤ 300 := by have := L0.out; omega
  have e0 : (if (300 : Int) < (n0 : Int) then (300 : Int) else (n0 : Int)) = (bs.length : Nat) := by have := L0.out; split <;> omega
  have hle : bs.length ≤ c0 := by have := L0.out; omega
  have hle2 : (bs.length : Int) ≤ (c0 : Int) := by omega
  go_wp2_with (first | (go_at_call 32; refine hIn.out.mono ?_; rintro e w1 ⟨n, rfl, q1, _⟩; have q1 := Lib.hid q1.1) | (go_at_call 33; refine (hLf2.out _ _ _ q2.out).mono ?_; rintro e w3 ⟨x, rfl, q3⟩; have q3 := Lib.hid q3) | (go_at_call 33; refine (hLf1.out _ _ q1.out).mono ?_; rintro e w2 ⟨k, rfl, q2⟩; have q2 := Lib.hid q2))
  clear e0 hle hle2
  have FA : Hid (∀ i wr, i < bs.length → CpA w0 n k x ps ms v bs i wr → Calls Try.prog 35 #[.pointer (some ⟨n, 0, none⟩), .int .u64 1, .int .u8 (bs.getD i 0 : Nat), .pointer (some ⟨k, 0, none⟩)] wr fun e w' => e = .returned (.int .i64 0) ∧ CpA w0 n k x ps ms v bs (i + 1) w') := fun i wr hi h => cpA_set h hi HB.out.1
  go_loopw [53] (fun vi wr => ∃ i : Nat, vi = .int .i64 (i : Nat) ∧ i ≤ bs.length ∧ Hid (CpA w0 n k x ps ms v bs i wr)) (fun vi _ => (bs.length - intOf vi).toNat)
  case atStart => exact ⟨0, rfl, by omega, q3⟩
  case round =>
    obtain ⟨i, rfl, hi, hs⟩ := hrel
    by_cases hlt : i < bs.length
    · have hlt2 : (i : Int) < (bs.length : Nat) := by omega
      obtain ⟨p, rfl, hp⟩ := HB.out.read hs.out.old hlt
      have hA := Lib.hid (FA.out i wr hlt hs.out)
      generalize bs.getD i 0 = u at *
      have hw9 : IntKind.i64.wrap (((i : Nat) : Int) + 1) = ((i : Nat) : Int) + 1 := IntWalk.i64_in _ (by omega)
      go_wp2_with (go_at_call 35; refine hA.out.mono ?_; rintro e w4 ⟨rfl, q4⟩; have q4 := Lib.hid q4)
      go_roundw
      case rel => exact ⟨i + 1, (by first | rfl | go_num), by omega, q4⟩
      case measure => (simp [intOf]) <;> omega
    · obtain rfl : i = bs.length := by omega
      have hlt2 : ¬ ((bs.length : Nat) : Int) < (bs.length : Nat) := by omega
      have hcp := Lib.hid (cpA_copy hs.out)
      clear hlt FA
      go_wp2_with (first | (go_at_call 46; refine hcp.out.mono ?_; rintro e w5 ⟨c, l, rfl, q5⟩; have C1 := Lib.hid (cpB_lenC q5); have C2 := Lib.hid (cpB_lenN q5); have C3 := Lib.hid (cpB_kindC q5); have C4 := Lib.hid (cpB_kindN q5); have q5 := Lib.hid q5) | (go_at_call 38; refine g1.out.mono ?_; rintro e w' ⟨rfl, rfl⟩) | (go_at_call 38; refine C1.out.mono ?_; rintro e w' ⟨rfl, rfl⟩; have g1 := C2) | (go_at_call 47; refine g3.out.mono ?_; rintro e w' ⟨rfl, rfl⟩) | (go_at_call 47; refine C3.out.mono ?_; rintro e w' ⟨rfl, rfl⟩; have g3 := C4))
      clear C1 C2 C3 C4 g1 g3
      have FD : Hid (∀ b l2 wr, b < 256 → CpB w0 n k x c ps ms v bs l l2 wr → Calls Try.prog 41 #[.pointer (some ⟨c, 0, none⟩), .int .u64 2, .int .u8 (b : Nat)] wr fun e w' => ∃ r : Int, e = .returned (.int .i64 r) ∧ ∃ l3, CpB w0 n k x c ps ms v bs l l3 w') := fun b l2 wr hb h => cpB_drop h b hb
      have FS : Hid (∀ b l2 wr, b < 256 → CpB w0 n k x c ps ms v bs l l2 wr → Calls Try.prog 35 #[.pointer (some ⟨c, 0, none⟩), .int .u64 2, .int .u8 (b : Nat), .pointer (some ⟨x, 0, none⟩)] wr fun e w' => ∃ r : Int, e = .returned (.int .i64 r) ∧ ∃ l3, CpB w0 n k x c ps ms v bs l l3 w') := fun b l2 wr hb h => cpB_set h b hb
      have FK : Hid (∀ b l2 wr, b < 256 → b ∈ bs → CpB w0 n k x c ps ms v bs l l2 wr → Calls Try.prog 45 #[.pointer (some ⟨n, 0, none⟩), .int .u8 (b : Nat)] wr fun e w' => e = .returned (.pointer (some ⟨k, 0, none⟩)) ∧ ∃ m, w' = wr.drewN m) := fun b l2 wr hb hm h => cpB_kid h b hb hm
      have hpn := ptr_neq
      go_loopw [82] (fun vi wr => ∃ (i : Nat) (l2 : KV), vi = .int .i64 (i : Nat) ∧ i ≤ bs.length ∧ Hid (CpB w0 n k x c ps ms v bs l l2 wr)) (fun vi _ => (bs.length - intOf vi).toNat)
      case atStart => exact ⟨0, l, rfl, by omega, q5⟩
      case round =>
        obtain ⟨i, l2, rfl, hi, hs2⟩ := hrel
        by_cases hlt : i < bs.length
        · have hlt2 : (i : Int) < (bs.length : Nat) := by omega
          obtain ⟨p, rfl, hp⟩ := HB.out.read hs2.out.old hlt
          have hum : Hid (bs.getD i 0 ∈ bs) := by show _ ∈ _; simp only [List.getD, List.getElem?_eq_getElem hlt, Option.getD_some]; exact List.getElem_mem _
          have hu := HB.out.1 _ hum.out
          have hw9 : IntKind.i64.wrap (((i : Nat) : Int) + 1) = ((i : Nat) : Int) + 1 := IntWalk.i64_in _ (by omega)
          have hD := Lib.hid (FD.out _ l2 wr hu hs2.out)
          have hS := Lib.hid (FS.out _ l2 wr hu hs2.out)
          have hK := Lib.hid (fun l3 w' h => FK.out _ l3 w' hu hum.out h)
          generalize bs.getD i 0 = u at *
          by_cases hev : i % 2 = 0
          · have hr1 : (i : Int).tmod 2 = 0 := by rw [Int.tmod_eq_emod_of_nonneg (by omega)]; omega
            clear hev
            go_wp2_with (first | (go_at_call 41; refine hD.out.mono ?_; rintro e w6 ⟨r, rfl, l3, q6⟩; have hk6 := Lib.hid (hK.out _ _ q6); have q6 := Lib.hid q6) | (go_at_call 45; refine hk6.out.mono ?_; rintro e w' ⟨rfl, m, rfl⟩; have q7 := Lib.hid (q6.out.drewN m)))
            go_roundw
            case rel => exact ⟨i + 1, l3, (by first | rfl | go_num), by omega, q7⟩
            case measure => (simp [intOf]) <;> omega
          · have hr1 : (i : Int).tmod 2 = 1 := by rw [Int.tmod_eq_emod_of_nonneg (by omega)]; omega
            clear hev
            go_wp2_with (first | (go_at_call 35; refine hS.out.mono ?_; rintro e w6 ⟨r, rfl, l3, q6⟩; have hk6 := Lib.hid (hK.out _ _ q6); have q6 := Lib.hid q6) | (go_at_call 45; refine hk6.out.mono ?_; rintro e w' ⟨rfl, m, rfl⟩; have q7 := Lib.hid (q6.out.drewN m)))
            go_roundw
            case rel => exact ⟨i + 1, l3, (by first | rfl | go_num), by omega, q7⟩
            case measure => (simp [intOf]) <;> omega
        · obtain rfl : i = bs.length := by omega
          have hlt2 : ¬ ((bs.length : Nat) : Int) < (bs.length : Nat) := by omega
          have hsv := Lib.hid (cpB_setval hs2.out)
          clear hlt FD FS FK hpn
          go_wp2_with (first | (go_at_call 34; refine hsv.out.mono ?_; rintro e w6 ⟨rfl, q6⟩; have C1 := Lib.hid (cpC_setpart q6 hj0.out)) | (go_at_call 39; refine C1.out.mono ?_; rintro e w7 ⟨rfl, q7⟩; have C2 := Lib.hid (cpC_valN q7); have C3 := Lib.hid (cpC_partN q7 hi0.out)) | (go_at_call 37; refine C2.out.mono ?_; rintro e w' ⟨rfl, rfl⟩) | (go_at_call 43; refine C3.out.mono ?_; rintro e w8 ⟨pa, pc, rfl, q8, C4⟩; have C4 := Lib.hid C4; clear q8) | (go_at_call 42; refine C4.out.mono ?_; rintro e w' ⟨rfl, m, rfl, q9⟩; have C5 := Lib.hid (cpC_lenC q9); have q9 := Lib.hid q9) | (go_at_call 38; refine C5.out.mono ?_; rintro e w' ⟨rfl, rfl⟩))
          clear C5
          have FD : Hid (∀ i wr, i < bs.length → CpC w0 n k x c ps ms ms v bs l2 i wr → Calls Try.prog 41 #[.pointer (some ⟨n, 0, none⟩), .int .u64 1, .int .u8 (bs.getD i 0 : Nat)] wr fun e w' => ∃ r : Int, e = .returned (.int .i64 r) ∧ CpC w0 n k x c ps ms ms v bs l2 (i + 1) w') := fun i wr hi h => cpC_drop h hi HB.out.1
          have hAl : Hid (∀ wr, Below w0.heap.size w0 wr → Calls Try.prog 36 #[] wr (LawPost w)) := (FzC.of (o := 0) (oth := 0) (b := 0) (by omega) hw.out hi0.out (Or.inl rfl) 0 0 true 0 (.pointer none)).calive
          go_loopw [126] (fun vi wr => ∃ i : Nat, vi = .int .i64 (i : Nat) ∧ i ≤ bs.length ∧ Hid (CpC w0 n k x c ps ms ms v bs l2 i wr)) (fun vi _ => (bs.length - intOf vi).toNat)
          case atStart => exact ⟨0, rfl, by omega, q9⟩
          case round =>
            obtain ⟨i, rfl, hi, hs3⟩ := hrel
            by_cases hlt : i < bs.length
            · have hlt2 : (i : Int) < (bs.length : Nat) := by omega
              obtain ⟨p, rfl, hp⟩ := HB.out.read hs3.out.old hlt
              have hD := Lib.hid (FD.out i wr hlt hs3.out)
              have hw9 : IntKind.i64.wrap (((i : Nat) : Int) + 1) = ((i : Nat) : Int) + 1 := IntWalk.i64_in _ (by omega)
              generalize bs.getD i 0 = u at *
              go_wp2_with (go_at_call 41; refine hD.out.mono ?_; rintro e w10 ⟨r, rfl, q10⟩; have q10 := Lib.hid q10)
              go_roundw
              case rel => exact ⟨i + 1, (by first | rfl | go_num), by omega, q10⟩
              case measure => (simp [intOf]) <;> omega
            · obtain rfl : i = bs.length := by omega
              have hlt2 : ¬ ((bs.length : Nat) : Int) < (bs.length : Nat) := by omega
              have D1 := Lib.hid (cpC_valC hs3.out)
              have D2 := Lib.hid (cpC_lenN hs3.out)
              have D3 := Lib.hid (cpC_lenC hs3.out)
              have D4 := Lib.hid (cpC_partC hs3.out hj0.out)
              clear hlt FD
              go_wp2_with (first | (go_at_call 37; refine D1.out.mono ?_; rintro e w' ⟨rfl, rfl⟩) | (go_at_call 38; refine g1.out.mono ?_; rintro e w' ⟨rfl, rfl⟩) | (go_at_call 38; refine D2.out.mono ?_; rintro e w' ⟨rfl, rfl⟩; have g1 := D3) | (go_at_call 43; refine D4.out.mono ?_; rintro e w11 ⟨qa, qc, rfl, q11, D5⟩; have D5 := Lib.hid D5; clear q11) | (go_at_call 42; refine D5.out.mono ?_; rintro e w' ⟨rfl, m2, rfl, q12⟩; have q12 := Lib.hid q12) | (go_at_call 36; refine (hAl.out _ q12.out.old).mono ?_; rintro e w' ⟨rfl, q13⟩; have q13 := Lib.hid q13))
              go_ret
              exact ⟨rfl, q13.out⟩
end Go.Proofs.Ythifjldmhfpkhaa
