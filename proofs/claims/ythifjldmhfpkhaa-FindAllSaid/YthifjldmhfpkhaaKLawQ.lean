/- The statement KidsOrder: its walk. -/
import Derived.Test.YthifjldmhfpkhaaKLawP
import Derived.StillTailTactics
set_option linter.unusedVariables false
set_option linter.unusedSimpArgs false
namespace Go.Proofs.Ythifjldmhfpkhaa
open Go.RowKit
/-- the bytes that a slice has ahead -/
def BytesAt (w : World) (a : Option Addr) (bs : List Nat) : Prop := (∀ x ∈ bs, x < 256) ∧ ∀ i, i < bs.length → ∃ p : Addr, a = some p ∧ (p.add i).block < w.heap.size ∧ w.cell? (p.add i) = some (.int .u8 (bs.getD i 0 : Nat))
theorem BytesAt.read {w wr : World} {a : Option Addr} {bs : List Nat} (h : BytesAt w a bs) (hb : Below w.heap.size w wr) {i : Nat} (hi : i < bs.length) : ∃ p : Addr, a = some p ∧ wr.cell? (p.add i) = some (.int .u8 (bs.getD i 0 : Nat)) := by
  obtain ⟨p, rfl, h1, h2⟩ := h.2 i hi
  exact ⟨p, rfl, (hb.cell (p := p.add i) h1).trans h2⟩
set_option maxHeartbeats 2000000 in
set_option maxRecDepth 100000 in
theorem KidsOrder_any (a0 : Option Addr) (n0 c0 : Nat) (a1 : Option Addr) (n1 c1 : Nat) (bs ms : List Nat) (w : World) (hn0 : bs.length = min n0 300) (hn1 : ms.length = min n1 300) (hc0 : n0 ≤ c0) (hc1 : n1 ≤ c1) (hm0 : c0 ≤ maxLen) (hm1 : c1 ≤ maxLen) (hb : BytesAt w a0 bs) (hm : BytesAt w a1 ms) :
    Calls Try.prog 4 #[.slice a0 n0 c0, .slice a1 n1 c1] w (LawPost w) := by
  have hal := Lib.hid (fun w => alive_any w)
  have hnew := Lib.hid (so_new w w (Below.refl _ w))
  have hnew2 : Hid (∀ wr a la, Solo w wr a la → Calls Try.prog 18 #[] wr fun e w' => ∃ b, e = .returned (.pointer (some ⟨b, 0, none⟩)) ∧ Two w w' a la b []) := fun wr a la h => two_new h
  have HB := Lib.hid hb
  have HM := Lib.hid hm
  have L0 := Lib.hid hn0
  have L1 := Lib.hid hn1
  clear hb hm hn0 hn1
  go_enter Try.func4, Try.ntmps4
  go_wp2_with (first | (go_at_call 18; refine (hnew2.out _ _ _ q.out).mono ?_; rintro e w2 ⟨b, rfl, q2⟩; have q2 := Lib.hid q2) | (go_at_call 18; refine hnew.out.mono ?_; rintro e w1 ⟨a, rfl, q⟩; have q := Lib.hid q))
  go_quiet (fail)
  have e0 : (if 300 < (n0 : Int) then (300 : Int) else (n0 : Int)) = (bs.length : Nat) := by have := L0.out; split <;> omega
  have e1 : (if 300 < (n1 : Int) then (300 : Int) else (n1 : Int)) = (ms.length : Nat) := by have := L1.out; split <;> omega
  rw [e0, e1]
  simp only [Int.toNat_natCast]
  have hlen0 : bs.length ≤ 300 := by have := L0.out; omega
  have hlen1 : ms.length ≤ 300 := by have := L1.out; omega
  clear e0 e1
  have hs0 : Hid (O1 w a b bs 0 (w2.drewN nq)) := ⟨[], [], q2.out.drewN nq, Tells.nil.congr (oT_zero bs), Tells.nil.congr (oD_zero bs)⟩
  have FA : Hid (∀ i wr, i < bs.length → O1 w a b bs i wr → Calls Try.prog 19 #[.pointer (some ⟨a, 0, none⟩), .int .u8 (bs.getD i 0 : Nat), .int .i64 (bs.getD i 0 : Nat)] wr fun e w' => e = .returned (.int .i64 0) ∧ O1m w a b bs i w') := fun i wr hi h => o1_seta h hi HB.out.1
  have FB : Hid (∀ i wr, i < bs.length → O1m w a b bs i wr → Calls Try.prog 19 #[.pointer (some ⟨b, 0, none⟩), .int .u8 (bs.getD (bs.length - 1 - i) 0 : Nat), .int .i64 (bs.getD (bs.length - 1 - i) 0 : Nat)] wr fun e w' => e = .returned (.int .i64 0) ∧ O1 w a b bs (i + 1) w') := fun i wr hi h => o1_setb h hi HB.out.1
  go_wp2_with fail
  go_loopw [48] (fun vi wr => ∃ i : Nat, vi = .int .i64 (i : Nat) ∧ i ≤ bs.length ∧ Hid (O1 w a b bs i wr)) (fun vi _ => (bs.length - intOf vi).toNat)
  case atStart => exact ⟨0, rfl, by omega, hs0⟩
  case round =>
    obtain ⟨i, rfl, hi, hs⟩ := hrel
    by_cases hlt : i < bs.length
    · have hlt2 : (i : Int) < (bs.length : Nat) := by omega
      obtain ⟨p, rfl, hp1⟩ := HB.out.read hs.out.below hlt
      have hi2 : bs.length - 1 - i < bs.length := by omega
      have hB2 : ∀ w', O1m w a b bs i w' → w'.cell? (p.add (bs.length - 1 - i)) = some (.int .u8 (bs.getD (bs.length - 1 - i) 0 : Nat)) := fun w' h => by
        obtain ⟨p', hp, hc⟩ := HB.out.read h.below hi2
        obtain rfl : p = p' := by simpa using hp
        exact hc
      have hA : Hid (Calls Try.prog 19 #[.pointer (some ⟨a, 0, none⟩), .int .u8 (bs.getD i 0 : Nat), .int .i64 (bs.getD i 0 : Nat)] wr.drew fun e w' => e = .returned (.int .i64 0) ∧ O1m w a b bs i w') := FA.out i wr.drew hlt (hs.out.drewN 1)
      have hC : Hid (∀ w', O1m w a b bs i w' → Calls Try.prog 19 #[.pointer (some ⟨b, 0, none⟩), .int .u8 (bs.getD (bs.length - 1 - i) 0 : Nat), .int .i64 (bs.getD (bs.length - 1 - i) 0 : Nat)] w'.drew fun e w' => e = .returned (.int .i64 0) ∧ O1 w a b bs (i + 1) w') := fun w' h => FB.out i w'.drew hlt (h.drewN 1)
      have hx1 : bs.getD i 0 < 256 := HB.out.1 (bs.getD i 0) (by simp [List.getD, hlt])
      have hx2 : bs.getD (bs.length - 1 - i) 0 < 256 := HB.out.1 (bs.getD (bs.length - 1 - i) 0) (by simp only [List.getD, List.getElem?_eq_getElem hi2, Option.getD_some]; exact List.getElem_mem _)
      generalize bs.getD i 0 = v at *
      generalize bs.getD (bs.length - 1 - i) 0 = u at *
      have hw8 : IntKind.i64.wrap ((v : Nat) : Int) = (v : Nat) := IntWalk.i64_in _ (by omega)
      have hw7 : IntKind.i64.wrap ((u : Nat) : Int) = (u : Nat) := IntWalk.i64_in _ (by omega)
      have hw1 : IntKind.i64.wrap ((bs.length : Nat) - 1 : Int) = (bs.length : Nat) - 1 := IntWalk.i64_in _ (by omega)
      have hw2 : IntKind.i64.wrap ((bs.length : Nat) - 1 - (i : Nat) : Int) = (bs.length - 1 - i : Nat) := by rw [IntWalk.i64_in _ (by omega)]; omega
      have hw9 : IntKind.i64.wrap (((i : Nat) : Int) + 1) = ((i : Nat) : Int) + 1 := IntWalk.i64_in _ (by omega)
      have HB2 := Lib.hid hB2
      clear hB2
      go_wp2_with fail
      go_still_tail 10, (by kernel_rfl)
      change wpList _ _ _ _ _ wr.drew
      go_wp2_with (go_at_call 19; refine hA.out.mono ?_; rintro e w3 ⟨rfl, q3⟩; have hp2 := HB2.out _ q3; have q3 := Lib.hid q3)
      have hC3 := Lib.hid (hC.out _ q3.out)
      go_still_tail 18, (by kernel_rfl)
      change wpList _ _ _ _ _ w3.drew
      go_wp2_with (go_at_call 19; refine hC3.out.mono ?_; rintro e w4 ⟨rfl, q4⟩; have q4 := Lib.hid q4)
      go_roundw
      case rel => exact ⟨i + 1, (by first | rfl | go_num), by omega, q4⟩
      case measure => (simp [intOf]) <;> omega
    · have hlt2 : ¬ (i : Int) < (bs.length : Nat) := by omega
      obtain rfl : i = bs.length := by omega
      clear FA FB
      have FC : Hid (∀ wr, O1 w a b bs bs.length wr → Calls Try.prog 20 #[.pointer (some ⟨b, 0, none⟩)] wr fun e w' => ∃ c, e = .returned (.pointer (some ⟨c, 0, none⟩)) ∧ O2 w a b c bs ms 0 w') := fun wr h => o1_copy h
      go_wp2_with (go_at_call 20; refine (FC.out _ hs.out).mono ?_; rintro e w5 ⟨c, rfl, q5⟩; have q5 := Lib.hid q5)
      go_loopw [86] (fun vi wr => ∃ i : Nat, vi = .int .i64 (i : Nat) ∧ i ≤ ms.length ∧ Hid (O2 w a b c bs ms i wr)) (fun vi _ => (ms.length - intOf vi).toNat)
      case atStart => exact ⟨0, rfl, by omega, q5⟩
      case round =>
        obtain ⟨i, rfl, hi, hs⟩ := hrel
        by_cases hlt : i < ms.length
        · have hlt2 : (i : Int) < (ms.length : Nat) := by omega
          obtain ⟨p, rfl, hp1⟩ := HM.out.read hs.out.below hlt
          have hx1 : ms.getD i 0 < 256 := HM.out.1 (ms.getD i 0) (by simp [List.getD, hlt])
          have hA : Hid (Calls Try.prog 19 #[.pointer (some ⟨c, 0, none⟩), .int .u8 (ms.getD i 0 : Nat), .int .i64 (-1)] wr fun e w' => e = .returned (.int .i64 0) ∧ O2 w a b c bs ms i w') := o2_setc hs.out _ hx1
          have hw9 : IntKind.i64.wrap (((i : Nat) : Int) + 1) = ((i : Nat) : Int) + 1 := IntWalk.i64_in _ (by omega)
          by_cases hx : ms.getD i 0 ∈ bs
          · have hG : Hid (∀ w', O2 w a b c bs ms i w' → Calls Try.prog 21 #[.pointer (some ⟨a, 0, none⟩), .int .u8 (ms.getD i 0 : Nat)] w' fun e w'' => e = .returned (.tuple #[.int .i64 (ms.getD i 0 : Nat), .bool true]) ∧ ∃ n, w'' = w'.drewN n) := fun w' h => by
              have := o2_get h _ hx1
              rw [if_pos hx] at this
              exact this
            have hS : Hid (∀ w', O2 w a b c bs ms i w' → O2 w a b c bs ms (i + 1) w') := fun w' h => o2_skip h hlt hx
            generalize ms.getD i 0 = v at *
            clear hx
            go_wp2_with (first | (go_at_call 19; refine hA.out.mono ?_; rintro e w3 ⟨rfl, q3⟩; have q3 := Lib.hid q3) | (go_at_call 21; refine (hG.out _ q3.out).mono ?_; rintro e w4 ⟨rfl, nd, rfl⟩))
            go_roundw
            case rel => exact ⟨i + 1, (by first | rfl | go_num), by omega, (hS.out _ q3.out).drewN nd⟩
            case measure => (simp [intOf]) <;> omega
          · have hG : Hid (∀ w', O2 w a b c bs ms i w' → Calls Try.prog 21 #[.pointer (some ⟨a, 0, none⟩), .int .u8 (ms.getD i 0 : Nat)] w' fun e w'' => e = .returned (.tuple #[.int .i64 0, .bool false]) ∧ ∃ n, w'' = w'.drewN n) := fun w' h => by
              have := o2_get h _ hx1
              rw [if_neg hx] at this
              exact this
            have hS : Hid (∀ w', O2 w a b c bs ms i w' → Calls Try.prog 19 #[.pointer (some ⟨b, 0, none⟩), .int .u8 (ms.getD i 0 : Nat), .int .i64 7] w' fun e w' => e = .returned (.int .i64 0) ∧ O2 w a b c bs ms (i + 1) w') := fun w' h => o2_setb h hlt HM.out.1 hx
            generalize ms.getD i 0 = v at *
            clear hx
            go_wp2_with (first | (go_at_call 19; refine (hS.out _ q4.out).mono ?_; rintro e w5 ⟨rfl, q5⟩; have q5 := Lib.hid q5) | (go_at_call 19; refine hA.out.mono ?_; rintro e w3 ⟨rfl, q3⟩; have q3 := Lib.hid q3) | (go_at_call 21; refine (hG.out _ q3.out).mono ?_; rintro e w4 ⟨rfl, nd, rfl⟩; have q4 := Lib.hid (q3.out.drewN nd)))
            go_roundw
            case rel => exact ⟨i + 1, (by first | rfl | go_num), by omega, q5⟩
            case measure => (simp [intOf]) <;> omega
        · have hlt2 : ¬ (i : Int) < (ms.length : Nat) := by omega
          obtain rfl : i = ms.length := by omega
          have hs3 : Hid (O3 w a b c bs ms 0 wr) := o2_end hs.out
          go_wp2_with fail
          go_loopw [107] (fun vi wr => ∃ i : Nat, vi = .int .i64 (i : Nat) ∧ i ≤ ms.length ∧ Hid (O3 w a b c bs ms i wr)) (fun vi _ => (ms.length - intOf vi).toNat)
          case atStart => exact ⟨0, rfl, by omega, hs3⟩
          case round =>
            clear hs3 hs hlt2 hlt hi
            obtain ⟨i, rfl, hi, hs⟩ := hrel
            by_cases hlt : i < ms.length
            · have hlt2 : (i : Int) < (ms.length : Nat) := by omega
              obtain ⟨p, rfl, hp1⟩ := HM.out.read hs.out.below hlt
              have hx1 : ms.getD i 0 < 256 := HM.out.1 (ms.getD i 0) (by simp [List.getD, hlt])
              have hw9 : IntKind.i64.wrap (((i : Nat) : Int) + 1) = ((i : Nat) : Int) + 1 := IntWalk.i64_in _ (by omega)
              have hD : Hid (∀ w', O3 w a b c bs ms (i + 1) w' → Calls Try.prog 22 #[.pointer (some ⟨c, 0, none⟩), .int .u8 (ms.getD i 0 : Nat)] w' fun e w' => (∃ v, e = .returned (.int .i64 v)) ∧ O3 w a b c bs ms (i + 1) w') := fun w' h => o3_dropc h _ hx1
              by_cases hx : ms.getD i 0 ∈ bs
              · have hG : Hid (∀ w', O3 w a b c bs ms i w' → Calls Try.prog 21 #[.pointer (some ⟨a, 0, none⟩), .int .u8 (ms.getD i 0 : Nat)] w' fun e w'' => e = .returned (.tuple #[.int .i64 (ms.getD i 0 : Nat), .bool true]) ∧ ∃ n, w'' = w'.drewN n) := fun w' h => by
                  have := o3_get h _ hx1
                  rw [if_pos hx] at this
                  exact this
                have hS : Hid (∀ w', O3 w a b c bs ms i w' → O3 w a b c bs ms (i + 1) w') := fun w' h => o3_skip h hlt hx
                generalize ms.getD i 0 = v at *
                clear hx
                go_wp2_with (first | (go_at_call 22; refine (hD.out _ q4.out).mono ?_; rintro e w3 ⟨⟨z, rfl⟩, q3⟩; have q3 := Lib.hid q3) | (go_at_call 21; refine (hG.out _ hs.out).mono ?_; rintro e w4 ⟨rfl, nd, rfl⟩; have q4 := Lib.hid ((hS.out _ hs.out).drewN nd)))
                go_roundw
                case rel => exact ⟨i + 1, (by first | rfl | go_num), by omega, q3⟩
                case measure => (simp [intOf]) <;> omega
              · have hG : Hid (∀ w', O3 w a b c bs ms i w' → Calls Try.prog 21 #[.pointer (some ⟨a, 0, none⟩), .int .u8 (ms.getD i 0 : Nat)] w' fun e w'' => e = .returned (.tuple #[.int .i64 0, .bool false]) ∧ ∃ n, w'' = w'.drewN n) := fun w' h => by
                  have := o3_get h _ hx1
                  rw [if_neg hx] at this
                  exact this
                have hS : Hid (∀ w', O3 w a b c bs ms i w' → Calls Try.prog 22 #[.pointer (some ⟨b, 0, none⟩), .int .u8 (ms.getD i 0 : Nat)] w' fun e w' => (∃ v, e = .returned (.int .i64 v)) ∧ O3 w a b c bs ms (i + 1) w') := fun w' h => o3_dropb h hlt HM.out.1 hx
                generalize ms.getD i 0 = v at *
                clear hx
                go_wp2_with (first | (go_at_call 22; refine (hD.out _ q5.out).mono ?_; rintro e w3 ⟨⟨z, rfl⟩, q3⟩; have q3 := Lib.hid q3) | (go_at_call 22; refine (hS.out _ q4.out).mono ?_; rintro e w5 ⟨⟨z0, rfl⟩, q5⟩; have q5 := Lib.hid q5) | (go_at_call 21; refine (hG.out _ hs.out).mono ?_; rintro e w4 ⟨rfl, nd, rfl⟩; have q4 := Lib.hid (hs.out.drewN nd)))
                go_roundw
                case rel => exact ⟨i + 1, (by first | rfl | go_num), by omega, q3⟩
                case measure => (simp [intOf]) <;> omega
            · have hlt2 : ¬ (i : Int) < (ms.length : Nat) := by omega
              obtain rfl : i = ms.length := by omega
              obtain ⟨l, ht, hT⟩ := o3_end hs.out
              have ht := Lib.hid ht
              have hT := Lib.hid hT
              go_wp2_with fail
              go_loopw [126] (fun vi wr => ∃ x : Nat, vi = .int .i64 (x : Nat) ∧ x ≤ 256 ∧ Hid (Two w wr a l b l)) (fun vi _ => (256 - intOf vi).toNat)
              case atStart => exact ⟨0, rfl, by omega, ht⟩
              case round =>
                clear ht hs hlt2 hlt hi
                obtain ⟨x, rfl, hx, ht⟩ := hrel
                by_cases hlt : x < 256
                · have hlt2 : (x : Int) < 256 := by omega
                  have hw8 : IntKind.u8.wrap ((x : Nat) : Int) = (x : Nat) := IntWalk.u8_in _ (by omega)
                  have hw9 : IntKind.i64.wrap (((x : Nat) : Int) + 1) = ((x : Nat) : Int) + 1 := IntWalk.i64_in _ (by omega)
                  have hNa : Hid (∀ wr, Two w wr a l b l → Calls Try.prog 23 #[.pointer (some ⟨a, 0, none⟩), .int .i64 (x : Nat)] wr fun e w' => e = .returned (I.atV (knxt l (x : Nat))) ∧ ∃ n, w' = wr.drewN n) := fun wr h => so_next h.fst _ (by omega) (by omega)
                  have hNb : Hid (∀ wr, Two w wr a l b l → Calls Try.prog 23 #[.pointer (some ⟨b, 0, none⟩), .int .i64 (x : Nat)] wr fun e w' => e = .returned (I.atV (knxt l (x : Nat))) ∧ ∃ n, w' = wr.drewN n) := fun wr h => so_next h.swap.fst _ (by omega) (by omega)
                  have hN4 := atV_some l ht.out.fst.srt.2.2 (x : Nat)
                  have hGa0 : ∀ wr, Two w wr a l b l → Calls Try.prog 21 #[.pointer (some ⟨a, 0, none⟩), .int .u8 (x : Nat)] wr fun e w' => e = .returned (I.getV (kget l x)) ∧ ∃ n, w' = wr.drewN n := fun wr h => so_get h.fst x hlt
                  have hGb0 : ∀ wr, Two w wr a l b l → Calls Try.prog 21 #[.pointer (some ⟨b, 0, none⟩), .int .u8 (x : Nat)] wr fun e w' => e = .returned (I.getV (kget l x)) ∧ ∃ n, w' = wr.drewN n := fun wr h => so_get h.swap.fst x hlt
                  rw [get_oW hT.out] at hGa0 hGb0
                  by_cases hxb : x ∈ bs
                  · rw [if_pos hxb] at hGa0 hGb0
                    have hGa := Lib.hid hGa0
                    have hGb := Lib.hid hGb0
                    clear hGa0 hGb0 hxb hlt
                    rcases hN4 with hN | ⟨nc, nv, hN⟩
                    all_goals
                      have hN := Lib.hid hN
                      go_wp2_with (first | (go_at_call 21; refine (hGb.out _ ht1.out).mono ?_; rintro e w4 ⟨rfl, n2, rfl⟩; have ht2 := Lib.hid (ht.out.drewN (n1 + n2))) | (go_at_call 21; refine (hGa.out _ ht.out).mono ?_; rintro e w4 ⟨rfl, n1, rfl⟩; have ht1 := Lib.hid (ht.out.drewN n1)) | (go_at_call 23; refine (hNb.out _ ht3.out).mono ?_; rintro e w4 ⟨rfl, n4, rfl⟩; rw [hN.out]; have ht4 := Lib.hid (ht.out.drewN (n1 + n2 + n3 + n4))) | (go_at_call 23; refine (hNa.out _ ht2.out).mono ?_; rintro e w4 ⟨rfl, n3, rfl⟩; rw [hN.out]; have ht3 := Lib.hid (ht.out.drewN (n1 + n2 + n3))))
                      go_roundw
                      case rel => exact ⟨x + 1, (by first | rfl | go_num), by omega, ht4⟩
                      case measure => (simp [intOf]) <;> omega
                  · rw [if_neg hxb] at hGa0 hGb0
                    have hGa := Lib.hid hGa0
                    have hGb := Lib.hid hGb0
                    clear hGa0 hGb0 hxb hlt
                    rcases hN4 with hN | ⟨nc, nv, hN⟩
                    all_goals
                      have hN := Lib.hid hN
                      go_wp2_with (first | (go_at_call 21; refine (hGb.out _ ht1.out).mono ?_; rintro e w4 ⟨rfl, n2, rfl⟩; have ht2 := Lib.hid (ht.out.drewN (n1 + n2))) | (go_at_call 21; refine (hGa.out _ ht.out).mono ?_; rintro e w4 ⟨rfl, n1, rfl⟩; have ht1 := Lib.hid (ht.out.drewN n1)) | (go_at_call 23; refine (hNb.out _ ht3.out).mono ?_; rintro e w4 ⟨rfl, n4, rfl⟩; rw [hN.out]; have ht4 := Lib.hid (ht.out.drewN (n1 + n2 + n3 + n4))) | (go_at_call 23; refine (hNa.out _ ht2.out).mono ?_; rintro e w4 ⟨rfl, n3, rfl⟩; rw [hN.out]; have ht3 := Lib.hid (ht.out.drewN (n1 + n2 + n3))))
                      go_roundw
                      case rel => exact ⟨x + 1, (by first | rfl | go_num), by omega, ht4⟩
                      case measure => (simp [intOf]) <;> omega
                · obtain rfl : x = 256 := by omega
                  clear hlt
                  have hKa := Lib.hid (so_kind ht.out.fst)
                  have hLa := Lib.hid (so_len ht.out.fst)
                  go_wp2_with (first | (go_at_call 24; refine hKb.out.mono ?_; rintro e w4 ⟨rfl, rfl⟩) | (go_at_call 24; refine hKa.out.mono ?_; rintro e w4 ⟨rfl, rfl⟩; have hKb := Lib.hid (so_kind ht.out.swap.fst)) | (go_at_call 25; refine hLb.out.mono ?_; rintro e w4 ⟨rfl, rfl⟩) | (go_at_call 25; refine hLa.out.mono ?_; rintro e w4 ⟨rfl, rfl⟩; have hLb := Lib.hid (so_len ht.out.swap.fst)) | (go_at_call 17; refine (hal.out _).mono ?_; rintro e w6 ⟨rfl, q⟩; have q := Lib.hid q))
                  go_ret
                  exact ⟨rfl, ht.out.below.trans (q.out.mono ht.out.below.size)⟩
end Go.Proofs.Ythifjldmhfpkhaa
