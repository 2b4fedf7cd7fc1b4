/- The statement KidsPlays: its walk. -/
import Derived.Test.YthifjldmhfpkhaaKPl
set_option linter.unusedVariables false
set_option linter.unusedSimpArgs false
namespace Go.Proofs.Ythifjldmhfpkhaa
open Go.RowKit
structure StepD where
  d : Bool
  b : Nat
  m : Nat
  x : Int
def StepD.cells (s : StepD) : List Value := [.bool s.d, .int .u8 (s.b : Nat), .int .u8 (s.m : Nat), .int .i64 s.x]
/-- steps that came in -/
def StepsAt (w : World) (a : Option Addr) (m : Nat) : Prop := ∀ i, i < m → ∃ (pb po : Nat) (s : StepD), a = some ⟨pb, po, none⟩ ∧ pb < w.heap.size ∧ s.b < 256 ∧ s.m < 256 ∧ ∀ j, j < 4 → w.cell? ⟨pb, po + i * 4 + j, none⟩ = s.cells[j]?
theorem StepsAt.read {w wr : World} {a : Option Addr} {m i : Nat} (h : StepsAt w a m) (hb : Below w.heap.size w wr) (hi : i < m) : ∃ (pb po : Nat) (s : StepD), a = some ⟨pb, po, none⟩ ∧ s.b < 256 ∧ s.m < 256 ∧ wr.cell? ⟨pb, po + i * 4, none⟩ = some (.bool s.d) ∧ wr.cell? ⟨pb, po + i * 4 + 1, none⟩ = some (.int .u8 (s.b : Nat)) ∧ wr.cell? ⟨pb, po + i * 4 + 2, none⟩ = some (.int .u8 (s.m : Nat)) ∧ wr.cell? ⟨pb, po + i * 4 + 3, none⟩ = some (.int .i64 s.x) := by
  obtain ⟨pb, po, s, h1, h2, h3, h4, h5⟩ := h i hi
  have key : ∀ n, wr.cell? ⟨pb, n, none⟩ = w.cell? ⟨pb, n, none⟩ := fun n => hb.cell (p := ⟨pb, n, none⟩) h2
  exact ⟨pb, po, s, h1, h3, h4, by rw [key]; exact h5 0 (by omega), by rw [key]; exact h5 1 (by omega), by rw [key]; exact h5 2 (by omega), by rw [key]; exact h5 3 (by omega)⟩
set_option maxHeartbeats 12000000 in
set_option maxRecDepth 100000 in
theorem KidsPlays_any (a : Option Addr) (n c : Nat) (f : Int) (m : Nat) (w : World) (hlo : -9223372036854775808 ≤ f) (hhi : f ≤ 9223372036854775807) (hm : m = min n 30) (hc : n ≤ c) (hmx : c ≤ maxLen) (hst : StepsAt w a m) :
    Calls Try.prog 5 #[.slice a n c, .int .i64 f] w (LawPost w) := by
  have hal := Lib.hid (fun w => alive_any w)
  have hnew := Lib.hid (I.kd_new w)
  have hrn := Lib.hid (fun w => ref_new w)
  have hz := Lib.hid (rr_info [])
  have hzs : Hid (Try.zeroCells42.size = (rrA []).size) := by show _ = _; rw [rr_size]; exact zero_size
  have ho := Lib.hid (rr_one (l := []) (fun p hp => by simp at hp))
  have hAs : Hid (∀ k g l H wr, Pl w k g l l H wr → Calls Try.prog 27 #[.pointer (some ⟨k, 0, none⟩), .agg (rrA l), .int .i64 f] wr fun e w' => e = .returned (.bool true) ∧ Pl w k g l l H w') := fun k g l H wr q => pl_as q f hlo hhi
  have e1 : min (n : Int) 30 = (m : Nat) := by subst hm; omega
  have e2 : max ((m : Nat) : Int) 0 = (m : Nat) := by omega
  have e0 : (if (30 : Int) < (n : Int) then (30 : Int) else (n : Int)) = (m : Nat) := by subst hm; split <;> omega
  have hm30 : m ≤ 30 := by subst hm; omega
  have hle : m ≤ c := by omega
  have hle2 : (m : Int) ≤ (c : Int) := by omega
  have HST := Lib.hid hst
  clear hlo hhi hm hst
  go_enter Try.func5, Try.ntmps5
  go_upto_region 2 with (first | (go_at_call 18; refine hnew.out.mono ?_; rintro e w1 ⟨rfl, S, q1, qb, qS⟩; have hst := Lib.hid (fun w2 h z => Pl.start (w := w) (w2 := w2) q1 qb qS h z); clear q1 qb qS) | (go_at_call 26; refine (hrn.out _).mono ?_; rintro e w2 ⟨rfl, qb⟩; have hpl := Lib.hid (hst.out w2 qb Try.zeroCells42); have hbx := Lib.hid (heap_alloc_new w2 (.cells Try.zeroCells42 rrT)); clear qb hst) | (refine wpList_store_row rfl rrT (.tmp 6) (.tmp 16) rfl w2.heap.size (rrA []) rfl rfl rrT _ hbx.out hz.out hzs.out ho.out ?_))
  clear hbx hzs hnew hrn
  obtain ⟨w4, hw4⟩ : ∃ w4, Hid (w4 = (w2.alloc (.cells Try.zeroCells42 rrT)).setRow w2.heap.size (rrA [])) := ⟨_, rfl⟩
  change Code.wp _ _ _ _ ((w2.alloc (.cells Try.zeroCells42 rrT)).setRow w2.heap.size (rrA []))
  rw [← hw4.out] at hpl ⊢
  clear hw4
  generalize w2.heap.size = g at *
  generalize w.heap.size = k at *
  go_wp2_with fail
  refine wp_load_row rrT (.tmp 6) rfl g rfl rrT (rrA []) (0, 0) _ hpl.out.box Try.underlying42 rfl hz.out ?_
  go_wp2_with (first | (go_at_call 27; refine (hAs.out _ _ _ _ _ hpl.out).mono ?_; rintro e w3 ⟨rfl, q3⟩; have q3 := Lib.hid q3))
  clear e0 e1 e2 hle hle2
  go_loopw [32] (fun vi wr => ∃ (i : Nat) (l : KV), vi = .int .i64 (i : Nat) ∧ i ≤ m ∧ Hid (Pl w k g l l none wr)) (fun vi _ => (m - intOf vi).toNat)
  case atStart => exact ⟨0, [], rfl, by omega, q3⟩
  case round =>
    obtain ⟨i, l, rfl, hi, hs⟩ := hrel
    by_cases hlt : i < m
    · have hlt2 : (i : Int) < (m : Nat) := by omega
      obtain ⟨pb, po, s, rfl, hsb, hsm, y0, y1, y2, y3⟩ := HST.out.read hs.out.old hlt
      go_wp2_with fail
      have q0 := Lib.hid (hs.out.hold s.cells)
      change Code.wp _ _ _ _ (wr.alloc (.cells s.cells.toArray stT))
      generalize wr.alloc (.cells s.cells.toArray stT) = w5 at *
      generalize wr.heap.size = h at *
      clear y0 y1 y2 y3
      obtain ⟨M, hM⟩ : ∃ M : Nat, M = s.m % 70 + 1 := ⟨_, rfl⟩
      have hM2 : (s.m : Int) % 70 + 1 = (M : Nat) := by omega
      have hM3 : M ≤ 70 := by omega
      rw [hM2]
      clear hM2 hM
      go_loopw [41] (fun vj wr2 => ∃ (j : Nat) (l2 : KV), vj = .int .i64 (j : Nat) ∧ j ≤ M ∧ Hid (Pl w k g l2 l2 (some (h, s.cells)) wr2)) (fun vj _ => (M - intOf vj).toNat)
      case atStart => exact ⟨0, l, rfl, by omega, q0⟩
      case round =>
        obtain ⟨j, l2, rfl, hj, hs2⟩ := hrel
        by_cases hlt3 : j < M
        · have hlt4 : (j : Int) < (M : Nat) := by omega
          have d0 : wr.cell? ⟨h, 0, none⟩ = some (.bool s.d) := hs2.out.step 0
          have d1 : wr.cell? ⟨h, 1, none⟩ = some (.int .u8 (s.b : Nat)) := hs2.out.step 1
          have d3 : wr.cell? ⟨h, 3, none⟩ = some (.int .i64 s.x) := hs2.out.step 3
          obtain ⟨b, hbI⟩ : ∃ b : Nat, ((s.b : Int) + (j : Int)) % 256 = (b : Nat) := ⟨(s.b + j) % 256, by omega⟩
          have hb : b < 256 := by omega
          have hb1 : (b : Int) < 256 := by omega
          go_upto_region 11 with fail
          rw [hbI]
          clear hbI
          have hz2 := Lib.hid (rr_info l2)
          rcases Bool.eq_false_or_eq_true s.d with hd | hd
          · rw [hd] at d0
            clear hd
            have hzL := Lib.hid (rr_info (kdel l2 b))
            have hzl : Hid ((Try.prog.info? rrT).map (·.size) = some (rrL 256 (rrF (kdel l2 b)) (rrG (kdel l2 b))).length) := by show _ = _; rw [rrL_len]; exact rrSz
            have hzs : Hid ((rrA l2).size = (rrA (kdel l2 b)).size) := by show _ = _; rw [rr_size, rr_size]
            have hSl := Lib.hid hs2.out.srt
            have ho := Lib.hid (rr_one (I.Vals.del hSl.out.2.2 b))
            obtain ⟨cD, hcD⟩ : ∃ cD : Int, (if has l2 b then (0 : Int) else 6) = cD := ⟨_, rfl⟩
            have hD := pl_drop hs2.out b hb
            have hRD := fun w => ref_drop hSl.out.1 hSl.out.2.1 hSl.out.2.2 b hb w
            rw [hcD] at hD hRD
            replace hD := Lib.hid hD
            replace hRD := Lib.hid hRD
            clear hcD
            go_upto_region 17 with (first | (go_at_call 22; refine hD.out.mono ?_; rintro e w6 ⟨rfl, q6⟩; have q6 := Lib.hid q6) | (refine wpList_load_row rfl rrT (.tmp 6) rfl g rfl rrT (rrA l2) (0, 0) _ q6.out.box Try.underlying42 rfl hz2.out ?_) | (go_at_call 28; refine (hRD.out _).mono ?_; rintro e w7 ⟨rfl, qb⟩; have q7 := Lib.hid (q6.out.below qb); clear qb) | (refine wpList_store_row rfl rrT (.tmp 6) (.tmp 58) rfl g (rrA (kdel l2 b)) rfl rfl rrT (rrA l2) q7.out.box hzL.out hzs.out ho.out ?_))
            clear hD hRD ho d0 d1 d3
            have hSL := Lib.hid q7.out.srt
            have hLen : Hid ((kdel l2 b).length ≤ 256) := len256 hSL.out.1 hSL.out.2.1
            have q8 := Lib.hid (q7.out.store (kdel l2 b))
            change Code.wp _ _ _ _ (w7.setRow g (rrA (kdel l2 b)))
            generalize w7.setRow g (rrA (kdel l2 b)) = w8 at *
            obtain ⟨x, s2, hA, hF, hG⟩ := getV_form hSL.out.2.2 b
            have hGet : Hid (Calls Try.prog 21 #[.pointer (some ⟨k, 0, none⟩), .int .u8 (b : Nat)] w8 fun e w' => e = .returned (.tuple #[.int .i64 x, .bool s2]) ∧ ∃ n, w' = w8.drewN n) := by show Calls _ _ _ _ _; rw [← hA]; exact pl_get q8.out b hb
            have hSof : Hid (∀ wr, Pl w k g (kdel l2 b) (kdel l2 b) (some (h, s.cells)) wr → Pl w k g (kdel l2 b) (kdel l2 b) (some (h, s.cells)) wr ∧ wr.cell? ⟨g, 1 + b, none⟩ = some (.bool s2) ∧ wr.cell? ⟨g, 257 + b, none⟩ = some (.int .i64 x)) := fun wr q => ⟨q, by rw [q.cF hb, hF], by rw [q.cG hb, hG]⟩
            clear hA hF hG hzL hzs hSl q7
            go_wp2_with (go_at_call 21; refine hGet.out.mono ?_; rintro e w' ⟨rfl, nd, rfl⟩)
            have q9 := Lib.hid (q8.out.drewN nd)
            clear hGet q8
            generalize w8.drewN nd = w9 at *
            have hw8 : IntKind.i64.wrap ((b : Nat) : Int) = (b : Nat) := IntWalk.i64_in _ (by omega)
            refine wp_region_noPanic ?_
            refine wp_region_held_drew (S := fun wr => Pl w k g (kdel l2 b) (kdel l2 b) (some (h, s.cells)) wr ∧ wr.cell? ⟨g, 1 + b, none⟩ = some (.bool s2) ∧ wr.cell? ⟨g, 257 + b, none⟩ = some (.int .i64 x)) (by kernel_rfl) ?_ (fun hHeld => ?_)
            · exact hSof.out _ (q9.out.drewN 1)
            clear q9
            refine wpAnyH_take (i := 0) (oi := ⟨some 87, _, _, _, _, _⟩) (v := ?_) rfl (by kernel_rfl) (by kernel_rfl) (by kernel_rfl) (fun _ _ _ h => h) (Or.inl ⟨by rfl, ?_⟩) (by assumption) ?_
            rotate_left
            · (intro w hSw; (try dsimp only at hSw); go_simp) <;> with_reducible rfl
            (try simp only [Act.put, List.setIfInBounds_toArray, List.set_cons_zero, List.set_cons_succ])
            refine wpAnyH_take (i := 1) (oi := ⟨some 88, _, _, _, _, _⟩) (v := ?_) rfl (by kernel_rfl) (by kernel_rfl) (by kernel_rfl) (fun _ _ _ h => h) (Or.inl ⟨by rfl, ?_⟩) (by assumption) ?_
            rotate_left
            · (intro w hSw; (try dsimp only at hSw); go_simp) <;> with_reducible rfl
            (try simp only [Act.put, List.setIfInBounds_toArray, List.set_cons_zero, List.set_cons_succ])
            refine wpAnyH_take (i := 2) (oi := ⟨some 89, _, _, _, _, _⟩) (v := ?_) rfl (by kernel_rfl) (by kernel_rfl) (by kernel_rfl) (fun _ _ _ h => h) (Or.inl ⟨by rfl, ?_⟩) (by assumption) ?_
            rotate_left
            · (intro w hSw; (try dsimp only at hSw); go_simp) <;> with_reducible rfl
            (try simp only [Act.put, List.setIfInBounds_toArray, List.set_cons_zero, List.set_cons_succ])
            refine wpAnyH_take (i := 3) (oi := ⟨some 90, _, _, _, _, _⟩) (v := ?_) rfl (by kernel_rfl) (by kernel_rfl) (by kernel_rfl) (fun _ _ _ h => h) (Or.inl ⟨by rfl, ?_⟩) (by assumption) ?_
            rotate_left
            · (intro w hSw; (try dsimp only at hSw); go_simp) <;> with_reducible rfl
            (try simp only [Act.put, List.setIfInBounds_toArray, List.set_cons_zero, List.set_cons_succ])
            refine wpAnyH_take (i := 4) (oi := ⟨some 91, _, _, _, _, _⟩) (v := ?_) rfl (by kernel_rfl) (by kernel_rfl) (by kernel_rfl) (fun _ _ _ h => h) (Or.inl ⟨by rfl, ?_⟩) (by assumption) ?_
            rotate_left
            · (intro w hSw; (try dsimp only at hSw); go_simp) <;> with_reducible rfl
            (try simp only [Act.put, List.setIfInBounds_toArray, List.set_cons_zero, List.set_cons_succ])
            refine wpAnyH_take (i := 5) (oi := ⟨some 92, _, _, _, _, _⟩) (v := ?_) rfl (by kernel_rfl) (by kernel_rfl) (by kernel_rfl) (fun _ _ _ h => h) (Or.inl ⟨by rfl, ?_⟩) (by assumption) ?_
            rotate_left
            · (intro w hSw; (try dsimp only at hSw); go_simp) <;> with_reducible rfl
            (try simp only [Act.put, List.setIfInBounds_toArray, List.set_cons_zero, List.set_cons_succ])
            refine wpAnyH_take (i := 6) (oi := ⟨some 93, _, _, _, _, _⟩) (v := ?_) rfl (by kernel_rfl) (by kernel_rfl) (by kernel_rfl) (fun _ _ _ h => h) (Or.inl ⟨by rfl, ?_⟩) (by assumption) ?_
            rotate_left
            · (intro w hSw; (try dsimp only at hSw); go_simp) <;> with_reducible rfl
            (try simp only [Act.put, List.setIfInBounds_toArray, List.set_cons_zero, List.set_cons_succ])
            refine wpAnyH_take (i := 7) (oi := ⟨some 94, _, _, _, _, _⟩) (v := ?_) rfl (by kernel_rfl) (by kernel_rfl) (by kernel_rfl) (fun _ _ _ h => h) (Or.inl ⟨by rfl, ?_⟩) (by assumption) ?_
            rotate_left
            · (intro w hSw; (try dsimp only at hSw); go_simp) <;> with_reducible rfl
            (try simp only [Act.put, List.setIfInBounds_toArray, List.set_cons_zero, List.set_cons_succ])
            refine wpAnyH_take (i := 8) (oi := ⟨some 95, _, _, _, _, _⟩) (v := ?_) rfl (by kernel_rfl) (by kernel_rfl) (by kernel_rfl) (fun _ _ _ h => h) (Or.inl ⟨by rfl, ?_⟩) (by assumption) ?_
            rotate_left
            · (intro w hSw; (try dsimp only at hSw); go_simp) <;> with_reducible rfl
            (try simp only [Act.put, List.setIfInBounds_toArray, List.set_cons_zero, List.set_cons_succ])
            refine wpAnyH_take (i := 9) (oi := ⟨some 96, _, _, _, _, _⟩) (v := ?_) rfl (by kernel_rfl) (by kernel_rfl) (by kernel_rfl) (fun _ _ _ h => h) (Or.inl ⟨by rfl, ?_⟩) (by assumption) ?_
            rotate_left
            · (intro w hSw; (try dsimp only at hSw); go_simp) <;> with_reducible rfl
            (try simp only [Act.put, List.setIfInBounds_toArray, List.set_cons_zero, List.set_cons_succ])
            refine wpAnyH_take (i := 10) (oi := ⟨some 97, _, _, _, _, _⟩) (v := ?_) rfl (by kernel_rfl) (by kernel_rfl) (by kernel_rfl) (fun _ _ _ h => h) (Or.inl ⟨by rfl, ?_⟩) (by assumption) ?_
            rotate_left
            · (intro w hSw; (try dsimp only at hSw); go_simp) <;> with_reducible rfl
            (try simp only [Act.put, List.setIfInBounds_toArray, List.set_cons_zero, List.set_cons_succ])
            refine wpAnyH_take (i := 11) (oi := ⟨some 98, _, _, _, _, _⟩) (v := ?_) rfl (by kernel_rfl) (by kernel_rfl) (by kernel_rfl) (fun _ _ _ h => h) (Or.inl ⟨by rfl, ?_⟩) (by assumption) ?_
            rotate_left
            · (intro w hSw; (try dsimp only at hSw); go_simp) <;> with_reducible rfl
            (try simp only [Act.put, List.setIfInBounds_toArray, List.set_cons_zero, List.set_cons_succ])
            refine wpAnyH_take (i := 12) (oi := ⟨some 99, _, _, _, _, _⟩) (v := ?_) rfl (by kernel_rfl) (by kernel_rfl) (by kernel_rfl) (fun _ _ _ h => h) (Or.inl ⟨by rfl, ?_⟩) (by assumption) ?_
            rotate_left
            · (intro w hSw; (try dsimp only at hSw); go_simp) <;> with_reducible rfl
            (try simp only [Act.put, List.setIfInBounds_toArray, List.set_cons_zero, List.set_cons_succ])
            refine wpAnyH_take (i := 13) (oi := ⟨some 100, _, _, _, _, _⟩) (v := ?_) rfl (by kernel_rfl) (by kernel_rfl) (by kernel_rfl) (fun _ _ _ h => h) (Or.inl ⟨by rfl, ?_⟩) (by assumption) ?_
            rotate_left
            · (intro w hSw; (try dsimp only at hSw); go_simp) <;> with_reducible rfl
            (try simp only [Act.put, List.setIfInBounds_toArray, List.set_cons_zero, List.set_cons_succ])
            refine wpAnyH_take (i := 14) (oi := ⟨some 101, _, _, _, _, _⟩) (v := ?_) rfl (by kernel_rfl) (by kernel_rfl) (by kernel_rfl) (fun _ _ _ h => h) (Or.inl ⟨by rfl, ?_⟩) (by assumption) ?_
            rotate_left
            · (intro w hSw; (try dsimp only at hSw); go_simp) <;> with_reducible rfl
            (try simp only [Act.put, List.setIfInBounds_toArray, List.set_cons_zero, List.set_cons_succ])
            refine wpAnyH_take (i := 15) (oi := ⟨some 102, _, _, _, _, _⟩) (v := ?_) rfl (by kernel_rfl) (by kernel_rfl) (by kernel_rfl) (fun _ _ _ h => h) (Or.inl ⟨by rfl, ?_⟩) (by assumption) ?_
            rotate_left
            · (intro w hSw; (try dsimp only at hSw); go_simp) <;> with_reducible rfl
            (try simp only [Act.put, List.setIfInBounds_toArray, List.set_cons_zero, List.set_cons_succ])
            refine wpAnyH_take (i := 16) (oi := ⟨some 103, _, _, _, _, _⟩) (v := ?_) rfl (by kernel_rfl) (by kernel_rfl) (by kernel_rfl) (fun _ _ _ h => h) (Or.inl ⟨by rfl, ?_⟩) (by assumption) ?_
            rotate_left
            · (intro w hSw; (try dsimp only at hSw); go_simp) <;> with_reducible rfl
            (try simp only [Act.put, List.setIfInBounds_toArray, List.set_cons_zero, List.set_cons_succ])
            refine wpAnyH_take (i := 17) (oi := ⟨some 104, _, _, _, _, _⟩) (v := ?_) rfl (by kernel_rfl) (by kernel_rfl) (by kernel_rfl) (fun _ _ _ h => h) (Or.inl ⟨by rfl, ?_⟩) (by assumption) ?_
            rotate_left
            · (intro w hSw; (try dsimp only at hSw); go_simp) <;> with_reducible rfl
            (try simp only [Act.put, List.setIfInBounds_toArray, List.set_cons_zero, List.set_cons_succ])
            refine wpAnyH_take (i := 18) (oi := ⟨some 105, _, _, _, _, _⟩) (v := ?_) rfl (by kernel_rfl) (by kernel_rfl) (by kernel_rfl) (fun _ _ _ h => h) (Or.inl ⟨by rfl, ?_⟩) (by assumption) ?_
            rotate_left
            · (intro w hSw; (try dsimp only at hSw); go_simp) <;> with_reducible rfl
            (try simp only [Act.put, List.setIfInBounds_toArray, List.set_cons_zero, List.set_cons_succ])
            refine wpAnyH_take (i := 19) (oi := ⟨some 106, _, _, _, _, _⟩) (v := ?_) rfl (by kernel_rfl) (by kernel_rfl) (by kernel_rfl) (fun _ _ _ h => h) (Or.inl ⟨by rfl, ?_⟩) (by assumption) ?_
            rotate_left
            · (intro w hSw; (try dsimp only at hSw); go_simp) <;> with_reducible rfl
            (try simp only [Act.put, List.setIfInBounds_toArray, List.set_cons_zero, List.set_cons_succ])
            refine wpAnyH_take (i := 20) (oi := ⟨some 107, _, _, _, _, _⟩) (v := ?_) rfl (by kernel_rfl) (by kernel_rfl) (by kernel_rfl) (fun _ _ _ h => h) (Or.inl ⟨by rfl, ?_⟩) (by assumption) ?_
            rotate_left
            · (intro w hSw; (try dsimp only at hSw); go_simp) <;> with_reducible rfl
            (try simp only [Act.put, List.setIfInBounds_toArray, List.set_cons_zero, List.set_cons_succ])
            refine wpAnyH_take (i := 21) (oi := ⟨some 108, _, _, _, _, _⟩) (v := ?_) rfl (by kernel_rfl) (by kernel_rfl) (by kernel_rfl) (fun _ _ _ h => h) (Or.inl ⟨by rfl, ?_⟩) (by assumption) ?_
            rotate_left
            · (intro w hSw; (try dsimp only at hSw); go_simp) <;> with_reducible rfl
            (try simp only [Act.put, List.setIfInBounds_toArray, List.set_cons_zero, List.set_cons_succ])
            refine wpAnyH_take (i := 22) (oi := ⟨some 109, _, _, _, _, _⟩) (v := ?_) rfl (by kernel_rfl) (by kernel_rfl) (by kernel_rfl) (fun _ _ _ h => h) (Or.inl ⟨by rfl, ?_⟩) (by assumption) ?_
            rotate_left
            · (intro w hSw; (try dsimp only at hSw); go_simp) <;> with_reducible rfl
            (try simp only [Act.put, List.setIfInBounds_toArray, List.set_cons_zero, List.set_cons_succ])
            refine wpAnyH_take (i := 24) (oi := ⟨some 111, _, _, _, _, _⟩) (v := _) rfl (by kernel_rfl) (by kernel_rfl) (by kernel_rfl) (fun _ _ _ h => h) (yieldsIf_load_mid (by rfl) rrT (.tmp 6) rfl g 0 rfl (rrL 256 (rrF (kdel l2 b)) (rrG (kdel l2 b))) _ (fun wr q => q.1.range) Try.underlying42 rfl hzl.out) (by assumption) ?_
            (try simp only [Act.put, List.setIfInBounds_toArray, List.set_cons_zero, List.set_cons_succ])
            refine wpAnyH_ready (rs := [23]) (by kernel_rfl) (by simp) ?_
            refine AllReadyH.cons (o := ⟨some 110, _, _, _, _, _⟩) rfl (fun K hK => ?_) AllReadyH.nil
            go_simp
            go_at_call 24; refine (pl_kind hHeld.1).mono ?_; rintro e w' ⟨rfl, rfl⟩
            refine hK.out _ _ hHeld (fun hHeld => ?_)
            clear hK K
            (try simp only [Act.put, List.setIfInBounds_toArray, List.set_cons_zero, List.set_cons_succ])
            refine wpAnyH_ready (rs := [25]) (by kernel_rfl) (by simp) ?_
            refine AllReadyH.cons (o := ⟨some 112, _, _, _, _, _⟩) rfl (fun K hK => ?_) AllReadyH.nil
            go_simp
            go_at_call 30; refine (ref_len hSL.out.1 hSL.out.2.1 _).mono ?_; rintro e w10 ⟨rfl, qb⟩
            refine hK.out _ _ (hSof.out _ (hHeld.1.below qb)) (fun hHeld => ?_)
            clear hK K
            (try simp only [Act.put, List.setIfInBounds_toArray, List.set_cons_zero, List.set_cons_succ])
            refine wpAnyH_ready (rs := [26]) (by kernel_rfl) (by simp) ?_
            refine AllReadyH.cons (o := ⟨some 113, _, _, _, _, _⟩) rfl (fun K hK => ?_) AllReadyH.nil
            go_simp
            go_at_call 16; refine (refKind_nat hLen.out _).mono ?_; rintro e w' ⟨rfl, rfl⟩
            refine hK.out _ _ hHeld (fun hHeld => ?_)
            clear hK K
            (try simp only [Act.put, List.setIfInBounds_toArray, List.set_cons_zero, List.set_cons_succ])
            refine wpAnyH_take (i := 27) (oi := ⟨some 114, _, _, _, _, _⟩) (v := ?_) rfl (by kernel_rfl) (by kernel_rfl) (by kernel_rfl) (fun _ _ _ h => h) (Or.inl ⟨by rfl, ?_⟩) (by assumption) ?_
            rotate_left
            · (intro w hSw; (try dsimp only at hSw); go_simp) <;> with_reducible rfl
            (try simp only [Act.put, List.setIfInBounds_toArray, List.set_cons_zero, List.set_cons_succ])
            refine wpAnyH_take (i := 28) (oi := ⟨some 115, _, _, _, _, _⟩) (v := ?_) rfl (by kernel_rfl) (by kernel_rfl) (by kernel_rfl) (fun _ _ _ h => h) (Or.inl ⟨by rfl, ?_⟩) (by assumption) ?_
            rotate_left
            · (intro w hSw; (try dsimp only at hSw); go_simp) <;> with_reducible rfl
            (try simp only [Act.put, List.setIfInBounds_toArray, List.set_cons_zero, List.set_cons_succ])
            refine wpAnyH_done (by kernel_rfl) ?_ _
            refine NoPanic.normal ?_
            have hw9 : IntKind.i64.wrap (((j : Nat) : Int) + 1) = ((j : Nat) : Int) + 1 := IntWalk.i64_in _ (by omega)
            have hrelF := Lib.hid hHeld.1
            clear hHeld hSof
            go_wp2_with fail
            go_roundw
            case rel => exact ⟨j + 1, _, (by first | rfl | go_num), by omega, hrelF⟩
            case measure => (simp [intOf]) <;> omega
          · rw [hd] at d0
            clear hd
            obtain ⟨X, hXf⟩ : ∃ X : Int, wrap64 ((b : Int) + s.x.tmod 1000) = X := ⟨_, rfl⟩
            have hzL := Lib.hid (rr_info (kins l2 b (.int .i64 X)))
            have hzl : Hid ((Try.prog.info? rrT).map (·.size) = some (rrL 256 (rrF (kins l2 b (.int .i64 X))) (rrG (kins l2 b (.int .i64 X)))).length) := by show _ = _; rw [rrL_len]; exact rrSz
            have hzs : Hid ((rrA l2).size = (rrA (kins l2 b (.int .i64 X))).size) := by show _ = _; rw [rr_size, rr_size]
            have hSl := Lib.hid hs2.out.srt
            have ho := Lib.hid (rr_one (I.Vals.ins hSl.out.2.2 b X))
            have hD := Lib.hid (pl_set hs2.out b hb X)
            have hRD := Lib.hid (fun w => ref_set hSl.out.1 hSl.out.2.1 hSl.out.2.2 b hb X w)
            go_upto_region 17 with (first | (go_at_call 19; rw [hXf]; refine hD.out.mono ?_; rintro e w6 ⟨rfl, q6⟩; have e3 : w6.cell? ⟨h, 3, none⟩ = some (.int .i64 s.x) := q6.step 3; have q6 := Lib.hid q6) | (refine wpList_load_row rfl rrT (.tmp 6) rfl g rfl rrT (rrA l2) (0, 0) _ q6.out.box Try.underlying42 rfl hz2.out ?_) | (go_at_call 29; rw [hXf]; refine (hRD.out _).mono ?_; rintro e w7 ⟨rfl, qb⟩; have q7 := Lib.hid (q6.out.below qb); clear qb) | (refine wpList_store_row rfl rrT (.tmp 6) (.tmp 79) rfl g (rrA (kins l2 b (.int .i64 X))) rfl rfl rrT (rrA l2) q7.out.box hzL.out hzs.out ho.out ?_))
            clear hD hRD ho d0 d1 d3 hXf
            have hSL := Lib.hid q7.out.srt
            have hLen : Hid ((kins l2 b (.int .i64 X)).length ≤ 256) := len256 hSL.out.1 hSL.out.2.1
            have q8 := Lib.hid (q7.out.store (kins l2 b (.int .i64 X)))
            change Code.wp _ _ _ _ (w7.setRow g (rrA (kins l2 b (.int .i64 X))))
            generalize w7.setRow g (rrA (kins l2 b (.int .i64 X))) = w8 at *
            obtain ⟨x, s2, hA, hF, hG⟩ := getV_form hSL.out.2.2 b
            have hGet : Hid (Calls Try.prog 21 #[.pointer (some ⟨k, 0, none⟩), .int .u8 (b : Nat)] w8 fun e w' => e = .returned (.tuple #[.int .i64 x, .bool s2]) ∧ ∃ n, w' = w8.drewN n) := by show Calls _ _ _ _ _; rw [← hA]; exact pl_get q8.out b hb
            have hSof : Hid (∀ wr, Pl w k g (kins l2 b (.int .i64 X)) (kins l2 b (.int .i64 X)) (some (h, s.cells)) wr → Pl w k g (kins l2 b (.int .i64 X)) (kins l2 b (.int .i64 X)) (some (h, s.cells)) wr ∧ wr.cell? ⟨g, 1 + b, none⟩ = some (.bool s2) ∧ wr.cell? ⟨g, 257 + b, none⟩ = some (.int .i64 x)) := fun wr q => ⟨q, by rw [q.cF hb, hF], by rw [q.cG hb, hG]⟩
            clear hA hF hG hzL hzs hSl q7
            go_wp2_with (go_at_call 21; refine hGet.out.mono ?_; rintro e w' ⟨rfl, nd, rfl⟩)
            have q9 := Lib.hid (q8.out.drewN nd)
            clear hGet q8
            generalize w8.drewN nd = w9 at *
            have hw8 : IntKind.i64.wrap ((b : Nat) : Int) = (b : Nat) := IntWalk.i64_in _ (by omega)
            refine wp_region_noPanic ?_
            refine wp_region_held_drew (S := fun wr => Pl w k g (kins l2 b (.int .i64 X)) (kins l2 b (.int .i64 X)) (some (h, s.cells)) wr ∧ wr.cell? ⟨g, 1 + b, none⟩ = some (.bool s2) ∧ wr.cell? ⟨g, 257 + b, none⟩ = some (.int .i64 x)) (by kernel_rfl) ?_ (fun hHeld => ?_)
            · exact hSof.out _ (q9.out.drewN 1)
            clear q9
            refine wpAnyH_take (i := 0) (oi := ⟨some 87, _, _, _, _, _⟩) (v := ?_) rfl (by kernel_rfl) (by kernel_rfl) (by kernel_rfl) (fun _ _ _ h => h) (Or.inl ⟨by rfl, ?_⟩) (by assumption) ?_
            rotate_left
            · (intro w hSw; (try dsimp only at hSw); go_simp) <;> with_reducible rfl
            (try simp only [Act.put, List.setIfInBounds_toArray, List.set_cons_zero, List.set_cons_succ])
            refine wpAnyH_take (i := 1) (oi := ⟨some 88, _, _, _, _, _⟩) (v := ?_) rfl (by kernel_rfl) (by kernel_rfl) (by kernel_rfl) (fun _ _ _ h => h) (Or.inl ⟨by rfl, ?_⟩) (by assumption) ?_
            rotate_left
            · (intro w hSw; (try dsimp only at hSw); go_simp) <;> with_reducible rfl
            (try simp only [Act.put, List.setIfInBounds_toArray, List.set_cons_zero, List.set_cons_succ])
            refine wpAnyH_take (i := 2) (oi := ⟨some 89, _, _, _, _, _⟩) (v := ?_) rfl (by kernel_rfl) (by kernel_rfl) (by kernel_rfl) (fun _ _ _ h => h) (Or.inl ⟨by rfl, ?_⟩) (by assumption) ?_
            rotate_left
            · (intro w hSw; (try dsimp only at hSw); go_simp) <;> with_reducible rfl
            (try simp only [Act.put, List.setIfInBounds_toArray, List.set_cons_zero, List.set_cons_succ])
            refine wpAnyH_take (i := 3) (oi := ⟨some 90, _, _, _, _, _⟩) (v := ?_) rfl (by kernel_rfl) (by kernel_rfl) (by kernel_rfl) (fun _ _ _ h => h) (Or.inl ⟨by rfl, ?_⟩) (by assumption) ?_
            rotate_left
            · (intro w hSw; (try dsimp only at hSw); go_simp) <;> with_reducible rfl
            (try simp only [Act.put, List.setIfInBounds_toArray, List.set_cons_zero, List.set_cons_succ])
            refine wpAnyH_take (i := 4) (oi := ⟨some 91, _, _, _, _, _⟩) (v := ?_) rfl (by kernel_rfl) (by kernel_rfl) (by kernel_rfl) (fun _ _ _ h => h) (Or.inl ⟨by rfl, ?_⟩) (by assumption) ?_
            rotate_left
            · (intro w hSw; (try dsimp only at hSw); go_simp) <;> with_reducible rfl
            (try simp only [Act.put, List.setIfInBounds_toArray, List.set_cons_zero, List.set_cons_succ])
            refine wpAnyH_take (i := 5) (oi := ⟨some 92, _, _, _, _, _⟩) (v := ?_) rfl (by kernel_rfl) (by kernel_rfl) (by kernel_rfl) (fun _ _ _ h => h) (Or.inl ⟨by rfl, ?_⟩) (by assumption) ?_
            rotate_left
            · (intro w hSw; (try dsimp only at hSw); go_simp) <;> with_reducible rfl
            (try simp only [Act.put, List.setIfInBounds_toArray, List.set_cons_zero, List.set_cons_succ])
            refine wpAnyH_take (i := 6) (oi := ⟨some 93, _, _, _, _, _⟩) (v := ?_) rfl (by kernel_rfl) (by kernel_rfl) (by kernel_rfl) (fun _ _ _ h => h) (Or.inl ⟨by rfl, ?_⟩) (by assumption) ?_
            rotate_left
            · (intro w hSw; (try dsimp only at hSw); go_simp) <;> with_reducible rfl
            (try simp only [Act.put, List.setIfInBounds_toArray, List.set_cons_zero, List.set_cons_succ])
            refine wpAnyH_take (i := 7) (oi := ⟨some 94, _, _, _, _, _⟩) (v := ?_) rfl (by kernel_rfl) (by kernel_rfl) (by kernel_rfl) (fun _ _ _ h => h) (Or.inl ⟨by rfl, ?_⟩) (by assumption) ?_
            rotate_left
            · (intro w hSw; (try dsimp only at hSw); go_simp) <;> with_reducible rfl
            (try simp only [Act.put, List.setIfInBounds_toArray, List.set_cons_zero, List.set_cons_succ])
            refine wpAnyH_take (i := 8) (oi := ⟨some 95, _, _, _, _, _⟩) (v := ?_) rfl (by kernel_rfl) (by kernel_rfl) (by kernel_rfl) (fun _ _ _ h => h) (Or.inl ⟨by rfl, ?_⟩) (by assumption) ?_
            rotate_left
            · (intro w hSw; (try dsimp only at hSw); go_simp) <;> with_reducible rfl
            (try simp only [Act.put, List.setIfInBounds_toArray, List.set_cons_zero, List.set_cons_succ])
            refine wpAnyH_take (i := 9) (oi := ⟨some 96, _, _, _, _, _⟩) (v := ?_) rfl (by kernel_rfl) (by kernel_rfl) (by kernel_rfl) (fun _ _ _ h => h) (Or.inl ⟨by rfl, ?_⟩) (by assumption) ?_
            rotate_left
            · (intro w hSw; (try dsimp only at hSw); go_simp) <;> with_reducible rfl
            (try simp only [Act.put, List.setIfInBounds_toArray, List.set_cons_zero, List.set_cons_succ])
            refine wpAnyH_take (i := 10) (oi := ⟨some 97, _, _, _, _, _⟩) (v := ?_) rfl (by kernel_rfl) (by kernel_rfl) (by kernel_rfl) (fun _ _ _ h => h) (Or.inl ⟨by rfl, ?_⟩) (by assumption) ?_
            rotate_left
            · (intro w hSw; (try dsimp only at hSw); go_simp) <;> with_reducible rfl
            (try simp only [Act.put, List.setIfInBounds_toArray, List.set_cons_zero, List.set_cons_succ])
            refine wpAnyH_take (i := 11) (oi := ⟨some 98, _, _, _, _, _⟩) (v := ?_) rfl (by kernel_rfl) (by kernel_rfl) (by kernel_rfl) (fun _ _ _ h => h) (Or.inl ⟨by rfl, ?_⟩) (by assumption) ?_
            rotate_left
            · (intro w hSw; (try dsimp only at hSw); go_simp) <;> with_reducible rfl
            (try simp only [Act.put, List.setIfInBounds_toArray, List.set_cons_zero, List.set_cons_succ])
            refine wpAnyH_take (i := 12) (oi := ⟨some 99, _, _, _, _, _⟩) (v := ?_) rfl (by kernel_rfl) (by kernel_rfl) (by kernel_rfl) (fun _ _ _ h => h) (Or.inl ⟨by rfl, ?_⟩) (by assumption) ?_
            rotate_left
            · (intro w hSw; (try dsimp only at hSw); go_simp) <;> with_reducible rfl
            (try simp only [Act.put, List.setIfInBounds_toArray, List.set_cons_zero, List.set_cons_succ])
            refine wpAnyH_take (i := 13) (oi := ⟨some 100, _, _, _, _, _⟩) (v := ?_) rfl (by kernel_rfl) (by kernel_rfl) (by kernel_rfl) (fun _ _ _ h => h) (Or.inl ⟨by rfl, ?_⟩) (by assumption) ?_
            rotate_left
            · (intro w hSw; (try dsimp only at hSw); go_simp) <;> with_reducible rfl
            (try simp only [Act.put, List.setIfInBounds_toArray, List.set_cons_zero, List.set_cons_succ])
            refine wpAnyH_take (i := 14) (oi := ⟨some 101, _, _, _, _, _⟩) (v := ?_) rfl (by kernel_rfl) (by kernel_rfl) (by kernel_rfl) (fun _ _ _ h => h) (Or.inl ⟨by rfl, ?_⟩) (by assumption) ?_
            rotate_left
            · (intro w hSw; (try dsimp only at hSw); go_simp) <;> with_reducible rfl
            (try simp only [Act.put, List.setIfInBounds_toArray, List.set_cons_zero, List.set_cons_succ])
            refine wpAnyH_take (i := 15) (oi := ⟨some 102, _, _, _, _, _⟩) (v := ?_) rfl (by kernel_rfl) (by kernel_rfl) (by kernel_rfl) (fun _ _ _ h => h) (Or.inl ⟨by rfl, ?_⟩) (by assumption) ?_
            rotate_left
            · (intro w hSw; (try dsimp only at hSw); go_simp) <;> with_reducible rfl
            (try simp only [Act.put, List.setIfInBounds_toArray, List.set_cons_zero, List.set_cons_succ])
            refine wpAnyH_take (i := 16) (oi := ⟨some 103, _, _, _, _, _⟩) (v := ?_) rfl (by kernel_rfl) (by kernel_rfl) (by kernel_rfl) (fun _ _ _ h => h) (Or.inl ⟨by rfl, ?_⟩) (by assumption) ?_
            rotate_left
            · (intro w hSw; (try dsimp only at hSw); go_simp) <;> with_reducible rfl
            (try simp only [Act.put, List.setIfInBounds_toArray, List.set_cons_zero, List.set_cons_succ])
            refine wpAnyH_take (i := 17) (oi := ⟨some 104, _, _, _, _, _⟩) (v := ?_) rfl (by kernel_rfl) (by kernel_rfl) (by kernel_rfl) (fun _ _ _ h => h) (Or.inl ⟨by rfl, ?_⟩) (by assumption) ?_
            rotate_left
            · (intro w hSw; (try dsimp only at hSw); go_simp) <;> with_reducible rfl
            (try simp only [Act.put, List.setIfInBounds_toArray, List.set_cons_zero, List.set_cons_succ])
            refine wpAnyH_take (i := 18) (oi := ⟨some 105, _, _, _, _, _⟩) (v := ?_) rfl (by kernel_rfl) (by kernel_rfl) (by kernel_rfl) (fun _ _ _ h => h) (Or.inl ⟨by rfl, ?_⟩) (by assumption) ?_
            rotate_left
            · (intro w hSw; (try dsimp only at hSw); go_simp) <;> with_reducible rfl
            (try simp only [Act.put, List.setIfInBounds_toArray, List.set_cons_zero, List.set_cons_succ])
            refine wpAnyH_take (i := 19) (oi := ⟨some 106, _, _, _, _, _⟩) (v := ?_) rfl (by kernel_rfl) (by kernel_rfl) (by kernel_rfl) (fun _ _ _ h => h) (Or.inl ⟨by rfl, ?_⟩) (by assumption) ?_
            rotate_left
            · (intro w hSw; (try dsimp only at hSw); go_simp) <;> with_reducible rfl
            (try simp only [Act.put, List.setIfInBounds_toArray, List.set_cons_zero, List.set_cons_succ])
            refine wpAnyH_take (i := 20) (oi := ⟨some 107, _, _, _, _, _⟩) (v := ?_) rfl (by kernel_rfl) (by kernel_rfl) (by kernel_rfl) (fun _ _ _ h => h) (Or.inl ⟨by rfl, ?_⟩) (by assumption) ?_
            rotate_left
            · (intro w hSw; (try dsimp only at hSw); go_simp) <;> with_reducible rfl
            (try simp only [Act.put, List.setIfInBounds_toArray, List.set_cons_zero, List.set_cons_succ])
            refine wpAnyH_take (i := 21) (oi := ⟨some 108, _, _, _, _, _⟩) (v := ?_) rfl (by kernel_rfl) (by kernel_rfl) (by kernel_rfl) (fun _ _ _ h => h) (Or.inl ⟨by rfl, ?_⟩) (by assumption) ?_
            rotate_left
            · (intro w hSw; (try dsimp only at hSw); go_simp) <;> with_reducible rfl
            (try simp only [Act.put, List.setIfInBounds_toArray, List.set_cons_zero, List.set_cons_succ])
            refine wpAnyH_take (i := 22) (oi := ⟨some 109, _, _, _, _, _⟩) (v := ?_) rfl (by kernel_rfl) (by kernel_rfl) (by kernel_rfl) (fun _ _ _ h => h) (Or.inl ⟨by rfl, ?_⟩) (by assumption) ?_
            rotate_left
            · (intro w hSw; (try dsimp only at hSw); go_simp) <;> with_reducible rfl
            (try simp only [Act.put, List.setIfInBounds_toArray, List.set_cons_zero, List.set_cons_succ])
            refine wpAnyH_take (i := 24) (oi := ⟨some 111, _, _, _, _, _⟩) (v := _) rfl (by kernel_rfl) (by kernel_rfl) (by kernel_rfl) (fun _ _ _ h => h) (yieldsIf_load_mid (by rfl) rrT (.tmp 6) rfl g 0 rfl (rrL 256 (rrF (kins l2 b (.int .i64 X))) (rrG (kins l2 b (.int .i64 X)))) _ (fun wr q => q.1.range) Try.underlying42 rfl hzl.out) (by assumption) ?_
            (try simp only [Act.put, List.setIfInBounds_toArray, List.set_cons_zero, List.set_cons_succ])
            refine wpAnyH_ready (rs := [23]) (by kernel_rfl) (by simp) ?_
            refine AllReadyH.cons (o := ⟨some 110, _, _, _, _, _⟩) rfl (fun K hK => ?_) AllReadyH.nil
            go_simp
            go_at_call 24; refine (pl_kind hHeld.1).mono ?_; rintro e w' ⟨rfl, rfl⟩
            refine hK.out _ _ hHeld (fun hHeld => ?_)
            clear hK K
            (try simp only [Act.put, List.setIfInBounds_toArray, List.set_cons_zero, List.set_cons_succ])
            refine wpAnyH_ready (rs := [25]) (by kernel_rfl) (by simp) ?_
            refine AllReadyH.cons (o := ⟨some 112, _, _, _, _, _⟩) rfl (fun K hK => ?_) AllReadyH.nil
            go_simp
            go_at_call 30; refine (ref_len hSL.out.1 hSL.out.2.1 _).mono ?_; rintro e w10 ⟨rfl, qb⟩
            refine hK.out _ _ (hSof.out _ (hHeld.1.below qb)) (fun hHeld => ?_)
            clear hK K
            (try simp only [Act.put, List.setIfInBounds_toArray, List.set_cons_zero, List.set_cons_succ])
            refine wpAnyH_ready (rs := [26]) (by kernel_rfl) (by simp) ?_
            refine AllReadyH.cons (o := ⟨some 113, _, _, _, _, _⟩) rfl (fun K hK => ?_) AllReadyH.nil
            go_simp
            go_at_call 16; refine (refKind_nat hLen.out _).mono ?_; rintro e w' ⟨rfl, rfl⟩
            refine hK.out _ _ hHeld (fun hHeld => ?_)
            clear hK K
            (try simp only [Act.put, List.setIfInBounds_toArray, List.set_cons_zero, List.set_cons_succ])
            refine wpAnyH_take (i := 27) (oi := ⟨some 114, _, _, _, _, _⟩) (v := ?_) rfl (by kernel_rfl) (by kernel_rfl) (by kernel_rfl) (fun _ _ _ h => h) (Or.inl ⟨by rfl, ?_⟩) (by assumption) ?_
            rotate_left
            · (intro w hSw; (try dsimp only at hSw); go_simp) <;> with_reducible rfl
            (try simp only [Act.put, List.setIfInBounds_toArray, List.set_cons_zero, List.set_cons_succ])
            refine wpAnyH_take (i := 28) (oi := ⟨some 115, _, _, _, _, _⟩) (v := ?_) rfl (by kernel_rfl) (by kernel_rfl) (by kernel_rfl) (fun _ _ _ h => h) (Or.inl ⟨by rfl, ?_⟩) (by assumption) ?_
            rotate_left
            · (intro w hSw; (try dsimp only at hSw); go_simp) <;> with_reducible rfl
            (try simp only [Act.put, List.setIfInBounds_toArray, List.set_cons_zero, List.set_cons_succ])
            refine wpAnyH_done (by kernel_rfl) ?_ _
            refine NoPanic.normal ?_
            have hw9 : IntKind.i64.wrap (((j : Nat) : Int) + 1) = ((j : Nat) : Int) + 1 := IntWalk.i64_in _ (by omega)
            have hrelF := Lib.hid hHeld.1
            clear hHeld hSof
            go_wp2_with fail
            go_roundw
            case rel => exact ⟨j + 1, _, (by first | rfl | go_num), by omega, hrelF⟩
            case measure => (simp [intOf]) <;> omega
        · obtain rfl : j = M := by omega
          have hlt4 : ¬ ((j : Nat) : Int) < (j : Nat) := by omega
          have hz2 := Lib.hid (rr_info l2)
          clear hlt3
          have hA1 := Lib.hid (hAs.out _ _ _ _ _ hs2.out)
          have hA2 : Hid (∀ wr, Pl w k g l2 l2 (some (h, s.cells)) wr → Calls Try.prog 27 #[.pointer (some ⟨k, 0, none⟩), .agg (rrA l2), .int .i64 (s.b : Nat)] wr fun e w' => e = .returned (.bool true) ∧ Pl w k g l2 l2 (some (h, s.cells)) w') := fun wr q => pl_as q _ (by omega) (by omega)
          have hw7 : IntKind.i64.wrap ((s.b : Nat) : Int) = (s.b : Nat) := IntWalk.i64_in _ (by omega)
          have hw9 : IntKind.i64.wrap (((i : Nat) : Int) + 1) = ((i : Nat) : Int) + 1 := IntWalk.i64_in _ (by omega)
          go_wp2_with (first | (refine wpList_load_row rfl rrT (.tmp 6) rfl g rfl rrT (rrA l2) (0, 0) _ hs2.out.box Try.underlying42 rfl hz2.out ?_) | (go_at_call 27; refine hA1.out.mono ?_; rintro e w6 ⟨rfl, q6⟩; have e1 : w6.cell? ⟨h, 1, none⟩ = some (.int .u8 (s.b : Nat)) := q6.step 1; have q6 := Lib.hid q6))
          refine wp_load_row rrT (.tmp 6) rfl g rfl rrT (rrA l2) (0, 0) _ q6.out.box Try.underlying42 rfl hz2.out ?_
          go_wp2_with (go_at_call 27; refine (hA2.out _ q6.out).mono ?_; rintro e w7 ⟨rfl, q7⟩; have q7 := Lib.hid q7.drop)
          go_roundw
          case rel => exact ⟨i + 1, l2, (by first | rfl | go_num), by omega, q7⟩
          case measure => (simp [intOf]) <;> omega
    · obtain rfl : i = m := by omega
      have hlt2 : ¬ ((i : Nat) : Int) < (i : Nat) := by omega
      clear hlt
      have hold := Lib.hid hs.out.old
      go_wp2_with (go_at_call 17; refine (hal.out _).mono ?_; rintro e w6 ⟨rfl, q6⟩; have q6 := Lib.hid (hold.out.trans (q6.mono hold.out.size)))
      go_ret
      exact ⟨rfl, q6.out⟩
end Go.Proofs.Ythifjldmhfpkhaa
