/- The document's rows (spunyarnref09), by value: 513 cells, told by a list of things by their bytes. -/
import Derived.Test.YthifjldmhfpkhaaKAlive
import Derived.Deep.WholeRow
import Derived.Great.Walk
import Derived.Great.BuildSlice
set_option linter.unusedVariables false
set_option linter.unusedSimpArgs false
namespace Go.Proofs.Ythifjldmhfpkhaa
open Go.RowKit
abbrev rrT : Nat := 42
def rrL (r : Int) (f : Nat → Bool) (g : Nat → Value) : List Value := .int .i64 r :: ((List.range 256).map (fun b => Value.bool (f b)) ++ (List.range 256).map g)
def rrF (l : KV) (b : Nat) : Bool := (kget l b).isSome
def rrG (l : KV) (b : Nat) : Value := (kget l b).getD (.int .i64 0)
/-- the row that holds these things -/
def rrA (l : KV) : Array Value := (rrL 256 (rrF l) (rrG l)).toArray
theorem rrL_len (r : Int) (f : Nat → Bool) (g : Nat → Value) : (rrL r f g).length = 513 := by simp [rrL]
theorem rrL_room (r : Int) (f : Nat → Bool) (g : Nat → Value) : (rrL r f g)[0]? = some (.int .i64 r) := rfl
theorem rrL_has (r : Int) (f : Nat → Bool) (g : Nat → Value) {b : Nat} (hb : b < 256) : (rrL r f g)[1 + b]? = some (.bool (f b)) := by
  rw [Nat.add_comm]; unfold rrL
  rw [List.getElem?_cons_succ, List.getElem?_append_left (by simp; exact hb)]
  simp [hb]
theorem rrL_val (r : Int) (f : Nat → Bool) (g : Nat → Value) {b : Nat} (hb : b < 256) : (rrL r f g)[257 + b]? = some (g b) := by
  rw [show 257 + b = (256 + b) + 1 from by omega]; unfold rrL
  rw [List.getElem?_cons_succ, List.getElem?_append_right (by simp)]
  simp [hb]
theorem rrL_ext {r : Int} {f f' : Nat → Bool} {g g' : Nat → Value} (h1 : ∀ b, b < 256 → f b = f' b) (h2 : ∀ b, b < 256 → g b = g' b) : rrL r f g = rrL r f' g' := by
  unfold rrL
  rw [List.map_congr_left (fun b hb => by rw [h1 b (by simpa using hb)] : ∀ b ∈ List.range 256, Value.bool (f b) = Value.bool (f' b)), List.map_congr_left (fun b hb => h2 b (by simpa using hb) : ∀ b ∈ List.range 256, g b = g' b)]
theorem range_map_set {α : Type} (h : Nat → α) (n b : Nat) (x : α) : ((List.range n).map h).set b x = (List.range n).map (fun c => if c = b then x else h c) := by
  apply List.ext_getElem?
  intro i
  rw [List.getElem?_set]
  by_cases e : b = i
  · subst e
    by_cases q : b < n
    · simp [q]
    · simp [q]
  · by_cases q : i < n
    · have e' : ¬ i = b := fun z => e z.symm
      simp [e, e', q]
    · simp [e, q]
theorem rrL_setHas (r : Int) (f : Nat → Bool) (g : Nat → Value) {b : Nat} (hb : b < 256) (y : Bool) : (rrL r f g).set (1 + b) (.bool y) = rrL r (fun c => if c = b then y else f c) g := by
  rw [Nat.add_comm]; unfold rrL
  rw [List.set_cons_succ, List.set_append_left _ _ (by simp; exact hb), range_map_set]
  congr 2
  apply List.map_congr_left
  intro c hc
  by_cases e : c = b <;> simp [e]
theorem rrL_setVal (r : Int) (f : Nat → Bool) (g : Nat → Value) {b : Nat} (hb : b < 256) (y : Value) : (rrL r f g).set (257 + b) y = rrL r f (fun c => if c = b then y else g c) := by
  rw [show 257 + b = (256 + b) + 1 from by omega]; unfold rrL
  rw [List.set_cons_succ, List.set_append_right _ _ (by simp), range_map_set]
  simp
theorem rr_ins {l : KV} (hs : Srt l) {b : Nat} (hb : b < 256) (y : Value) : ((rrL 256 (rrF l) (rrG l)).set (1 + b) (.bool true)).set (257 + b) y = rrL 256 (rrF (kins l b y)) (rrG (kins l b y)) := by
  rw [rrL_setHas _ _ _ hb, rrL_setVal _ _ _ hb]
  apply rrL_ext
  · intro c _; unfold rrF; rw [get_ins hs]; by_cases e : c = b <;> simp [e]
  · intro c _; unfold rrG; rw [get_ins hs]; by_cases e : c = b <;> simp [e]
theorem rr_del {l : KV} (hs : Srt l) {b : Nat} (hb : b < 256) : ((rrL 256 (rrF l) (rrG l)).set (1 + b) (.bool false)).set (257 + b) (.int .i64 0) = rrL 256 (rrF (kdel l b)) (rrG (kdel l b)) := by
  rw [rrL_setHas _ _ _ hb, rrL_setVal _ _ _ hb]
  apply rrL_ext
  · intro c _; unfold rrF; rw [get_del hs]; by_cases e : c = b <;> simp [e]
  · intro c _; unfold rrG; rw [get_del hs]; by_cases e : c = b <;> simp [e]
theorem rr_one {l : KV} (hv : I.Vals l) : (rrA l).all (·.oneCell') = true := by
  rw [Array.all_eq_true_iff_forall_mem]
  intro v hm
  simp only [rrA, rrL, List.mem_toArray, List.mem_cons, List.mem_append, List.mem_map] at hm
  rcases hm with rfl | ⟨b, _, rfl⟩ | ⟨b, _, rfl⟩
  · rfl
  · rfl
  · unfold rrG
    cases hk : kget l b with
    | none => rfl
    | some v =>
      obtain ⟨p, hp, e⟩ := Option.map_eq_some_iff.1 hk
      obtain ⟨x, hx⟩ := hv p (List.mem_of_find?_eq_some hp)
      subst e
      simp [hx, Value.oneCell']
theorem rr_size (l : KV) : (rrA l).size = 513 := by simp [rrA, rrL_len]
theorem rrSz : (Try.prog.info? rrT).map (·.size) = some 513 := by kernel_rfl
theorem rr_info (l : KV) : (Try.prog.info? rrT).map (·.size) = some (rrA l).size := by rw [rr_size]; exact rrSz
def cntB (l : KV) (b : Nat) : Nat := (l.filter fun p => decide (p.1 < b)).length
theorem cntB_next : ∀ {l : KV}, Srt l → ∀ b, cntB l (b + 1) = if rrF l b then cntB l b + 1 else cntB l b
  | [], _, b => by simp [cntB, rrF, kget]
  | p :: t, hs, b => by
    have hs' : Srt t := (List.pairwise_cons.1 hs).2
    have hgt : ∀ q ∈ t, p.1 < q.1 := fun q hq => (List.pairwise_cons.1 hs).1 q.1 (List.mem_map_of_mem hq)
    have ih := cntB_next hs' b
    unfold cntB rrF kget at ih ⊢
    by_cases e : p.1 = b
    · have h0 : t.find? (fun q => q.1 == b) = none := by
        rw [List.find?_eq_none]; intro q hq; have := hgt q hq; simp; omega
      rw [h0] at ih
      simp at ih
      simp [e, ih]
    · have h1 : (p.1 == b) = false := by simpa using e
      have h2 : decide (p.1 < b + 1) = decide (p.1 < b) := by rw [decide_eq_decide]; omega
      rw [List.find?_cons, h1, List.filter_cons, List.filter_cons, h2]
      by_cases q : p.1 < b
      · simp only [q, decide_true, if_true, List.length_cons]
        rw [ih]; split <;> rfl
      · simp only [q, decide_false]
        exact ih
theorem cntB_all {l : KV} (h : Low l) : cntB l 256 = l.length := by
  unfold cntB
  rw [List.filter_eq_self.2 fun p hp => by simpa using h p hp]
theorem cntB_le (l : KV) (b : Nat) : cntB l b ≤ l.length := List.length_filter_le _ _
section
variable {w : World} {l : KV}
theorem rr_cell0 (w : World) (l : KV) : (w.alloc (.cells (rrA l) rrT)).cell? ⟨w.heap.size, 0, none⟩ = some (.int .i64 256) := by
  unfold rrA
  rw [cell_of_blk (heap_alloc_new w (.cells (rrL 256 (rrF l) (rrG l)).toArray rrT))]; rfl
theorem rr_cellF (w : World) (l : KV) {b : Nat} (hb : b < 256) : (w.alloc (.cells (rrA l) rrT)).cell? ⟨w.heap.size, 1 + b, none⟩ = some (.bool (rrF l b)) := by
  unfold rrA
  rw [cell_of_blk (heap_alloc_new w (.cells (rrL 256 (rrF l) (rrG l)).toArray rrT)), rrL_has _ _ _ hb]
theorem rr_cellG (w : World) (l : KV) {b : Nat} (hb : b < 256) : (w.alloc (.cells (rrA l) rrT)).cell? ⟨w.heap.size, 257 + b, none⟩ = some (rrG l b) := by
  unfold rrA
  rw [cell_of_blk (heap_alloc_new w (.cells (rrL 256 (rrF l) (rrG l)).toArray rrT)), rrL_val _ _ _ hb]
set_option maxHeartbeats 800000 in
set_option maxRecDepth 100000 in
theorem ref_len (hs : Srt l) (hl : Low l) (w : World) : Calls Try.prog 30 #[.agg (rrA l)] w fun e w' => e = .returned (.int .i64 (l.length : Nat)) ∧ Below w.heap.size w w' := by
  have HF := Lib.hid (fun b hb => rr_cellF w l (b := b) hb)
  have HN := Lib.hid (fun b => cntB_next hs b)
  have HA := Lib.hid (cntB_all hl)
  have HL : ∀ b, cntB l b ≤ 256 := fun b => Nat.le_trans (cntB_le l b) (len256 hs hl)
  have hB : Hid (Below w.heap.size w (w.alloc (.cells (rrA l) rrT))) := (Below.refl _ w).alloc (Nat.le_refl _) _
  have h0 : cntB l 0 = 0 := by simp [cntB]
  go_enter Try.func30, Try.ntmps30
  go_wp2_with fail
  go_loop [3, 4] (fun vn vb => ∃ b : Nat, vb = .int .i64 (b : Nat) ∧ b ≤ 256 ∧ vn = .int .i64 (cntB l b : Nat)) (fun _ vb => (256 - intOf vb).toNat)
  case atStart => exact ⟨0, rfl, by omega, by rw [h0]; rfl⟩
  case round =>
    obtain ⟨b, rfl, hb, rfl⟩ := hrel
    by_cases hlt : b < 256
    · have hlt2 : (b : Int) < 256 := by omega
      have cF := HF.out b hlt
      have hL := HL b
      have hL1 := HL (b + 1)
      have hn := HN.out b
      have hw9 : IntKind.i64.wrap (((b : Nat) : Int) + 1) = ((b : Nat) : Int) + 1 := IntWalk.i64_in _ (by omega)
      have hw8 : IntKind.i64.wrap (((cntB l b : Nat) : Int) + 1) = ((cntB l b : Nat) : Int) + 1 := IntWalk.i64_in _ (by omega)
      clear hlt
      cases hf : rrF l b with
      | true =>
        rw [hf] at cF hn
        simp only [if_true] at hn
        have Hn := Lib.hid hn
        clear hn hf
        go_wp2_with fail
        go_round
        case rel => exact ⟨b + 1, (by first | rfl | go_num), by omega, (by rw [Hn.out]; first | rfl | go_num)⟩
        case measure => (simp [intOf]) <;> omega
      | false =>
        rw [hf] at cF hn
        have Hn := Lib.hid hn
        clear hn hf
        go_wp2_with fail
        go_round
        case rel => exact ⟨b + 1, (by first | rfl | go_num), by omega, (by rw [Hn.out]; first | rfl | go_num)⟩
        case measure => (simp [intOf]) <;> omega
    · obtain rfl : b = 256 := by omega
      rw [HA.out]
      clear hlt
      go_wp2_with fail
      go_ret
      exact ⟨rfl, hB.out⟩
end
end Go.Proofs.Ythifjldmhfpkhaa
