/- Rows: Drop. -/
import Derived.Test.YtkonbldjmcccmaaKRowW
set_option linter.unusedVariables false
set_option linter.unusedSimpArgs false
namespace Go.Proofs.Ytkonbldjmcccmaa
open Go.RowKit

theorem del_cells {α : Type} (L : List α) (k i : Nat) (z : α) (hi : i ≤ k) (hn : k + 1 ≤ L.length) :
    ((splice L i ((L.drop (i + 1)).take (k - i))).set k z).take k = (L.take (k + 1)).take i ++ (L.take (k + 1)).drop (i + 1) := by
  apply List.ext_getElem?
  intro j
  simp only [splice, List.getElem?_take, List.getElem?_set, List.getElem?_append, List.length_take, List.length_drop, List.length_append, List.getElem?_drop]
  have e1 : min i L.length = i := by omega
  have e2 : min (k - i) (L.length - (i + 1)) = k - i := by omega
  have e3 : min i (min (k + 1) L.length) = i := by omega
  simp only [e1, e2, e3]
  by_cases h1 : j < i
  · simp [h1, show j < k by omega, show ¬ k = j by omega, show j < k + 1 by omega]
  · by_cases h3 : j < k
    · have h4 : j - i < k - i := by omega
      have h8 : i + 1 + (j - i) < k + 1 := by omega
      simp [h1, h3, h4, h8, show ¬ k = j by omega]
    · have h8 : ¬ i + 1 + (j - i) < k + 1 := by omega
      simp [h1, h3, h8]
theorem splice_length' {α : Type} (L : List α) (k i : Nat) (hi : i ≤ k) (hn : k + 1 ≤ L.length) : (splice L i ((L.drop (i + 1)).take (k - i))).length = L.length := by
  rw [length_splice]; simp; omega
theorem RowIs.remove {ty : Nat} {w w5 : World} {r rm : Nat} {l : KV} {B X : List Value} (h : RowIs ty w r rm l B X) {b : Nat} (hh : has l b = true) (z : Value) (hz : z.oneCell' = true) (k i : Nat) {B1 X1 : List Value}
    (hn : l.length = k + 1) (hi : pl l b = i) (HB1 : splice B i ((B.drop (i + 1)).take (k - i)) = B1) (HX1 : splice X i ((X.drop (i + 1)).take (k - i)) = X1)
    (blk5 : w5.heap[r]? = some (.cells (rowL rm (k + 1) B1 X1).toArray ty (0, 0))) :
    RowIs ty (((w5.setCell ⟨r, 1, none⟩ (.int .i64 (k : Int))).setCell ⟨r, 2 + k, none⟩ (.int .u8 0)).setCell ⟨r, 18 + k, none⟩ z).drew r rm (kdel l b) (B1.set k (.int .u8 0)) (X1.set k z) := by
  have hle : i ≤ k := by have := (has_yes hh).1; omega
  have h16 := h.n16
  have hlB1 : B1.length = 16 := by rw [← HB1, splice_length' B k i hle (by have := h.lB; omega), h.lB]
  have hlX1 : X1.length = 16 := by rw [← HX1, splice_length' X k i hle (by have := h.lX; omega), h.lX]
  have hk := del_yes h.srt hh
  rw [hi] at hk
  have e1 : (kdel l b).length = k := by rw [hk]; simp; omega
  refine ⟨?_, by simp [hlB1], by simp [hlX1], ?_, ?_, by have := h.le; rw [e1]; omega, h.r1, h.r16, h.srt.del b, h.low.del b, ?_⟩
  · have s3 := setCell_list _ r 1 _ ty (.int .i64 (k : Int)) blk5
    rw [rowL_set1] at s3
    have b3 := setRow_heap _ r _ (rowL rm k B1 X1).toArray _ _ blk5
    rw [show rowL rm k B1 X1 = .int .i64 rm :: .int .i64 (k : Int) :: (B1 ++ X1) from rfl, ← s3] at b3
    have b3' : (w5.setCell ⟨r, 1, none⟩ (.int .i64 (k : Int))).heap[r]? = some (.cells (rowL rm k B1 X1).toArray ty (0, 0)) := b3
    have s1 := setCell_list _ r (2 + k) _ ty (.int .u8 0) b3'
    rw [rowL_setB _ _ _ _ hlB1 k (by omega)] at s1
    have b1 := setRow_heap _ r _ (rowL rm k (B1.set k (.int .u8 0)) X1).toArray _ _ b3'
    rw [← s1] at b1
    have s2 := setCell_list _ r (18 + k) _ ty z b1
    rw [rowL_setX _ _ _ _ (by simp [hlB1])] at s2
    have b2 := setRow_heap _ r _ (rowL rm k (B1.set k (.int .u8 0)) (X1.set k z)).toArray _ _ b1
    rw [← s2] at b2
    rw [e1]
    exact b2
  · rw [e1, ← HB1, del_cells B k i _ hle (by have := h.lB; omega), ← hn, h.bs, hk]
    simp [List.map_take, List.map_drop]
  · rw [e1, ← HX1, del_cells X k i _ hle (by have := h.lX; omega), ← hn, h.xs, hk]
    simp [List.map_take, List.map_drop]
  · intro v hv
    have oB : ∀ v ∈ B, v.oneCell' = true := fun v hv => h.one v (List.mem_append_left _ hv)
    have oX : ∀ v ∈ X, v.oneCell' = true := fun v hv => h.one v (List.mem_append_right _ hv)
    have sg : ∀ {A : List Value}, (∀ v ∈ A, v.oneCell' = true) → ∀ v ∈ (A.drop (i + 1)).take (k - i), v.oneCell' = true := fun h v hv => h v (List.mem_of_mem_drop (List.mem_of_mem_take hv))
    rcases List.mem_append.1 hv with hv | hv
    · rcases List.mem_or_eq_of_mem_set hv with hv | rfl
      · rw [← HB1] at hv; exact splice_mem B _ _ (fun v => v.oneCell' = true) oB (sg oB) v hv
      · rfl
    · rcases List.mem_or_eq_of_mem_set hv with hv | rfl
      · rw [← HX1] at hv; exact splice_mem X _ _ (fun v => v.oneCell' = true) oX (sg oX) v hv
      · exact hz
theorem copy_seg' {w : World} {r : Nat} {C : List Value} {t : Nat} (hg : w.heap[r]? = some (.cells C.toArray t (0, 0))) (base : Nat) (A : List Value) (hA : ∀ j, j < 16 → C[base + j]? = A[j]?) (i k : Nat) (hn : k + 1 ≤ 16) (m : Nat) :
    ∀ j v, ((A.drop (i + 1)).take (k - i))[j]? = some v → (w.drewN m).cell? ((⟨r, base + (i + 1), none⟩ : Addr).add j) = some v := by
  intro j v hv
  rw [List.getElem?_take] at hv
  split at hv
  · rename_i hj
    rw [List.getElem?_drop] at hv
    have e : (⟨r, base + (i + 1), none⟩ : Addr).add j = ⟨r, base + (i + 1) + j, none⟩ := by unfold Addr.add; split <;> simp_all
    rw [e, World.cell?_drewN, cell_of_blk hg, show base + (i + 1) + j = base + (i + 1 + j) from by omega, hA _ (by omega)]
    exact hv
  · simp at hv
namespace I
variable {w : World} {r rm : Nat} {l : KV} {B X : List Value}
def dropPost (r rm : Nat) (l : KV) (b : Nat) (c : Int) (w : World) (e : Ending) (w' : World) : Prop := e = .returned (.int .i64 c) ∧ RowAt rowT w' r rm (kdel l b) ∧ Mod (· = r) w w'
set_option maxHeartbeats 800000 in
theorem row_drop_none (h : RowIs rowT w r rm l B X) (b : Nat) (hh : has l b = false) : Calls Try.prog 140 #[.pointer (some ⟨r, 0, none⟩), .int .u8 b] w fun e w' => e = .returned (.int .i64 6) ∧ ∃ n, w' = w.drewN n := by
  have c0 := h.c0
  have hr := h.r1
  have hp : Hid (Calls Try.prog 188 #[.pointer (some ⟨r, 0, none⟩), .int .u8 b] w fun e w' => e = .returned (.tuple #[.int .i64 (pl l b : Nat), .bool false]) ∧ ∃ n, w' = w.drewN n) := by have := row_place h b; rw [hh] at this; exact this
  generalize pl l b = i at *
  clear h hh
  go_enter Try.func140, Try.ntmps140
  go_wp2_with (first | (go_at_call 183; refine (ok_yes _ _ _ c0 hr).mono ?_; rintro e w' ⟨rfl, rfl⟩) | (go_at_call 188; refine hp.out.mono ?_; rintro e w' ⟨rfl, nd, rfl⟩))
  go_ret
  exact ⟨rfl, nd, rfl⟩
set_option maxHeartbeats 2000000 in
theorem row_drop_is (h : RowIs rowT w r rm l B X) (b : Nat) (hh : has l b = true) : Calls Try.prog 140 #[.pointer (some ⟨r, 0, none⟩), .int .u8 b] w (dropPost r rm l b 0 w) := by
  have c0 := h.c0
  have c1 := h.c1
  have hr := h.r1
  have hblk := Lib.hid h.blk
  have hp : Hid (Calls Try.prog 188 #[.pointer (some ⟨r, 0, none⟩), .int .u8 b] w fun e w' => e = .returned (.tuple #[.int .i64 (pl l b : Nat), .bool true]) ∧ ∃ n, w' = w.drewN n) := by have := row_place h b; rw [hh] at this; exact this
  have hlt := (has_yes hh).1
  have h16 := h.n16
  obtain ⟨k, hn⟩ : ∃ k, l.length = k + 1 := ⟨l.length - 1, by omega⟩
  generalize hi : pl l b = i at *
  have Hn := Lib.hid hn
  rw [hn] at hlt h16 c1 hblk
  rw [show ((k + 1 : Nat) : Int) = (k : Int) + 1 from by omega] at c1
  have HH := Lib.hid h
  have hlB := HH.out.lB
  have hlX := HH.out.lX
  have L1 : Hid (((B.drop (i + 1)).take (k - i)).length = Nat.min (k - i) (16 - i)) := by show _ = _; rw [List.length_take, List.length_drop, hlB]; show _ = min _ _; omega
  have L2 : Hid (((X.drop (i + 1)).take (k - i)).length = Nat.min (k - i) (16 - i)) := by show _ = _; rw [List.length_take, List.length_drop, hlX]; show _ = min _ _; omega
  have hle : i ≤ k := by omega
  have P1 : ∀ m, Hid (0 < ((B.drop (i + 1)).take (k - i)).length → (some (if 16 = i then (⟨r, 2, none⟩ : Addr) else ⟨r, 2 + i, none⟩)) = some ⟨r, 2 + i, none⟩ ∧ ∃ ad, (some (if i = 15 then (⟨r, 2, none⟩ : Addr) else ⟨r, 2 + (i + 1), none⟩)) = some ad ∧ ∀ j v, ((B.drop (i + 1)).take (k - i))[j]? = some v → (w.drewN m).cell? (ad.add j) = some v) := fun m h0 => by
    have hl1 := L1.out
    have : ¬ i = 15 := by
      intro e
      have : Nat.min (k - i) (16 - i) = 0 := by show min _ _ = 0; omega
      omega
    refine ⟨by rw [if_neg (by omega)], _, by rw [if_neg this], copy_seg' hblk.out 2 B (fun j hj => (rowL_get rm (k + 1) B X hlB j hj).1) i k (by omega) m⟩
  have F1 : Hid (2 + i + ((B.drop (i + 1)).take (k - i)).length ≤ (rowL rm (k + 1) B X).length) := by show _ ≤ _; rw [rowL_length, L1.out, hlB, hlX]; show _ + min _ _ ≤ _; omega
  have O1 : Hid (∀ v ∈ (B.drop (i + 1)).take (k - i), v.oneCell' = true) := fun v hv => HH.out.one v (List.mem_append_left _ (List.mem_of_mem_drop (List.mem_of_mem_take hv)))
  have hq3 : ((i : Int) + 1 ≤ (k : Int) + 1) := by omega
  have hq4 : ((k : Int) + 1 ≤ 16) := by omega
  have hq5 : ((i : Int) ≤ 16) := by omega
  have Hi := Lib.hid hi
  have Hh := Lib.hid hh
  clear h hh hn hi
  go_enter Try.func140, Try.ntmps140
  go_wp2_with (first | (go_at_call 183; refine (ok_yes _ _ _ c0 hr).mono ?_; rintro e w' ⟨rfl, rfl⟩) | (go_at_call 188; refine hp.out.mono ?_; rintro e w' ⟨rfl, nd, rfl⟩))
  have k1 : IntKind.i64.wrap ((i : Int) + 1) = (i : Int) + 1 := IntWalk.i64_in _ (by omega)
  have k2 : (0 : Int) ≤ (i : Int) + 1 := by omega
  have k3 : ((i : Int) + 1).toNat = i + 1 := by omega
  have k4 : ((k : Int) + 1).toNat = k + 1 := by omega
  go_region_law (refine step_copy_in rfl (.tmp 23) (.tmp 33) 27 27 rfl 5 underB infoB _ _ _ _ _ _ rfl rfl r (2 + i) (rowL rm (k + 1) B X) rowT hblk.out ((B.drop (i + 1)).take (k - i)) L1.out (P1 _).out F1.out O1.out ?_; intro w4 hb4 hm4)
  have e4 : Hid (splice (rowL rm (k + 1) B X) (2 + i) ((B.drop (i + 1)).take (k - i)) = rowL rm (k + 1) (splice B i ((B.drop (i + 1)).take (k - i))) X) := rowL_spliceB rm (k + 1) B X hlB i _ (by have := L1.out; have h2 : Nat.min (k - i) (16 - i) ≤ 16 - i := Nat.min_le_right _ _; omega)
  obtain ⟨B1, HB1⟩ : ∃ B1, Hid (splice B i ((B.drop (i + 1)).take (k - i)) = B1) := ⟨_, rfl⟩
  have hlB1 : B1.length = 16 := by rw [← HB1.out, splice_length' B k i hle (by omega), hlB]
  have blk4 : Hid (w4.heap[r]? = some (.cells (rowL rm (k + 1) B1 X).toArray rowT (0, 0))) := by have := hb4.out; rw [e4.out, HB1.out] at this; exact this
  have c14 : w4.cell? ⟨r, 1, none⟩ = some (.int .i64 ((k : Int) + 1)) := by rw [cell_of_blk blk4.out]; rfl
  have M4 : Hid (Mod (· = r) w w4) := ((Mod.refl (· = r) w).drewN _).trans hm4.out
  clear hb4 hm4 e4 P1 F1 O1
  generalize (if i = 15 then (⟨r, 2, none⟩ : Addr) else ⟨r, 2 + (i + 1), none⟩) = A1
  generalize (if 16 = i then (⟨r, 2, none⟩ : Addr) else ⟨r, 2 + i, none⟩) = A2
  have P2 : ∀ m, Hid (0 < ((X.drop (i + 1)).take (k - i)).length → (some (if 16 = i then (⟨r, 18, none⟩ : Addr) else ⟨r, 18 + i, none⟩)) = some ⟨r, 18 + i, none⟩ ∧ ∃ ad, (some (if i = 15 then (⟨r, 18, none⟩ : Addr) else ⟨r, 18 + (i + 1), none⟩)) = some ad ∧ ∀ j v, ((X.drop (i + 1)).take (k - i))[j]? = some v → (w4.drewN m).cell? (ad.add j) = some v) := fun m h0 => by
    have hl1 := L2.out
    have : ¬ i = 15 := by
      intro e
      have : Nat.min (k - i) (16 - i) = 0 := by show min _ _ = 0; omega
      omega
    refine ⟨by rw [if_neg (by omega)], _, by rw [if_neg this], copy_seg' blk4.out 18 X (fun j hj => (rowL_get rm (k + 1) B1 X hlB1 j hj).2) i k (by omega) m⟩
  have F2 : Hid (18 + i + ((X.drop (i + 1)).take (k - i)).length ≤ (rowL rm (k + 1) B1 X).length) := by show _ ≤ _; rw [rowL_length, L2.out, hlB1, hlX]; show _ + min _ _ ≤ _; omega
  have O2 : Hid (∀ v ∈ (X.drop (i + 1)).take (k - i), v.oneCell' = true) := fun v hv => HH.out.one v (List.mem_append_right _ (List.mem_of_mem_drop (List.mem_of_mem_take hv)))
  go_wp2_with fail
  go_region_law (refine step_copy_in rfl (.tmp 39) (.tmp 49) 23 23 rfl 3 underX infoX _ _ _ _ _ _ rfl rfl r (18 + i) (rowL rm (k + 1) B1 X) rowT blk4.out ((X.drop (i + 1)).take (k - i)) L2.out (P2 1).out F2.out O2.out ?_; intro w5 hb5 hm5)
  have e5 : Hid (splice (rowL rm (k + 1) B1 X) (18 + i) ((X.drop (i + 1)).take (k - i)) = rowL rm (k + 1) B1 (splice X i ((X.drop (i + 1)).take (k - i)))) := rowL_spliceX rm (k + 1) B1 X hlB1 i _
  obtain ⟨X1, HX1⟩ : ∃ X1, Hid (splice X i ((X.drop (i + 1)).take (k - i)) = X1) := ⟨_, rfl⟩
  have hlX1 : X1.length = 16 := by rw [← HX1.out, splice_length' X k i hle (by omega), hlX]
  have blk5 : Hid (w5.heap[r]? = some (.cells (rowL rm (k + 1) B1 X1).toArray rowT (0, 0))) := by have := hb5.out; rw [e5.out, HX1.out] at this; exact this
  have c15 : w5.cell? ⟨r, 1, none⟩ = some (.int .i64 ((k : Int) + 1)) := by rw [cell_of_blk blk5.out]; rfl
  have M5 : Hid (Mod (· = r) w w5) := (M4.out.drewN 1).trans hm5.out
  have fr5 : ∀ j, w5.frozen? ⟨r, j, none⟩ = false := fun j => frozen_of_blk blk5.out j
  obtain ⟨y1, hy1⟩ : ∃ y, w5.cell? ⟨r, 2 + k, none⟩ = some y := ⟨_, by rw [cell_of_blk blk5.out, (rowL_get rm (k + 1) B1 X1 hlB1 k (by omega)).1, List.getElem?_eq_getElem (by omega)]⟩
  obtain ⟨y2, hy2⟩ : ∃ y, w5.cell? ⟨r, 18 + k, none⟩ = some y := ⟨_, by rw [cell_of_blk blk5.out, (rowL_get rm (k + 1) B1 X1 hlB1 k (by omega)).2, List.getElem?_eq_getElem (by omega)]⟩
  clear hb5 hm5 e5 P2 F2 O2 k1 k2 k3 k4 c14
  generalize (if i = 15 then (⟨r, 18, none⟩ : Addr) else ⟨r, 18 + (i + 1), none⟩) = A3
  generalize (if 16 = i then (⟨r, 18, none⟩ : Addr) else ⟨r, 18 + i, none⟩) = A4
  go_wp2_with fail
  go_region
  go_wp2_with fail
  go_ret
  exact ⟨rfl, ⟨_, _, HH.out.remove Hh.out (.int .i64 0) rfl k i Hn.out Hi.out HB1.out HX1.out blk5.out⟩, (((M5.out.setCell ⟨r, _, none⟩ _ (fun _ => rfl)).setCell ⟨r, _, none⟩ _ (fun _ => rfl)).setCell ⟨r, _, none⟩ _ (fun _ => rfl)).drew⟩
end I

namespace N
variable {w : World} {r rm : Nat} {l : KV} {B X : List Value}
def dropPost (r rm : Nat) (l : KV) (b : Nat) (c : Int) (w : World) (e : Ending) (w' : World) : Prop := e = .returned (.int .i64 c) ∧ RowAt rowT w' r rm (kdel l b) ∧ Mod (· = r) w w'
set_option maxHeartbeats 800000 in
theorem row_drop_none (h : RowIs rowT w r rm l B X) (b : Nat) (hh : has l b = false) : Calls Try.prog 159 #[.pointer (some ⟨r, 0, none⟩), .int .u8 b] w fun e w' => e = .returned (.int .i64 6) ∧ ∃ n, w' = w.drewN n := by
  have c0 := h.c0
  have hr := h.r1
  have hp : Hid (Calls Try.prog 192 #[.pointer (some ⟨r, 0, none⟩), .int .u8 b] w fun e w' => e = .returned (.tuple #[.int .i64 (pl l b : Nat), .bool false]) ∧ ∃ n, w' = w.drewN n) := by have := row_place h b; rw [hh] at this; exact this
  generalize pl l b = i at *
  clear h hh
  go_enter Try.func159, Try.ntmps159
  go_wp2_with (first | (go_at_call 191; refine (ok_yes _ _ _ c0 hr).mono ?_; rintro e w' ⟨rfl, rfl⟩) | (go_at_call 192; refine hp.out.mono ?_; rintro e w' ⟨rfl, nd, rfl⟩))
  go_ret
  exact ⟨rfl, nd, rfl⟩
set_option maxHeartbeats 2000000 in
theorem row_drop_is (h : RowIs rowT w r rm l B X) (b : Nat) (hh : has l b = true) : Calls Try.prog 159 #[.pointer (some ⟨r, 0, none⟩), .int .u8 b] w (dropPost r rm l b 0 w) := by
  have c0 := h.c0
  have c1 := h.c1
  have hr := h.r1
  have hblk := Lib.hid h.blk
  have hp : Hid (Calls Try.prog 192 #[.pointer (some ⟨r, 0, none⟩), .int .u8 b] w fun e w' => e = .returned (.tuple #[.int .i64 (pl l b : Nat), .bool true]) ∧ ∃ n, w' = w.drewN n) := by have := row_place h b; rw [hh] at this; exact this
  have hlt := (has_yes hh).1
  have h16 := h.n16
  obtain ⟨k, hn⟩ : ∃ k, l.length = k + 1 := ⟨l.length - 1, by omega⟩
  generalize hi : pl l b = i at *
  have Hn := Lib.hid hn
  rw [hn] at hlt h16 c1 hblk
  rw [show ((k + 1 : Nat) : Int) = (k : Int) + 1 from by omega] at c1
  have HH := Lib.hid h
  have hlB := HH.out.lB
  have hlX := HH.out.lX
  have L1 : Hid (((B.drop (i + 1)).take (k - i)).length = Nat.min (k - i) (16 - i)) := by show _ = _; rw [List.length_take, List.length_drop, hlB]; show _ = min _ _; omega
  have L2 : Hid (((X.drop (i + 1)).take (k - i)).length = Nat.min (k - i) (16 - i)) := by show _ = _; rw [List.length_take, List.length_drop, hlX]; show _ = min _ _; omega
  have hle : i ≤ k := by omega
  have P1 : ∀ m, Hid (0 < ((B.drop (i + 1)).take (k - i)).length → (some (if 16 = i then (⟨r, 2, none⟩ : Addr) else ⟨r, 2 + i, none⟩)) = some ⟨r, 2 + i, none⟩ ∧ ∃ ad, (some (if i = 15 then (⟨r, 2, none⟩ : Addr) else ⟨r, 2 + (i + 1), none⟩)) = some ad ∧ ∀ j v, ((B.drop (i + 1)).take (k - i))[j]? = some v → (w.drewN m).cell? (ad.add j) = some v) := fun m h0 => by
    have hl1 := L1.out
    have : ¬ i = 15 := by
      intro e
      have : Nat.min (k - i) (16 - i) = 0 := by show min _ _ = 0; omega
      omega
    refine ⟨by rw [if_neg (by omega)], _, by rw [if_neg this], copy_seg' hblk.out 2 B (fun j hj => (rowL_get rm (k + 1) B X hlB j hj).1) i k (by omega) m⟩
  have F1 : Hid (2 + i + ((B.drop (i + 1)).take (k - i)).length ≤ (rowL rm (k + 1) B X).length) := by show _ ≤ _; rw [rowL_length, L1.out, hlB, hlX]; show _ + min _ _ ≤ _; omega
  have O1 : Hid (∀ v ∈ (B.drop (i + 1)).take (k - i), v.oneCell' = true) := fun v hv => HH.out.one v (List.mem_append_left _ (List.mem_of_mem_drop (List.mem_of_mem_take hv)))
  have hq3 : ((i : Int) + 1 ≤ (k : Int) + 1) := by omega
  have hq4 : ((k : Int) + 1 ≤ 16) := by omega
  have hq5 : ((i : Int) ≤ 16) := by omega
  have Hi := Lib.hid hi
  have Hh := Lib.hid hh
  clear h hh hn hi
  go_enter Try.func159, Try.ntmps159
  go_wp2_with (first | (go_at_call 191; refine (ok_yes _ _ _ c0 hr).mono ?_; rintro e w' ⟨rfl, rfl⟩) | (go_at_call 192; refine hp.out.mono ?_; rintro e w' ⟨rfl, nd, rfl⟩))
  have k1 : IntKind.i64.wrap ((i : Int) + 1) = (i : Int) + 1 := IntWalk.i64_in _ (by omega)
  have k2 : (0 : Int) ≤ (i : Int) + 1 := by omega
  have k3 : ((i : Int) + 1).toNat = i + 1 := by omega
  have k4 : ((k : Int) + 1).toNat = k + 1 := by omega
  go_region_law (refine step_copy_in rfl (.tmp 23) (.tmp 33) 27 27 rfl 5 underB infoB _ _ _ _ _ _ rfl rfl r (2 + i) (rowL rm (k + 1) B X) rowT hblk.out ((B.drop (i + 1)).take (k - i)) L1.out (P1 _).out F1.out O1.out ?_; intro w4 hb4 hm4)
  have e4 : Hid (splice (rowL rm (k + 1) B X) (2 + i) ((B.drop (i + 1)).take (k - i)) = rowL rm (k + 1) (splice B i ((B.drop (i + 1)).take (k - i))) X) := rowL_spliceB rm (k + 1) B X hlB i _ (by have := L1.out; have h2 : Nat.min (k - i) (16 - i) ≤ 16 - i := Nat.min_le_right _ _; omega)
  obtain ⟨B1, HB1⟩ : ∃ B1, Hid (splice B i ((B.drop (i + 1)).take (k - i)) = B1) := ⟨_, rfl⟩
  have hlB1 : B1.length = 16 := by rw [← HB1.out, splice_length' B k i hle (by omega), hlB]
  have blk4 : Hid (w4.heap[r]? = some (.cells (rowL rm (k + 1) B1 X).toArray rowT (0, 0))) := by have := hb4.out; rw [e4.out, HB1.out] at this; exact this
  have c14 : w4.cell? ⟨r, 1, none⟩ = some (.int .i64 ((k : Int) + 1)) := by rw [cell_of_blk blk4.out]; rfl
  have M4 : Hid (Mod (· = r) w w4) := ((Mod.refl (· = r) w).drewN _).trans hm4.out
  clear hb4 hm4 e4 P1 F1 O1
  generalize (if i = 15 then (⟨r, 2, none⟩ : Addr) else ⟨r, 2 + (i + 1), none⟩) = A1
  generalize (if 16 = i then (⟨r, 2, none⟩ : Addr) else ⟨r, 2 + i, none⟩) = A2
  have P2 : ∀ m, Hid (0 < ((X.drop (i + 1)).take (k - i)).length → (some (if 16 = i then (⟨r, 18, none⟩ : Addr) else ⟨r, 18 + i, none⟩)) = some ⟨r, 18 + i, none⟩ ∧ ∃ ad, (some (if i = 15 then (⟨r, 18, none⟩ : Addr) else ⟨r, 18 + (i + 1), none⟩)) = some ad ∧ ∀ j v, ((X.drop (i + 1)).take (k - i))[j]? = some v → (w4.drewN m).cell? (ad.add j) = some v) := fun m h0 => by
    have hl1 := L2.out
    have : ¬ i = 15 := by
      intro e
      have : Nat.min (k - i) (16 - i) = 0 := by show min _ _ = 0; omega
      omega
    refine ⟨by rw [if_neg (by omega)], _, by rw [if_neg this], copy_seg' blk4.out 18 X (fun j hj => (rowL_get rm (k + 1) B1 X hlB1 j hj).2) i k (by omega) m⟩
  have F2 : Hid (18 + i + ((X.drop (i + 1)).take (k - i)).length ≤ (rowL rm (k + 1) B1 X).length) := by show _ ≤ _; rw [rowL_length, L2.out, hlB1, hlX]; show _ + min _ _ ≤ _; omega
  have O2 : Hid (∀ v ∈ (X.drop (i + 1)).take (k - i), v.oneCell' = true) := fun v hv => HH.out.one v (List.mem_append_right _ (List.mem_of_mem_drop (List.mem_of_mem_take hv)))
  go_wp2_with fail
  go_region_law (refine step_copy_in rfl (.tmp 39) (.tmp 49) 196 196 rfl 28 underX infoX _ _ _ _ _ _ rfl rfl r (18 + i) (rowL rm (k + 1) B1 X) rowT blk4.out ((X.drop (i + 1)).take (k - i)) L2.out (P2 1).out F2.out O2.out ?_; intro w5 hb5 hm5)
  have e5 : Hid (splice (rowL rm (k + 1) B1 X) (18 + i) ((X.drop (i + 1)).take (k - i)) = rowL rm (k + 1) B1 (splice X i ((X.drop (i + 1)).take (k - i)))) := rowL_spliceX rm (k + 1) B1 X hlB1 i _
  obtain ⟨X1, HX1⟩ : ∃ X1, Hid (splice X i ((X.drop (i + 1)).take (k - i)) = X1) := ⟨_, rfl⟩
  have hlX1 : X1.length = 16 := by rw [← HX1.out, splice_length' X k i hle (by omega), hlX]
  have blk5 : Hid (w5.heap[r]? = some (.cells (rowL rm (k + 1) B1 X1).toArray rowT (0, 0))) := by have := hb5.out; rw [e5.out, HX1.out] at this; exact this
  have c15 : w5.cell? ⟨r, 1, none⟩ = some (.int .i64 ((k : Int) + 1)) := by rw [cell_of_blk blk5.out]; rfl
  have M5 : Hid (Mod (· = r) w w5) := (M4.out.drewN 1).trans hm5.out
  have fr5 : ∀ j, w5.frozen? ⟨r, j, none⟩ = false := fun j => frozen_of_blk blk5.out j
  obtain ⟨y1, hy1⟩ : ∃ y, w5.cell? ⟨r, 2 + k, none⟩ = some y := ⟨_, by rw [cell_of_blk blk5.out, (rowL_get rm (k + 1) B1 X1 hlB1 k (by omega)).1, List.getElem?_eq_getElem (by omega)]⟩
  obtain ⟨y2, hy2⟩ : ∃ y, w5.cell? ⟨r, 18 + k, none⟩ = some y := ⟨_, by rw [cell_of_blk blk5.out, (rowL_get rm (k + 1) B1 X1 hlB1 k (by omega)).2, List.getElem?_eq_getElem (by omega)]⟩
  clear hb5 hm5 e5 P2 F2 O2 k1 k2 k3 k4 c14
  generalize (if i = 15 then (⟨r, 18, none⟩ : Addr) else ⟨r, 18 + (i + 1), none⟩) = A3
  generalize (if 16 = i then (⟨r, 18, none⟩ : Addr) else ⟨r, 18 + i, none⟩) = A4
  go_wp2_with fail
  go_region
  go_wp2_with fail
  go_ret
  exact ⟨rfl, ⟨_, _, HH.out.remove Hh.out (.pointer none) rfl k i Hn.out Hi.out HB1.out HX1.out blk5.out⟩, (((M5.out.setCell ⟨r, _, none⟩ _ (fun _ => rfl)).setCell ⟨r, _, none⟩ _ (fun _ => rfl)).setCell ⟨r, _, none⟩ _ (fun _ => rfl)).drew⟩
end N
end Go.Proofs.Ytkonbldjmcccmaa
