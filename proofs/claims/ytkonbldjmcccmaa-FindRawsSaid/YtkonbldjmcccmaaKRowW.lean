/- Rows: the calls that make and write. -/
import Derived.Test.YtkonbldjmcccmaaKRowR
set_option linter.unusedVariables false
set_option linter.unusedSimpArgs false
namespace Go.Proofs.Ytkonbldjmcccmaa
open Go.RowKit

/-- a thing comes in at place i: the cells -/
theorem ins_cells {α : Type} (L : List α) (n i : Nat) (x : α) (hi : i ≤ n) (hn : n + 1 ≤ L.length) :
    ((splice L (i + 1) ((L.drop i).take (n - i))).set i x).take (n + 1) = (L.take n).take i ++ x :: (L.take n).drop i := by
  apply List.ext_getElem?
  intro j
  simp only [splice, List.getElem?_take, List.getElem?_set, List.getElem?_append, List.length_take, List.length_drop, List.length_append, List.getElem?_drop, List.getElem?_cons, List.getElem?_drop]
  have e1 : min (i + 1) L.length = i + 1 := by omega
  have e2 : min (n - i) (L.length - i) = n - i := by omega
  have e3 : min i (min n L.length) = i := by omega
  simp only [e1, e2, e3]
  by_cases h1 : j < i
  · simp [h1, show j < n + 1 by omega, show ¬ i = j by omega, show j < i + 1 by omega, show j < n by omega]
  · by_cases h2 : j = i
    · subst h2
      simp [show j < n + 1 by omega, show j < j + 1 + (n - j + (L.length - (j + 1 + (n - j)))) by omega]
    · by_cases h3 : j < n + 1
      · have h4 : j - (i + 1) < n - i := by omega
        have h5 : ¬ j < i + 1 := by omega
        have h6 : ¬ j - i = 0 := by omega
        have h7 : i + (j - (i + 1)) = i + (j - i - 1) := by omega
        have h8 : i + (j - i - 1) < n := by omega
        simp [h1, h3, h4, h5, h6, h7, h8, show ¬ i = j by omega]
      · have h6 : ¬ j - i = 0 := by omega
        have h8 : ¬ i + (j - i - 1) < n := by omega
        simp [h1, h3, h6, h8]
theorem splice_length {α : Type} (L : List α) (n i : Nat) (hi : i ≤ n) (hn : n + 1 ≤ L.length) : (splice L (i + 1) ((L.drop i).take (n - i))).length = L.length := by
  rw [length_splice]; simp; omega
theorem splice_mem {α : Type} (L : List α) (k : Nat) (cs : List α) (p : α → Prop) (h : ∀ v ∈ L, p v) (hc : ∀ v ∈ cs, p v) : ∀ v ∈ splice L k cs, p v := by
  intro v hv
  simp only [splice, List.mem_append] at hv
  rcases hv with hv | hv | hv
  · exact h v (List.mem_of_mem_take hv)
  · exact hc v hv
  · exact h v (List.mem_of_mem_drop hv)
section
variable {w : World} {r rm : Nat} {l : KV} {B X : List Value}
/-- the block of a row, in short -/
def rowL (rm n : Nat) (B X : List Value) : List Value := .int .i64 rm :: .int .i64 n :: (B ++ X)
theorem rowL_setX (rm n : Nat) (B X : List Value) (hB : B.length = 16) (i : Nat) (x : Value) : (rowL rm n B X).set (18 + i) x = rowL rm n B (X.set i x) := by
  rw [rowL, show 18 + i = (16 + i + 1) + 1 from by omega, List.set_cons_succ, List.set_cons_succ, List.set_append_right _ _ (by omega), hB, show 16 + i - 16 = i from by omega, rowL]
theorem rowL_setB (rm n : Nat) (B X : List Value) (hB : B.length = 16) (i : Nat) (hi : i < 16) (x : Value) : (rowL rm n B X).set (2 + i) x = rowL rm n (B.set i x) X := by
  rw [rowL, show 2 + i = (i + 1) + 1 from by omega, List.set_cons_succ, List.set_cons_succ, List.set_append_left _ _ (by omega), rowL]
theorem setCell_list (w : World) (g i : Nat) (cur : List Value) (t : Nat) (v : Value) (hg : w.heap[g]? = some (.cells cur.toArray t (0, 0))) : w.setCell ⟨g, i, none⟩ v = w.setRow g (cur.set i v).toArray := by
  rw [setCell_eq_setRow w g i _ t (0, 0) v hg]; simp
theorem RowIs.set {ty : Nat} (h : RowIs ty w r rm l B X) {b : Nat} (hh : has l b = true) (hb : b < 256) (x : Value) (hx : x.oneCell' = true) (w' : World) (hw : w'.heap[r]? = some (.cells (rowL rm l.length B (X.set (pl l b) x)).toArray ty (0, 0))) : RowIs ty w' r rm (kins l b x) B (X.set (pl l b) x) := by
  have hk := ins_yes h.srt hh x
  obtain ⟨h1, h2⟩ := has_yes hh
  have e1 : (kins l b x).length = l.length := by rw [hk]; simp; omega
  have hkey : l[pl l b].1 = b := by
    have : l.keys.getD (pl l b) 0 = l[pl l b].1 := by simp [KV.keys, List.getD, List.getElem?_map, List.getElem?_eq_getElem h1]
    omega
  have e2 : kins l b x = l.set (pl l b) (b, x) := by
    rw [hk, List.set_eq_take_append_cons_drop, if_pos h1]
  refine ⟨by rw [hw, e1]; rfl, h.lB, by simp [h.lX], ?_, ?_, by rw [e1]; exact h.le, h.r1, h.r16, h.srt.ins b x, h.low.ins hb x, ?_⟩
  · rw [e1, h.bs, e2, List.map_set]
    apply List.ext_getElem?
    intro j
    rw [List.getElem?_set]
    split
    · rename_i e; subst e
      simp [List.getElem?_map, List.getElem?_eq_getElem h1, h1, hkey]
    · rfl
  · rw [e1, e2, List.map_set, ← h.xs, List.take_set]
  · intro v hv
    rcases List.mem_append.1 hv with hv | hv
    · exact h.one v (List.mem_append_left _ hv)
    · rcases List.mem_or_eq_of_mem_set hv with hv | rfl
      · exact h.one v (List.mem_append_right _ hv)
      · exact hx
end
theorem rowL_get (rm n : Nat) (B X : List Value) (hB : B.length = 16) (j : Nat) (hj : j < 16) : (rowL rm n B X)[2 + j]? = B[j]? ∧ (rowL rm n B X)[18 + j]? = X[j]? := by
  constructor
  · rw [rowL, show 2 + j = (j + 1) + 1 from by omega, List.getElem?_cons_succ, List.getElem?_cons_succ, List.getElem?_append_left (by omega)]
  · rw [rowL, show 18 + j = (16 + j + 1) + 1 from by omega, List.getElem?_cons_succ, List.getElem?_cons_succ, List.getElem?_append_right (by omega), hB, show 16 + j - 16 = j from by omega]
theorem rowL_spliceB (rm n : Nat) (B X : List Value) (hB : B.length = 16) (k : Nat) (cs : List Value) (h : k + cs.length ≤ 16) : splice (rowL rm n B X) (2 + k) cs = rowL rm n (splice B k cs) X := by
  unfold splice rowL
  rw [show 2 + k + cs.length = (k + cs.length + 1) + 1 from by omega, show 2 + k = (k + 1) + 1 from by omega]
  simp only [List.take_succ_cons, List.drop_succ_cons, List.cons_append]
  rw [List.take_append_of_le_length (by omega), List.drop_append_of_le_length (by omega)]
  simp [List.append_assoc]
theorem rowL_spliceX (rm n : Nat) (B X : List Value) (hB : B.length = 16) (k : Nat) (cs : List Value) : splice (rowL rm n B X) (18 + k) cs = rowL rm n B (splice X k cs) := by
  unfold splice rowL
  rw [show 18 + k + cs.length = (16 + k + cs.length + 1) + 1 from by omega, show 18 + k = (16 + k + 1) + 1 from by omega]
  simp only [List.take_succ_cons, List.drop_succ_cons, List.cons_append]
  rw [List.take_append, List.drop_append, List.take_of_length_le (show B.length ≤ 16 + k by omega), List.drop_eq_nil_of_le (show B.length ≤ 16 + k + cs.length by omega)]
  simp only [hB, List.nil_append, List.append_assoc, show 16 + k - 16 = k from by omega, show 16 + k + cs.length - 16 = k + cs.length from by omega]
theorem rowL_length (rm n : Nat) (B X : List Value) : (rowL rm n B X).length = B.length + X.length + 2 := by simp [rowL]
/-- what the copies ask -/
theorem copy_seg {w : World} {r : Nat} {C : List Value} {t : Nat} (hg : w.heap[r]? = some (.cells C.toArray t (0, 0))) (base : Nat) (A : List Value) (hA : ∀ j, j < 16 → C[base + j]? = A[j]?) (i n : Nat) (hn : n ≤ 16) (m : Nat) :
    ∀ j v, ((A.drop i).take (n - i))[j]? = some v → (w.drewN m).cell? ((⟨r, base + i, none⟩ : Addr).add j) = some v := by
  intro j v hv
  rw [List.getElem?_take] at hv
  split at hv
  · rename_i hj
    rw [List.getElem?_drop] at hv
    have e : (⟨r, base + i, none⟩ : Addr).add j = ⟨r, base + i + j, none⟩ := by unfold Addr.add; split <;> simp_all
    rw [e, World.cell?_drewN, cell_of_blk hg, show base + i + j = base + (i + j) from by omega, hA _ (by omega)]
    exact hv
  · simp at hv
theorem mem_seg {A : List Value} {i n : Nat} {p : Value → Prop} (h : ∀ v ∈ A, p v) : ∀ v ∈ (A.drop i).take (n - i), p v := fun v hv => h v (List.mem_of_mem_drop (List.mem_of_mem_take hv))
theorem rowL_set1 (rm n : Nat) (B X : List Value) (v : Value) : (rowL rm n B X).set 1 v = .int .i64 rm :: v :: (B ++ X) := rfl
theorem RowIs.insert {ty : Nat} {w w5 : World} {r rm : Nat} {l : KV} {B X : List Value} (h : RowIs ty w r rm l B X) {b : Nat} (hh : has l b = false) (hb : b < 256) (x : Value) (hx : x.oneCell' = true) (n i : Nat) {B1 X1 : List Value}
    (hn : l.length = n) (hi : pl l b = i) (hlt : n < rm) (HB1 : splice B (i + 1) ((B.drop i).take (n - i)) = B1) (HX1 : splice X (i + 1) ((X.drop i).take (n - i)) = X1)
    (blk5 : w5.heap[r]? = some (.cells (rowL rm n B1 X1).toArray ty (0, 0))) :
    RowIs ty ((((w5.setCell ⟨r, 2 + i, none⟩ (.int .u8 b)).setCell ⟨r, 18 + i, none⟩ x).setCell ⟨r, 1, none⟩ (.int .i64 ((n : Int) + 1))).drew) r rm (kins l b x) (B1.set i (.int .u8 b)) (X1.set i x) := by
  have hle : i ≤ n := by rw [← hi, ← hn]; exact pl_le l b
  have h16 := h.r16
  have hlB1 : B1.length = 16 := by rw [← HB1, splice_length B n i hle (by have := h.lB; omega), h.lB]
  have hlX1 : X1.length = 16 := by rw [← HX1, splice_length X n i hle (by have := h.lX; omega), h.lX]
  have hk := ins_no h.srt hh x
  rw [hi] at hk
  have e1 : (kins l b x).length = n + 1 := by rw [hk]; simp; omega
  refine ⟨?_, by simp [hlB1], by simp [hlX1], ?_, ?_, by rw [e1]; omega, h.r1, h.r16, h.srt.ins b x, h.low.ins hb x, ?_⟩
  · have s1 := setCell_list w5 r (2 + i) _ ty (.int .u8 b) blk5
    rw [rowL_setB _ _ _ _ hlB1 i (by omega)] at s1
    have b1 := setRow_heap w5 r _ (rowL rm n (B1.set i (.int .u8 b)) X1).toArray _ _ blk5
    rw [← s1] at b1
    have s2 := setCell_list _ r (18 + i) _ ty x b1
    rw [rowL_setX _ _ _ _ (by simp [hlB1])] at s2
    have b2 := setRow_heap _ r _ (rowL rm n (B1.set i (.int .u8 b)) (X1.set i x)).toArray _ _ b1
    rw [← s2] at b2
    have s3 := setCell_list _ r 1 _ ty (.int .i64 ((n : Int) + 1)) b2
    rw [rowL_set1] at s3
    have b3 := setRow_heap _ r _ (.int .i64 rm :: .int .i64 ((n : Int) + 1) :: (B1.set i (.int .u8 b) ++ X1.set i x)).toArray _ _ b2
    rw [← s3] at b3
    rw [e1]
    exact b3
  · rw [e1, ← HB1, ins_cells B n i _ hle (by have := h.lB; omega), ← hn, h.bs, hk]
    simp [List.map_take, List.map_drop]
  · rw [e1, ← HX1, ins_cells X n i _ hle (by have := h.lX; omega), ← hn, h.xs, hk]
    simp [List.map_take, List.map_drop]
  · intro v hv
    have oB : ∀ v ∈ B, v.oneCell' = true := fun v hv => h.one v (List.mem_append_left _ hv)
    have oX : ∀ v ∈ X, v.oneCell' = true := fun v hv => h.one v (List.mem_append_right _ hv)
    rcases List.mem_append.1 hv with hv | hv
    · rcases List.mem_or_eq_of_mem_set hv with hv | rfl
      · rw [← HB1] at hv; exact splice_mem B _ _ (fun v => v.oneCell' = true) oB (mem_seg oB) v hv
      · rfl
    · rcases List.mem_or_eq_of_mem_set hv with hv | rfl
      · rw [← HX1] at hv; exact splice_mem X _ _ (fun v => v.oneCell' = true) oX (mem_seg oX) v hv
      · exact hx
namespace I
def newPost (rm : Nat) (w : World) (e : Ending) (w' : World) : Prop := e = .returned (.tuple #[.pointer (some ⟨w.heap.size, 0, none⟩), .int .i64 0]) ∧ RowAt rowT w' w.heap.size rm [] ∧ Below w.heap.size w w'
theorem row_new (rm : Nat) (h1 : 1 ≤ rm) (h16 : rm ≤ 16) (w : World) : Calls Try.prog 181 #[.int .i64 rm] w (newPost rm w) := by
  have hw : newPost rm w (.returned (.tuple #[.pointer (some ⟨w.heap.size, 0, none⟩), .int .i64 0])) (w.alloc (.cells (.int .i64 rm :: .int .i64 0 :: (List.replicate 16 (.int .u8 0) ++ List.replicate 16 (.int .i64 0))).toArray rowT)) :=
    ⟨rfl, ⟨List.replicate 16 (.int .u8 0), List.replicate 16 (.int .i64 0), ⟨by rw [heap_alloc_new]; rfl, by simp, by simp, rfl, rfl, by simp, h1, h16, Srt.nil, by intro p hp; simp at hp, by intro v hv; simp [List.mem_replicate] at hv; rcases hv with rfl | rfl <;> rfl⟩⟩, (Below.refl _ _).alloc (Nat.le_refl _) _⟩
  have hq : (rm : Int) ≤ 16 := by omega
  have hq1 : (1 : Int) ≤ rm := by omega
  go_enter Try.func181, Try.ntmps181
  go_wp2_with fail
  go_ret2
  exact hw
def copyPost (rm : Nat) (l : KV) (w : World) (e : Ending) (w' : World) : Prop := e = .returned (.pointer (some ⟨w.heap.size, 0, none⟩)) ∧ RowAt rowT w' w.heap.size rm l ∧ Below w.heap.size w w'
variable {w : World} {r rm : Nat} {l : KV} {B X : List Value}
theorem row_copy_nil (w : World) : Calls Try.prog 144 #[.pointer none] w fun e w' => e = .returned (.pointer none) ∧ w = w' := by
  go_enter Try.func144, Try.ntmps144
  go_wp2_with (go_at_call 183; refine (ok_nil _).mono ?_; rintro e w' ⟨rfl, rfl⟩)
  go_ret
  exact ⟨rfl, rfl⟩
theorem row_info : (Try.prog.info? rowT).map (·.size) = some 34 := by kernel_rfl
set_option maxHeartbeats 800000 in
set_option maxRecDepth 100000 in
theorem row_copy (h : RowIs rowT w r rm l B X) : Calls Try.prog 144 #[.pointer (some ⟨r, 0, none⟩)] w (copyPost rm l w) := by
  obtain ⟨cs, hcs⟩ : ∃ cs : List Value, cs = .int .i64 rm :: .int .i64 l.length :: (B ++ X) := ⟨_, rfl⟩
  have hlen : cs.length = 34 := by rw [hcs]; simp [h.lB, h.lX]
  have hblk := Lib.hid h.blk
  rw [← hcs] at hblk
  have hone : ∀ v ∈ cs, v.oneCell' = true := by
    rw [hcs]; intro v hv
    rcases List.mem_cons.1 hv with rfl | hv
    · rfl
    · rcases List.mem_cons.1 hv with rfl | hv
      · rfl
      · exact h.one v hv
  have Hone := Lib.hid hone
  have Hlen := Lib.hid hlen
  have hw : ∀ z : Array Value, copyPost rm l w (.returned (.pointer (some ⟨w.heap.size, 0, none⟩))) ((w.alloc (.cells z rowT)).setRow w.heap.size cs.toArray) := fun z => by
    rw [World.setRow_alloc_new]
    exact ⟨rfl, ⟨B, X, ⟨by rw [heap_alloc_new, hcs], h.lB, h.lX, h.bs, h.xs, h.le, h.r1, h.r16, h.srt, h.low, h.one⟩⟩, (Below.refl _ _).alloc (Nat.le_refl _) _⟩
  have c0 := h.c0
  have hr := h.r1
  have hlt := h.lt
  clear h hcs hone hlen
  have hz : Hid ((Try.prog.info? rowT).map (·.size) = some cs.toArray.size) := by show _ = _; rw [row_info]; have := Hlen.out; simp [this]
  have ha : Hid (cs.toArray.all (·.oneCell') = true) := by show _ = _; rw [Array.all_eq_true_iff_forall_mem]; intro v hv; exact Hone.out v (by simpa using hv)
  have hs : Hid (34 = cs.toArray.size) := by show _ = _; have := Hlen.out; simp [this]
  go_enter Try.func144, Try.ntmps144
  go_wp2_with (first | (go_at_call 183; refine (ok_yes _ _ _ c0 hr).mono ?_; rintro e w' ⟨rfl, rfl⟩) | (refine wpList_load_row rfl rowT _ rfl r rfl rowT cs.toArray (0, 0) _ hblk.out Try.underlying183 rfl hz.out ?_) | (refine wpList_store_row rfl rowT (.tmp 3) (.tmp 9) rfl _ cs.toArray rfl rfl rowT _ (heap_alloc_new _ _) hz.out hs.out ha.out ?_))
  go_ret
  exact hw _
def setPost (r rm : Nat) (l : KV) (b : Nat) (x : Value) (c : Int) (w : World) (e : Ending) (w' : World) : Prop := e = .returned (.int .i64 c) ∧ RowAt rowT w' r rm (kins l b x) ∧ Mod (· = r) w w'
set_option maxHeartbeats 800000 in
theorem row_set_is (h : RowIs rowT w r rm l B X) (b : Nat) (hb : b < 256) (hh : has l b = true) (x : Int) : Calls Try.prog 186 #[.pointer (some ⟨r, 0, none⟩), .int .u8 b, .int .i64 x] w (setPost r rm l b (.int .i64 x) 0 w) := by
  have c0 := h.c0
  have hr := h.r1
  have hp : Hid (Calls Try.prog 188 #[.pointer (some ⟨r, 0, none⟩), .int .u8 b] w fun e w' => e = .returned (.tuple #[.int .i64 (pl l b : Nat), .bool true]) ∧ ∃ n, w' = w.drewN n) := by have := row_place h b; rw [hh] at this; exact this
  obtain ⟨h1, h2⟩ := has_yes hh
  have h16 : pl l b < 16 := by have := h.n16; omega
  have hcx := h.cx (pl l b) h1 (0, undef)
  have hfr := frozen_of_blk h.blk (18 + pl l b)
  have hw : ∀ n, Hid (setPost r rm l b (.int .i64 x) 0 w (.returned (.int .i64 0)) ((w.drewN n).setCell ⟨r, 18 + pl l b, none⟩ (.int .i64 x))) := fun n =>
    ⟨rfl, ⟨B, _, h.set hh hb (.int .i64 x) rfl _ (by
      rw [setCell_list (w.drewN n) r _ _ _ (.int .i64 x) h.blk, setRow_heap (w.drewN n) r _ _ _ _ h.blk]
      show some (Obj.cells ((rowL rm l.length B X).set _ _).toArray _ _) = _
      rw [rowL_setX _ _ _ _ h.lB])⟩, ((Mod.refl (· = r) w).drewN n).setCell ⟨r, 18 + pl l b, none⟩ (.int .i64 x) (fun _ => rfl)⟩
  generalize (l.getD (pl l b) (0, undef)).2 = y at *
  generalize pl l b = i at *
  clear h h2 h1 hh
  go_enter Try.func186, Try.ntmps186
  go_wp2_with (first | (go_at_call 183; refine (ok_yes _ _ _ c0 hr).mono ?_; rintro e w' ⟨rfl, rfl⟩) | (go_at_call 188; refine hp.out.mono ?_; rintro e w' ⟨rfl, nd, rfl⟩))
  go_ret
  exact (hw nd).out
theorem underB : Try.prog.underlying 27 = some (.slice 5) := by kernel_rfl
theorem infoB : (Try.prog.info? 5).map (·.size) = some 1 := by kernel_rfl
theorem underX : Try.prog.underlying 23 = some (.slice 3) := by kernel_rfl
theorem infoX : (Try.prog.info? 3).map (·.size) = some 1 := by kernel_rfl
set_option maxHeartbeats 800000 in
theorem row_set_full (h : RowIs rowT w r rm l B X) (b : Nat) (hh : has l b = false) (hf : l.length = rm) (x : Int) : Calls Try.prog 186 #[.pointer (some ⟨r, 0, none⟩), .int .u8 b, .int .i64 x] w fun e w' => e = .returned (.int .i64 10) ∧ ∃ n, w' = w.drewN n := by
  have c0 := h.c0
  have c1 := h.c1
  rw [hf] at c1
  have hr := h.r1
  have hp : Hid (Calls Try.prog 188 #[.pointer (some ⟨r, 0, none⟩), .int .u8 b] w fun e w' => e = .returned (.tuple #[.int .i64 (pl l b : Nat), .bool false]) ∧ ∃ n, w' = w.drewN n) := by have := row_place h b; rw [hh] at this; exact this
  generalize pl l b = i at *
  clear h hh hf
  go_enter Try.func186, Try.ntmps186
  go_wp2_with (first | (go_at_call 183; refine (ok_yes _ _ _ c0 hr).mono ?_; rintro e w' ⟨rfl, rfl⟩) | (go_at_call 188; refine hp.out.mono ?_; rintro e w' ⟨rfl, nd, rfl⟩))
  go_quiet (fail)
  go_wp2_with fail
  go_ret
  exact ⟨rfl, nd + nq, by simp⟩
set_option maxHeartbeats 2000000 in
theorem row_set_new (h : RowIs rowT w r rm l B X) (b : Nat) (hb : b < 256) (hh : has l b = false) (hf : l.length < rm) (x : Int) : Calls Try.prog 186 #[.pointer (some ⟨r, 0, none⟩), .int .u8 b, .int .i64 x] w (setPost r rm l b (.int .i64 x) 0 w) := by
  have c0 := h.c0
  have c1 := h.c1
  have hr := h.r1
  have hblk := Lib.hid h.blk
  have hp : Hid (Calls Try.prog 188 #[.pointer (some ⟨r, 0, none⟩), .int .u8 b] w fun e w' => e = .returned (.tuple #[.int .i64 (pl l b : Nat), .bool false]) ∧ ∃ n, w' = w.drewN n) := by have := row_place h b; rw [hh] at this; exact this
  have hle := pl_le l b
  have h16 : rm ≤ 16 := h.r16
  generalize hn : l.length = n at *
  generalize hi : pl l b = i at *
  have HH := Lib.hid h
  have hlB := HH.out.lB
  have hlX := HH.out.lX
  have L1 : Hid (((B.drop i).take (n - i)).length = Nat.min (n - i) (15 - i)) := by show _ = _; rw [List.length_take, List.length_drop, hlB]; show _ = min _ _; omega
  have L2 : Hid (((X.drop i).take (n - i)).length = Nat.min (n - i) (15 - i)) := by show _ = _; rw [List.length_take, List.length_drop, hlX]; show _ = min _ _; omega
  have P1 : ∀ m, Hid (0 < ((B.drop i).take (n - i)).length → (some (if i = 15 then (⟨r, 2, none⟩ : Addr) else ⟨r, 2 + (i + 1), none⟩)) = some ⟨r, 2 + (i + 1), none⟩ ∧ ∃ ad, (some (if 16 = i then (⟨r, 2, none⟩ : Addr) else ⟨r, 2 + i, none⟩)) = some ad ∧ ∀ j v, ((B.drop i).take (n - i))[j]? = some v → (w.drewN m).cell? (ad.add j) = some v) := fun m h0 => by
    have hl1 := L1.out
    have : ¬ i = 15 := by
      intro e
      have : Nat.min (n - i) (15 - i) = 0 := by show min _ _ = 0; omega
      omega
    refine ⟨by rw [if_neg this], _, by rw [if_neg (by omega)], copy_seg hblk.out 2 B (fun j hj => (rowL_get rm n B X hlB j hj).1) i n (by omega) m⟩
  have F1 : Hid (2 + (i + 1) + ((B.drop i).take (n - i)).length ≤ (rowL rm n B X).length) := by show _ ≤ _; rw [rowL_length, L1.out, hlB, hlX]; show _ + min _ _ ≤ _; omega
  have O1 : Hid (∀ v ∈ (B.drop i).take (n - i), v.oneCell' = true) := mem_seg fun v hv => HH.out.one v (List.mem_append_left _ hv)
  have hq1 : ((n : Int) == (rm : Int)) = false := beq_eq_false_iff_ne.mpr (by omega)
  have hq2 : (n == rm) = false := beq_eq_false_iff_ne.mpr (by omega)
  have hq3 : ((i : Int) + 1 ≤ 16) := by omega
  have hq4 : ((n : Int) ≤ 16) := by omega
  have hq5 : ((i : Int) ≤ n) := by omega
  have Hn := Lib.hid hn
  have Hi := Lib.hid hi
  have Hh := Lib.hid hh
  clear h hh hn hi
  go_enter Try.func186, Try.ntmps186
  go_wp2_with (first | (go_at_call 183; refine (ok_yes _ _ _ c0 hr).mono ?_; rintro e w' ⟨rfl, rfl⟩) | (go_at_call 188; refine hp.out.mono ?_; rintro e w' ⟨rfl, nd, rfl⟩))
  go_quiet (fail)
  go_wp2_with fail
  have k1 : IntKind.i64.wrap ((i : Int) + 1) = (i : Int) + 1 := IntWalk.i64_in _ (by omega)
  have k2 : (0 : Int) ≤ (i : Int) + 1 := by omega
  have k3 : ((i : Int) + 1).toNat = i + 1 := by omega
  go_region_law (refine step_copy_in rfl (.tmp 41) (.tmp 50) 27 27 rfl 5 underB infoB _ _ _ _ _ _ rfl rfl r (2 + (i + 1)) (rowL rm n B X) rowT hblk.out ((B.drop i).take (n - i)) L1.out (P1 _).out F1.out O1.out ?_; intro w4 hb4 hm4)
  have e4 : Hid (splice (rowL rm n B X) (2 + (i + 1)) ((B.drop i).take (n - i)) = rowL rm n (splice B (i + 1) ((B.drop i).take (n - i))) X) := rowL_spliceB rm n B X hlB (i + 1) _ (by have := L1.out; have h2 : Nat.min (n - i) (15 - i) ≤ 15 - i := Nat.min_le_right _ _; omega)
  obtain ⟨B1, HB1⟩ : ∃ B1, Hid (splice B (i + 1) ((B.drop i).take (n - i)) = B1) := ⟨_, rfl⟩
  have hlB1 : B1.length = 16 := by rw [← HB1.out, splice_length B n i hle (by omega), hlB]
  have blk4 : Hid (w4.heap[r]? = some (.cells (rowL rm n B1 X).toArray rowT (0, 0))) := by have := hb4.out; rw [e4.out, HB1.out] at this; exact this
  have c14 : w4.cell? ⟨r, 1, none⟩ = some (.int .i64 n) := by rw [cell_of_blk blk4.out]; rfl
  have M4 : Hid (Mod (· = r) w w4) := ((Mod.refl (· = r) w).drewN _).trans hm4.out
  clear hb4 hm4 e4 P1 F1 O1
  generalize (if i = 15 then (⟨r, 2, none⟩ : Addr) else ⟨r, 2 + (i + 1), none⟩) = A1
  generalize (if 16 = i then (⟨r, 2, none⟩ : Addr) else ⟨r, 2 + i, none⟩) = A2
  have P2 : ∀ m, Hid (0 < ((X.drop i).take (n - i)).length → (some (if i = 15 then (⟨r, 18, none⟩ : Addr) else ⟨r, 18 + (i + 1), none⟩)) = some ⟨r, 18 + (i + 1), none⟩ ∧ ∃ ad, (some (if 16 = i then (⟨r, 18, none⟩ : Addr) else ⟨r, 18 + i, none⟩)) = some ad ∧ ∀ j v, ((X.drop i).take (n - i))[j]? = some v → (w4.drewN m).cell? (ad.add j) = some v) := fun m h0 => by
    have hl1 := L2.out
    have : ¬ i = 15 := by
      intro e
      have : Nat.min (n - i) (15 - i) = 0 := by show min _ _ = 0; omega
      omega
    refine ⟨by rw [if_neg this], _, by rw [if_neg (by omega)], copy_seg blk4.out 18 X (fun j hj => (rowL_get rm n B1 X hlB1 j hj).2) i n (by omega) m⟩
  have F2 : Hid (18 + (i + 1) + ((X.drop i).take (n - i)).length ≤ (rowL rm n B1 X).length) := by show _ ≤ _; rw [rowL_length, L2.out, hlB1, hlX]; show _ + min _ _ ≤ _; omega
  have O2 : Hid (∀ v ∈ (X.drop i).take (n - i), v.oneCell' = true) := mem_seg fun v hv => HH.out.one v (List.mem_append_right _ hv)
  go_wp2_with fail
  go_region_law (refine step_copy_in rfl (.tmp 57) (.tmp 66) 23 23 rfl 3 underX infoX _ _ _ _ _ _ rfl rfl r (18 + (i + 1)) (rowL rm n B1 X) rowT blk4.out ((X.drop i).take (n - i)) L2.out (P2 1).out F2.out O2.out ?_; intro w5 hb5 hm5)
  have e5 : Hid (splice (rowL rm n B1 X) (18 + (i + 1)) ((X.drop i).take (n - i)) = rowL rm n B1 (splice X (i + 1) ((X.drop i).take (n - i)))) := rowL_spliceX rm n B1 X hlB1 (i + 1) _
  obtain ⟨X1, HX1⟩ : ∃ X1, Hid (splice X (i + 1) ((X.drop i).take (n - i)) = X1) := ⟨_, rfl⟩
  have hlX1 : X1.length = 16 := by rw [← HX1.out, splice_length X n i hle (by omega), hlX]
  have blk5 : Hid (w5.heap[r]? = some (.cells (rowL rm n B1 X1).toArray rowT (0, 0))) := by have := hb5.out; rw [e5.out, HX1.out] at this; exact this
  have c15 : w5.cell? ⟨r, 1, none⟩ = some (.int .i64 n) := by rw [cell_of_blk blk5.out]; rfl
  have M5 : Hid (Mod (· = r) w w5) := (M4.out.drewN 1).trans hm5.out
  have fr5 : ∀ j, w5.frozen? ⟨r, j, none⟩ = false := fun j => frozen_of_blk blk5.out j
  obtain ⟨y1, hy1⟩ : ∃ y, w5.cell? ⟨r, 2 + i, none⟩ = some y := ⟨_, by rw [cell_of_blk blk5.out, (rowL_get rm n B1 X1 hlB1 i (by omega)).1, List.getElem?_eq_getElem (by omega)]⟩
  obtain ⟨y2, hy2⟩ : ∃ y, w5.cell? ⟨r, 18 + i, none⟩ = some y := ⟨_, by rw [cell_of_blk blk5.out, (rowL_get rm n B1 X1 hlB1 i (by omega)).2, List.getElem?_eq_getElem (by omega)]⟩
  clear hb5 hm5 e5 P2 F2 O2 k1 k2 k3 c14
  generalize (if i = 15 then (⟨r, 18, none⟩ : Addr) else ⟨r, 18 + (i + 1), none⟩) = A3
  generalize (if 16 = i then (⟨r, 18, none⟩ : Addr) else ⟨r, 18 + i, none⟩) = A4
  go_wp2_with fail
  go_region
  go_wp2_with fail
  go_ret
  exact ⟨rfl, ⟨_, _, HH.out.insert Hh.out hb (.int .i64 x) rfl n i Hn.out Hi.out hf HB1.out HX1.out blk5.out⟩, (((M5.out.setCell ⟨r, _, none⟩ _ (fun _ => rfl)).setCell ⟨r, _, none⟩ _ (fun _ => rfl)).setCell ⟨r, _, none⟩ _ (fun _ => rfl)).drew⟩
end I

namespace N
def newPost (rm : Nat) (w : World) (e : Ending) (w' : World) : Prop := e = .returned (.tuple #[.pointer (some ⟨w.heap.size, 0, none⟩), .int .i64 0]) ∧ RowAt rowT w' w.heap.size rm [] ∧ Below w.heap.size w w'
theorem row_new (rm : Nat) (h1 : 1 ≤ rm) (h16 : rm ≤ 16) (w : World) : Calls Try.prog 201 #[.int .i64 rm] w (newPost rm w) := by
  have hw : newPost rm w (.returned (.tuple #[.pointer (some ⟨w.heap.size, 0, none⟩), .int .i64 0])) (w.alloc (.cells (.int .i64 rm :: .int .i64 0 :: (List.replicate 16 (.int .u8 0) ++ List.replicate 16 (.pointer none))).toArray rowT)) :=
    ⟨rfl, ⟨List.replicate 16 (.int .u8 0), List.replicate 16 (.pointer none), ⟨by rw [heap_alloc_new]; rfl, by simp, by simp, rfl, rfl, by simp, h1, h16, Srt.nil, by intro p hp; simp at hp, by intro v hv; simp [List.mem_replicate] at hv; rcases hv with rfl | rfl <;> rfl⟩⟩, (Below.refl _ _).alloc (Nat.le_refl _) _⟩
  have hq : (rm : Int) ≤ 16 := by omega
  have hq1 : (1 : Int) ≤ rm := by omega
  go_enter Try.func201, Try.ntmps201
  go_wp2_with fail
  go_ret2
  exact hw
def copyPost (rm : Nat) (l : KV) (w : World) (e : Ending) (w' : World) : Prop := e = .returned (.pointer (some ⟨w.heap.size, 0, none⟩)) ∧ RowAt rowT w' w.heap.size rm l ∧ Below w.heap.size w w'
variable {w : World} {r rm : Nat} {l : KV} {B X : List Value}
theorem row_copy_nil (w : World) : Calls Try.prog 154 #[.pointer none] w fun e w' => e = .returned (.pointer none) ∧ w = w' := by
  go_enter Try.func154, Try.ntmps154
  go_wp2_with (go_at_call 191; refine (ok_nil _).mono ?_; rintro e w' ⟨rfl, rfl⟩)
  go_ret
  exact ⟨rfl, rfl⟩
theorem row_info : (Try.prog.info? rowT).map (·.size) = some 34 := by kernel_rfl
set_option maxHeartbeats 800000 in
set_option maxRecDepth 100000 in
theorem row_copy (h : RowIs rowT w r rm l B X) : Calls Try.prog 154 #[.pointer (some ⟨r, 0, none⟩)] w (copyPost rm l w) := by
  obtain ⟨cs, hcs⟩ : ∃ cs : List Value, cs = .int .i64 rm :: .int .i64 l.length :: (B ++ X) := ⟨_, rfl⟩
  have hlen : cs.length = 34 := by rw [hcs]; simp [h.lB, h.lX]
  have hblk := Lib.hid h.blk
  rw [← hcs] at hblk
  have hone : ∀ v ∈ cs, v.oneCell' = true := by
    rw [hcs]; intro v hv
    rcases List.mem_cons.1 hv with rfl | hv
    · rfl
    · rcases List.mem_cons.1 hv with rfl | hv
      · rfl
      · exact h.one v hv
  have Hone := Lib.hid hone
  have Hlen := Lib.hid hlen
  have hw : ∀ z : Array Value, copyPost rm l w (.returned (.pointer (some ⟨w.heap.size, 0, none⟩))) ((w.alloc (.cells z rowT)).setRow w.heap.size cs.toArray) := fun z => by
    rw [World.setRow_alloc_new]
    exact ⟨rfl, ⟨B, X, ⟨by rw [heap_alloc_new, hcs], h.lB, h.lX, h.bs, h.xs, h.le, h.r1, h.r16, h.srt, h.low, h.one⟩⟩, (Below.refl _ _).alloc (Nat.le_refl _) _⟩
  have c0 := h.c0
  have hr := h.r1
  have hlt := h.lt
  clear h hcs hone hlen
  have hz : Hid ((Try.prog.info? rowT).map (·.size) = some cs.toArray.size) := by show _ = _; rw [row_info]; have := Hlen.out; simp [this]
  have ha : Hid (cs.toArray.all (·.oneCell') = true) := by show _ = _; rw [Array.all_eq_true_iff_forall_mem]; intro v hv; exact Hone.out v (by simpa using hv)
  have hs : Hid (34 = cs.toArray.size) := by show _ = _; have := Hlen.out; simp [this]
  go_enter Try.func154, Try.ntmps154
  go_wp2_with (first | (go_at_call 191; refine (ok_yes _ _ _ c0 hr).mono ?_; rintro e w' ⟨rfl, rfl⟩) | (refine wpList_load_row rfl rowT _ rfl r rfl rowT cs.toArray (0, 0) _ hblk.out Try.underlying195 rfl hz.out ?_) | (refine wpList_store_row rfl rowT (.tmp 3) (.tmp 9) rfl _ cs.toArray rfl rfl rowT _ (heap_alloc_new _ _) hz.out hs.out ha.out ?_))
  go_ret
  exact hw _
def setPost (r rm : Nat) (l : KV) (b : Nat) (x : Value) (c : Int) (w : World) (e : Ending) (w' : World) : Prop := e = .returned (.int .i64 c) ∧ RowAt rowT w' r rm (kins l b x) ∧ Mod (· = r) w w'
set_option maxHeartbeats 800000 in
theorem row_set_is (h : RowIs rowT w r rm l B X) (b : Nat) (hb : b < 256) (hh : has l b = true) (x : (Option Addr)) : Calls Try.prog 197 #[.pointer (some ⟨r, 0, none⟩), .int .u8 b, .pointer x] w (setPost r rm l b (.pointer x) 0 w) := by
  have c0 := h.c0
  have hr := h.r1
  have hp : Hid (Calls Try.prog 192 #[.pointer (some ⟨r, 0, none⟩), .int .u8 b] w fun e w' => e = .returned (.tuple #[.int .i64 (pl l b : Nat), .bool true]) ∧ ∃ n, w' = w.drewN n) := by have := row_place h b; rw [hh] at this; exact this
  obtain ⟨h1, h2⟩ := has_yes hh
  have h16 : pl l b < 16 := by have := h.n16; omega
  have hcx := h.cx (pl l b) h1 (0, undef)
  have hfr := frozen_of_blk h.blk (18 + pl l b)
  have hw : ∀ n, Hid (setPost r rm l b (.pointer x) 0 w (.returned (.int .i64 0)) ((w.drewN n).setCell ⟨r, 18 + pl l b, none⟩ (.pointer x))) := fun n =>
    ⟨rfl, ⟨B, _, h.set hh hb (.pointer x) rfl _ (by
      rw [setCell_list (w.drewN n) r _ _ _ (.pointer x) h.blk, setRow_heap (w.drewN n) r _ _ _ _ h.blk]
      show some (Obj.cells ((rowL rm l.length B X).set _ _).toArray _ _) = _
      rw [rowL_setX _ _ _ _ h.lB])⟩, ((Mod.refl (· = r) w).drewN n).setCell ⟨r, 18 + pl l b, none⟩ (.pointer x) (fun _ => rfl)⟩
  generalize (l.getD (pl l b) (0, undef)).2 = y at *
  generalize pl l b = i at *
  clear h h2 h1 hh
  go_enter Try.func197, Try.ntmps197
  go_wp2_with (first | (go_at_call 191; refine (ok_yes _ _ _ c0 hr).mono ?_; rintro e w' ⟨rfl, rfl⟩) | (go_at_call 192; refine hp.out.mono ?_; rintro e w' ⟨rfl, nd, rfl⟩))
  go_ret
  exact (hw nd).out
theorem underB : Try.prog.underlying 27 = some (.slice 5) := by kernel_rfl
theorem infoB : (Try.prog.info? 5).map (·.size) = some 1 := by kernel_rfl
theorem underX : Try.prog.underlying 196 = some (.slice 28) := by kernel_rfl
theorem infoX : (Try.prog.info? 28).map (·.size) = some 1 := by kernel_rfl
set_option maxHeartbeats 800000 in
theorem row_set_full (h : RowIs rowT w r rm l B X) (b : Nat) (hh : has l b = false) (hf : l.length = rm) (x : (Option Addr)) : Calls Try.prog 197 #[.pointer (some ⟨r, 0, none⟩), .int .u8 b, .pointer x] w fun e w' => e = .returned (.int .i64 10) ∧ ∃ n, w' = w.drewN n := by
  have c0 := h.c0
  have c1 := h.c1
  rw [hf] at c1
  have hr := h.r1
  have hp : Hid (Calls Try.prog 192 #[.pointer (some ⟨r, 0, none⟩), .int .u8 b] w fun e w' => e = .returned (.tuple #[.int .i64 (pl l b : Nat), .bool false]) ∧ ∃ n, w' = w.drewN n) := by have := row_place h b; rw [hh] at this; exact this
  generalize pl l b = i at *
  clear h hh hf
  go_enter Try.func197, Try.ntmps197
  go_wp2_with (first | (go_at_call 191; refine (ok_yes _ _ _ c0 hr).mono ?_; rintro e w' ⟨rfl, rfl⟩) | (go_at_call 192; refine hp.out.mono ?_; rintro e w' ⟨rfl, nd, rfl⟩))
  go_quiet (fail)
  go_wp2_with fail
  go_ret
  exact ⟨rfl, nd + nq, by simp⟩
set_option maxHeartbeats 2000000 in
theorem row_set_new (h : RowIs rowT w r rm l B X) (b : Nat) (hb : b < 256) (hh : has l b = false) (hf : l.length < rm) (x : (Option Addr)) : Calls Try.prog 197 #[.pointer (some ⟨r, 0, none⟩), .int .u8 b, .pointer x] w (setPost r rm l b (.pointer x) 0 w) := by
  have c0 := h.c0
  have c1 := h.c1
  have hr := h.r1
  have hblk := Lib.hid h.blk
  have hp : Hid (Calls Try.prog 192 #[.pointer (some ⟨r, 0, none⟩), .int .u8 b] w fun e w' => e = .returned (.tuple #[.int .i64 (pl l b : Nat), .bool false]) ∧ ∃ n, w' = w.drewN n) := by have := row_place h b; rw [hh] at this; exact this
  have hle := pl_le l b
  have h16 : rm ≤ 16 := h.r16
  generalize hn : l.length = n at *
  generalize hi : pl l b = i at *
  have HH := Lib.hid h
  have hlB := HH.out.lB
  have hlX := HH.out.lX
  have L1 : Hid (((B.drop i).take (n - i)).length = Nat.min (n - i) (15 - i)) := by show _ = _; rw [List.length_take, List.length_drop, hlB]; show _ = min _ _; omega
  have L2 : Hid (((X.drop i).take (n - i)).length = Nat.min (n - i) (15 - i)) := by show _ = _; rw [List.length_take, List.length_drop, hlX]; show _ = min _ _; omega
  have P1 : ∀ m, Hid (0 < ((B.drop i).take (n - i)).length → (some (if i = 15 then (⟨r, 2, none⟩ : Addr) else ⟨r, 2 + (i + 1), none⟩)) = some ⟨r, 2 + (i + 1), none⟩ ∧ ∃ ad, (some (if 16 = i then (⟨r, 2, none⟩ : Addr) else ⟨r, 2 + i, none⟩)) = some ad ∧ ∀ j v, ((B.drop i).take (n - i))[j]? = some v → (w.drewN m).cell? (ad.add j) = some v) := fun m h0 => by
    have hl1 := L1.out
    have : ¬ i = 15 := by
      intro e
      have : Nat.min (n - i) (15 - i) = 0 := by show min _ _ = 0; omega
      omega
    refine ⟨by rw [if_neg this], _, by rw [if_neg (by omega)], copy_seg hblk.out 2 B (fun j hj => (rowL_get rm n B X hlB j hj).1) i n (by omega) m⟩
  have F1 : Hid (2 + (i + 1) + ((B.drop i).take (n - i)).length ≤ (rowL rm n B X).length) := by show _ ≤ _; rw [rowL_length, L1.out, hlB, hlX]; show _ + min _ _ ≤ _; omega
  have O1 : Hid (∀ v ∈ (B.drop i).take (n - i), v.oneCell' = true) := mem_seg fun v hv => HH.out.one v (List.mem_append_left _ hv)
  have hq1 : ((n : Int) == (rm : Int)) = false := beq_eq_false_iff_ne.mpr (by omega)
  have hq2 : (n == rm) = false := beq_eq_false_iff_ne.mpr (by omega)
  have hq3 : ((i : Int) + 1 ≤ 16) := by omega
  have hq4 : ((n : Int) ≤ 16) := by omega
  have hq5 : ((i : Int) ≤ n) := by omega
  have Hn := Lib.hid hn
  have Hi := Lib.hid hi
  have Hh := Lib.hid hh
  clear h hh hn hi
  go_enter Try.func197, Try.ntmps197
  go_wp2_with (first | (go_at_call 191; refine (ok_yes _ _ _ c0 hr).mono ?_; rintro e w' ⟨rfl, rfl⟩) | (go_at_call 192; refine hp.out.mono ?_; rintro e w' ⟨rfl, nd, rfl⟩))
  go_quiet (fail)
  go_wp2_with fail
  have k1 : IntKind.i64.wrap ((i : Int) + 1) = (i : Int) + 1 := IntWalk.i64_in _ (by omega)
  have k2 : (0 : Int) ≤ (i : Int) + 1 := by omega
  have k3 : ((i : Int) + 1).toNat = i + 1 := by omega
  go_region_law (refine step_copy_in rfl (.tmp 41) (.tmp 50) 27 27 rfl 5 underB infoB _ _ _ _ _ _ rfl rfl r (2 + (i + 1)) (rowL rm n B X) rowT hblk.out ((B.drop i).take (n - i)) L1.out (P1 _).out F1.out O1.out ?_; intro w4 hb4 hm4)
  have e4 : Hid (splice (rowL rm n B X) (2 + (i + 1)) ((B.drop i).take (n - i)) = rowL rm n (splice B (i + 1) ((B.drop i).take (n - i))) X) := rowL_spliceB rm n B X hlB (i + 1) _ (by have := L1.out; have h2 : Nat.min (n - i) (15 - i) ≤ 15 - i := Nat.min_le_right _ _; omega)
  obtain ⟨B1, HB1⟩ : ∃ B1, Hid (splice B (i + 1) ((B.drop i).take (n - i)) = B1) := ⟨_, rfl⟩
  have hlB1 : B1.length = 16 := by rw [← HB1.out, splice_length B n i hle (by omega), hlB]
  have blk4 : Hid (w4.heap[r]? = some (.cells (rowL rm n B1 X).toArray rowT (0, 0))) := by have := hb4.out; rw [e4.out, HB1.out] at this; exact this
  have c14 : w4.cell? ⟨r, 1, none⟩ = some (.int .i64 n) := by rw [cell_of_blk blk4.out]; rfl
  have M4 : Hid (Mod (· = r) w w4) := ((Mod.refl (· = r) w).drewN _).trans hm4.out
  clear hb4 hm4 e4 P1 F1 O1
  generalize (if i = 15 then (⟨r, 2, none⟩ : Addr) else ⟨r, 2 + (i + 1), none⟩) = A1
  generalize (if 16 = i then (⟨r, 2, none⟩ : Addr) else ⟨r, 2 + i, none⟩) = A2
  have P2 : ∀ m, Hid (0 < ((X.drop i).take (n - i)).length → (some (if i = 15 then (⟨r, 18, none⟩ : Addr) else ⟨r, 18 + (i + 1), none⟩)) = some ⟨r, 18 + (i + 1), none⟩ ∧ ∃ ad, (some (if 16 = i then (⟨r, 18, none⟩ : Addr) else ⟨r, 18 + i, none⟩)) = some ad ∧ ∀ j v, ((X.drop i).take (n - i))[j]? = some v → (w4.drewN m).cell? (ad.add j) = some v) := fun m h0 => by
    have hl1 := L2.out
    have : ¬ i = 15 := by
      intro e
      have : Nat.min (n - i) (15 - i) = 0 := by show min _ _ = 0; omega
      omega
    refine ⟨by rw [if_neg this], _, by rw [if_neg (by omega)], copy_seg blk4.out 18 X (fun j hj => (rowL_get rm n B1 X hlB1 j hj).2) i n (by omega) m⟩
  have F2 : Hid (18 + (i + 1) + ((X.drop i).take (n - i)).length ≤ (rowL rm n B1 X).length) := by show _ ≤ _; rw [rowL_length, L2.out, hlB1, hlX]; show _ + min _ _ ≤ _; omega
  have O2 : Hid (∀ v ∈ (X.drop i).take (n - i), v.oneCell' = true) := mem_seg fun v hv => HH.out.one v (List.mem_append_right _ hv)
  go_wp2_with fail
  go_region_law (refine step_copy_in rfl (.tmp 57) (.tmp 66) 196 196 rfl 28 underX infoX _ _ _ _ _ _ rfl rfl r (18 + (i + 1)) (rowL rm n B1 X) rowT blk4.out ((X.drop i).take (n - i)) L2.out (P2 1).out F2.out O2.out ?_; intro w5 hb5 hm5)
  have e5 : Hid (splice (rowL rm n B1 X) (18 + (i + 1)) ((X.drop i).take (n - i)) = rowL rm n B1 (splice X (i + 1) ((X.drop i).take (n - i)))) := rowL_spliceX rm n B1 X hlB1 (i + 1) _
  obtain ⟨X1, HX1⟩ : ∃ X1, Hid (splice X (i + 1) ((X.drop i).take (n - i)) = X1) := ⟨_, rfl⟩
  have hlX1 : X1.length = 16 := by rw [← HX1.out, splice_length X n i hle (by omega), hlX]
  have blk5 : Hid (w5.heap[r]? = some (.cells (rowL rm n B1 X1).toArray rowT (0, 0))) := by have := hb5.out; rw [e5.out, HX1.out] at this; exact this
  have c15 : w5.cell? ⟨r, 1, none⟩ = some (.int .i64 n) := by rw [cell_of_blk blk5.out]; rfl
  have M5 : Hid (Mod (· = r) w w5) := (M4.out.drewN 1).trans hm5.out
  have fr5 : ∀ j, w5.frozen? ⟨r, j, none⟩ = false := fun j => frozen_of_blk blk5.out j
  obtain ⟨y1, hy1⟩ : ∃ y, w5.cell? ⟨r, 2 + i, none⟩ = some y := ⟨_, by rw [cell_of_blk blk5.out, (rowL_get rm n B1 X1 hlB1 i (by omega)).1, List.getElem?_eq_getElem (by omega)]⟩
  obtain ⟨y2, hy2⟩ : ∃ y, w5.cell? ⟨r, 18 + i, none⟩ = some y := ⟨_, by rw [cell_of_blk blk5.out, (rowL_get rm n B1 X1 hlB1 i (by omega)).2, List.getElem?_eq_getElem (by omega)]⟩
  clear hb5 hm5 e5 P2 F2 O2 k1 k2 k3 c14
  generalize (if i = 15 then (⟨r, 18, none⟩ : Addr) else ⟨r, 18 + (i + 1), none⟩) = A3
  generalize (if 16 = i then (⟨r, 18, none⟩ : Addr) else ⟨r, 18 + i, none⟩) = A4
  go_wp2_with fail
  go_region
  go_wp2_with fail
  go_ret
  exact ⟨rfl, ⟨_, _, HH.out.insert Hh.out hb (.pointer x) rfl n i Hn.out Hi.out hf HB1.out HX1.out blk5.out⟩, (((M5.out.setCell ⟨r, _, none⟩ _ (fun _ => rfl)).setCell ⟨r, _, none⟩ _ (fun _ => rfl)).setCell ⟨r, _, none⟩ _ (fun _ => rfl)).drew⟩
end N
end Go.Proofs.Ytkonbldjmcccmaa
