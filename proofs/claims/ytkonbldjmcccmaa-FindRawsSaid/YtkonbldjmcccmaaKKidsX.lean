/- Kids: room of the greater kinds, New, put. -/
import Derived.Test.YtkonbldjmcccmaaKKidsW
import Derived.Test.YtkonbldjmcccmaaKPlain3
set_option linter.unusedVariables false
set_option linter.unusedSimpArgs false
namespace Go.Proofs.Ytkonbldjmcccmaa
open Go.RowKit
namespace I
theorem room_board (rm : Nat) (w : World) (hn : ∀ w, Hid (Calls Try.prog 182 #[.int .i64 rm] w (bnewPost rm w))) (hq : ¬ (rm : Int) ≤ 16) : Calls Try.prog 132 #[.int .i64 rm] w (roomPost rm w) := by
  have fin : Hid (∀ w1, BdIs bdT elT u16T w1 (w.heap.size + 1) rm [] (fun _ => 0) (.slice none 0 0) [] none (.slice none 0 0) [] none → Below (w.heap.size + 1) (w.alloc (.cells #[.pointer none, .pointer none] kdT)) w1 → w1.cell? ⟨w.heap.size, 1, none⟩ = some (.pointer none) ∧ w1.frozen? ⟨w.heap.size, 1, none⟩ = false ∧ Hid (roomPost rm w (.returned (.pointer (some ⟨w.heap.size, 0, none⟩))) (w1.setCell ⟨w.heap.size, 1, none⟩ (.pointer (some ⟨w.heap.size + 1, 0, none⟩))))) := fun w1 hr hb => by
    have hb1 := (hb.block w.heap.size (by omega)).trans (heap_alloc_new w _)
    refine ⟨by simp [World.cell?, hb1], by simp [World.frozen?, hb1], rfl, _, Or.inr ⟨w.heap.size + 1, _, ?_, ⟨_, _, _, _, _, _, _, hr.keep ?_, rfl⟩, ?_, rfl⟩, ?_, ?_⟩
    · rw [setCell_list w1 w.heap.size 1 [.pointer none, .pointer none] kdT _ hb1, setRow_heap w1 _ _ _ _ _ hb1]; rfl
    · intro k hk
      rcases hk with rfl | hk | hk
      · exact Below.heap_setCell _ _ _ _ (by simp)
      · cases hk
      · cases hk
    · rintro (h | h | h)
      · omega
      · cases h
      · cases h
    · exact ((((Below.refl _ w).alloc (Nat.le_refl _) _).trans (hb.mono (by omega)))).setCell (p := ⟨w.heap.size, 1, none⟩) (Nat.le_refl _) _
    · rintro j (rfl | rfl | h | h)
      · omega
      · omega
      · cases h
      · cases h
  go_enter Try.func132, Try.ntmps132
  go_wp2_with (go_at_call 182; refine (hn _).out.mono ?_; rintro e w1 ⟨rfl, hr, hb⟩; simp only [World.size_alloc] at hr hb; obtain ⟨q1, q2, q3⟩ := fin.out _ hr hb)
  go_ret
  exact q3.out
theorem kd_room (rm : Nat) (h : rm = 4 ∨ rm = 16 ∨ rm = 48 ∨ rm = 256) (w : World) : Calls Try.prog 132 #[.int .i64 rm] w (roomPost rm w) := by
  rcases h with rfl | rfl | rfl | rfl
  · exact room_row 4 (by omega) (by omega) w
  · exact room_row 16 (by omega) (by omega) w
  · exact room_board 48 w (fun w => bd_new48 w) (by omega)
  · exact room_board 256 w (fun w => bd_new256 w) (by omega)
theorem kd_new (w : World) : Calls Try.prog 81 #[] w (roomPost 4 w) := by
  have hn : ∀ w, Hid (Calls Try.prog 132 #[.int .i64 4] w (roomPost 4 w)) := fun w => kd_room 4 (Or.inl rfl) w
  go_enter Try.func81, Try.ntmps81
  go_wp2_with (go_at_call 132; refine (hn _).out.mono ?_; rintro e w1 ⟨rfl, h⟩)
  go_ret
  exact ⟨rfl, h⟩
/-- kids k are l' now; only their own blocks have changed -/
def kPost (k rm : Nat) (l' : KV) (S : Nat → Prop) (w : World) (E : Ending) (e : Ending) (w' : World) : Prop := e = E ∧ ∃ S', KdAt w' k rm l' S' ∧ Mod S w w' ∧ ∀ j, S' j → S j ∨ w.heap.size ≤ j
variable {w : World} {k r rm : Nat} {l : KV} {S : Nat → Prop}
theorem row_set_at (h : RowAt rowT w r rm l) (b : Nat) (hb : b < 256) (hp : has l b = true ∨ l.length < rm) (x : Int) : Calls Try.prog 186 #[.pointer (some ⟨r, 0, none⟩), .int .u8 b, .int .i64 x] w (setPost r rm l b (.int .i64 x) 0 w) := by
  obtain ⟨B, X, h⟩ := h
  cases hh : has l b with
  | true => exact row_set_is h b hb hh x
  | false => exact row_set_new h b hb hh (by rcases hp with hp | hp; rw [hh] at hp; cases hp; exact hp) x
theorem row_drop_at (h : RowAt rowT w r rm l) (b : Nat) : Calls Try.prog 140 #[.pointer (some ⟨r, 0, none⟩), .int .u8 b] w fun e w' => e = .returned (.int .i64 (if has l b then 0 else 6)) ∧ RowAt rowT w' r rm (kdel l b) ∧ Mod (· = r) w w' := by
  obtain ⟨B, X, h⟩ := h
  cases hh : has l b with
  | true => exact (row_drop_is h b hh).mono fun e w' q => ⟨q.1, q.2.1, q.2.2⟩
  | false =>
    refine (row_drop_none h b hh).mono ?_
    rintro e w' ⟨rfl, n, rfl⟩
    exact ⟨rfl, by rw [del_no h.srt hh]; exact ⟨B, X, h.keep rfl⟩, (Mod.refl _ w).drewN n⟩
theorem bd_set_at (h : BdAt bdT elT u16T w r rm l S) (b : Nat) (hb : b < 256) (hp : has l b = true ∨ l.length < rm) (x : Int) : Calls Try.prog 187 #[.pointer (some ⟨r, 0, none⟩), .int .u8 b, .int .i64 x] w (bsetPost r rm l b (.int .i64 x) S w) := by
  obtain ⟨p, vx, xs, bx, vf, fs, bf, h, rfl⟩ := h
  cases hh : has l b with
  | true => exact bd_set_is h b hb hh x
  | false =>
    have hf : l.length < rm := by rcases hp with hp | hp; rw [hh] at hp; cases hp; exact hp
    rcases List.eq_nil_or_concat fs with rfl | ⟨gs, q, rfl⟩
    · exact bd_set_fresh h b hb hh hf x
    · rw [List.concat_eq_append] at h
      have := (h.pl.fin q (by simp)).1
      obtain ⟨q, rfl⟩ : ∃ q', q = q' + 1 := ⟨q - 1, by omega⟩
      exact bd_set_free h b hb hh hf x
theorem bd_drop_at (h : BdAt bdT elT u16T w r rm l S) (b : Nat) (hb : b < 256) : Calls Try.prog 141 #[.pointer (some ⟨r, 0, none⟩), .int .u8 b] w fun e w' => e = .returned (.int .i64 (if has l b then 0 else 6)) ∧ ∃ S', BdAt bdT elT u16T w' r rm (kdel l b) S' ∧ Mod S w w' ∧ ∀ k, S' k → S k ∨ w.heap.size ≤ k := by
  obtain ⟨p, vx, xs, bx, vf, fs, bf, h, rfl⟩ := h
  cases hh : has l b with
  | true => exact (bd_drop_is h b hb hh).mono fun e w' q => ⟨q.1, q.2⟩
  | false =>
    refine (bd_drop_none h b hb hh).mono ?_
    rintro e w' ⟨rfl, rfl⟩
    exact ⟨rfl, _, by rw [del_no h.pl.srt hh]; exact ⟨p, vx, xs, bx, vf, fs, bf, h, rfl⟩, Mod.refl _ w, fun k hk => Or.inl hk⟩
theorem row_kids {w' : World} (hb : w.heap[k]? = some (.cells #[.pointer (some ⟨r, 0, none⟩), .pointer none] kdT (0, 0))) (hne : r ≠ k) {l' : KV} (hr : RowAt rowT w' r rm l') (hm : Mod (· = r) w w') (E : Ending) : kPost k rm l' (fun j => j = k ∨ j = r) w E E w' :=
  ⟨rfl, _, Or.inl ⟨r, (hm.same k (Array.getElem?_eq_some_iff.1 hb).1 (fun e => hne e.symm)).trans hb, hr, hne, rfl⟩, hm.mono fun j _ e => Or.inr e, fun j hj => Or.inl hj⟩
theorem bd_kids {w' : World} (hb : w.heap[k]? = some (.cells #[.pointer none, .pointer (some ⟨r, 0, none⟩)] kdT (0, 0))) (hne : ¬ S k) {l' : KV} (hr : ∃ S', BdAt bdT elT u16T w' r rm l' S' ∧ Mod S w w' ∧ ∀ k, S' k → S k ∨ w.heap.size ≤ k) (E : Ending) : kPost k rm l' (fun j => j = k ∨ S j) w E E w' := by
  obtain ⟨S', h1, h2, h3⟩ := hr
  have hk := (Array.getElem?_eq_some_iff.1 hb).1
  refine ⟨rfl, _, Or.inr ⟨r, S', (h2.same k hk hne).trans hb, h1, fun e => ?_, rfl⟩, h2.mono fun j _ e => Or.inr e, ?_⟩
  · rcases h3 k e with e | e
    · exact hne e
    · omega
  · rintro j (rfl | hj)
    · exact Or.inl (Or.inl rfl)
    · rcases h3 j hj with e | e
      · exact Or.inl (Or.inr e)
      · exact Or.inr e
theorem kd_put (h : KdAt w k rm l S) (b : Nat) (hb : b < 256) (hp : has l b = true ∨ l.length < rm) (x : Int) : Calls Try.prog 137 #[.pointer (some ⟨k, 0, none⟩), .int .u8 b, .int .i64 x] w (kPost k rm (kins l b (.int .i64 x)) S w (.returned (.tuple #[]))) := by
  rcases h with ⟨r, hk, hr, hne, rfl⟩ | ⟨r, S', hk, hr, hne, rfl⟩
  · obtain ⟨c0, c1⟩ := cells2 hk
    have hx := Lib.hid (row_set_at hr b hb hp x)
    have fin : Hid (∀ w', RowAt rowT w' r rm (kins l b (.int .i64 x)) → Mod (· = r) w w' → kPost k rm (kins l b (.int .i64 x)) (fun j => j = k ∨ j = r) w (.returned (.tuple #[])) (.returned (.tuple #[])) w') := fun w' h1 h2 => row_kids hk hne h1 h2 _
    clear hk hr
    go_enter Try.func137, Try.ntmps137
    go_wp2_with (go_at_call 186; refine hx.out.mono ?_; rintro e w' ⟨rfl, q1, q2⟩; have q := Lib.hid (fin.out _ q1 q2); clear q1 q2)
    (try simp only [Exit.inBlock, Exit.then]); refine bodyPost_ret (results_none rfl _ _ _) rfl ?_
    exact q.out
  · obtain ⟨c0, c1⟩ := cells2 hk
    have hx := Lib.hid (bd_set_at hr b hb hp x)
    have fin : Hid (∀ w', (∃ S'', BdAt bdT elT u16T w' r rm (kins l b (.int .i64 x)) S'' ∧ Mod S' w w' ∧ ∀ k, S'' k → S' k ∨ w.heap.size ≤ k) → kPost k rm (kins l b (.int .i64 x)) (fun j => j = k ∨ S' j) w (.returned (.tuple #[])) (.returned (.tuple #[])) w') := fun w' h1 => bd_kids hk hne h1 _
    clear hk hr
    go_enter Try.func137, Try.ntmps137
    go_wp2_with (go_at_call 187; refine hx.out.mono ?_; rintro e w' ⟨rfl, q1⟩; have q := Lib.hid (fin.out _ q1); clear q1)
    go_end0
    exact q.out
end I

namespace N
theorem room_board (rm : Nat) (w : World) (hn : ∀ w, Hid (Calls Try.prog 202 #[.int .i64 rm] w (bnewPost rm w))) (hq : ¬ (rm : Int) ≤ 16) : Calls Try.prog 170 #[.int .i64 rm] w (roomPost rm w) := by
  have fin : Hid (∀ w1, BdIs bdT elT u16T w1 (w.heap.size + 1) rm [] (fun _ => 0) (.slice none 0 0) [] none (.slice none 0 0) [] none → Below (w.heap.size + 1) (w.alloc (.cells #[.pointer none, .pointer none] kdT)) w1 → w1.cell? ⟨w.heap.size, 1, none⟩ = some (.pointer none) ∧ w1.frozen? ⟨w.heap.size, 1, none⟩ = false ∧ Hid (roomPost rm w (.returned (.pointer (some ⟨w.heap.size, 0, none⟩))) (w1.setCell ⟨w.heap.size, 1, none⟩ (.pointer (some ⟨w.heap.size + 1, 0, none⟩))))) := fun w1 hr hb => by
    have hb1 := (hb.block w.heap.size (by omega)).trans (heap_alloc_new w _)
    refine ⟨by simp [World.cell?, hb1], by simp [World.frozen?, hb1], rfl, _, Or.inr ⟨w.heap.size + 1, _, ?_, ⟨_, _, _, _, _, _, _, hr.keep ?_, rfl⟩, ?_, rfl⟩, ?_, ?_⟩
    · rw [setCell_list w1 w.heap.size 1 [.pointer none, .pointer none] kdT _ hb1, setRow_heap w1 _ _ _ _ _ hb1]; rfl
    · intro k hk
      rcases hk with rfl | hk | hk
      · exact Below.heap_setCell _ _ _ _ (by simp)
      · cases hk
      · cases hk
    · rintro (h | h | h)
      · omega
      · cases h
      · cases h
    · exact ((((Below.refl _ w).alloc (Nat.le_refl _) _).trans (hb.mono (by omega)))).setCell (p := ⟨w.heap.size, 1, none⟩) (Nat.le_refl _) _
    · rintro j (rfl | rfl | h | h)
      · omega
      · omega
      · cases h
      · cases h
  go_enter Try.func170, Try.ntmps170
  go_wp2_with (go_at_call 202; refine (hn _).out.mono ?_; rintro e w1 ⟨rfl, hr, hb⟩; simp only [World.size_alloc] at hr hb; obtain ⟨q1, q2, q3⟩ := fin.out _ hr hb)
  go_ret
  exact q3.out
theorem kd_room (rm : Nat) (h : rm = 4 ∨ rm = 16 ∨ rm = 48 ∨ rm = 256) (w : World) : Calls Try.prog 170 #[.int .i64 rm] w (roomPost rm w) := by
  rcases h with rfl | rfl | rfl | rfl
  · exact room_row 4 (by omega) (by omega) w
  · exact room_row 16 (by omega) (by omega) w
  · exact room_board 48 w (fun w => bd_new48 w) (by omega)
  · exact room_board 256 w (fun w => bd_new256 w) (by omega)
theorem kd_new (w : World) : Calls Try.prog 110 #[] w (roomPost 4 w) := by
  have hn : ∀ w, Hid (Calls Try.prog 170 #[.int .i64 4] w (roomPost 4 w)) := fun w => kd_room 4 (Or.inl rfl) w
  go_enter Try.func110, Try.ntmps110
  go_wp2_with (go_at_call 170; refine (hn _).out.mono ?_; rintro e w1 ⟨rfl, h⟩)
  go_ret
  exact ⟨rfl, h⟩
/-- kids k are l' now; only their own blocks have changed -/
def kPost (k rm : Nat) (l' : KV) (S : Nat → Prop) (w : World) (E : Ending) (e : Ending) (w' : World) : Prop := e = E ∧ ∃ S', KdAt w' k rm l' S' ∧ Mod S w w' ∧ ∀ j, S' j → S j ∨ w.heap.size ≤ j
variable {w : World} {k r rm : Nat} {l : KV} {S : Nat → Prop}
theorem row_set_at (h : RowAt rowT w r rm l) (b : Nat) (hb : b < 256) (hp : has l b = true ∨ l.length < rm) (x : (Option Addr)) : Calls Try.prog 197 #[.pointer (some ⟨r, 0, none⟩), .int .u8 b, .pointer x] w (setPost r rm l b (.pointer x) 0 w) := by
  obtain ⟨B, X, h⟩ := h
  cases hh : has l b with
  | true => exact row_set_is h b hb hh x
  | false => exact row_set_new h b hb hh (by rcases hp with hp | hp; rw [hh] at hp; cases hp; exact hp) x
theorem row_drop_at (h : RowAt rowT w r rm l) (b : Nat) : Calls Try.prog 159 #[.pointer (some ⟨r, 0, none⟩), .int .u8 b] w fun e w' => e = .returned (.int .i64 (if has l b then 0 else 6)) ∧ RowAt rowT w' r rm (kdel l b) ∧ Mod (· = r) w w' := by
  obtain ⟨B, X, h⟩ := h
  cases hh : has l b with
  | true => exact (row_drop_is h b hh).mono fun e w' q => ⟨q.1, q.2.1, q.2.2⟩
  | false =>
    refine (row_drop_none h b hh).mono ?_
    rintro e w' ⟨rfl, n, rfl⟩
    exact ⟨rfl, by rw [del_no h.srt hh]; exact ⟨B, X, h.keep rfl⟩, (Mod.refl _ w).drewN n⟩
theorem bd_set_at (h : BdAt bdT elT u16T w r rm l S) (b : Nat) (hb : b < 256) (hp : has l b = true ∨ l.length < rm) (x : (Option Addr)) : Calls Try.prog 198 #[.pointer (some ⟨r, 0, none⟩), .int .u8 b, .pointer x] w (bsetPost r rm l b (.pointer x) S w) := by
  obtain ⟨p, vx, xs, bx, vf, fs, bf, h, rfl⟩ := h
  cases hh : has l b with
  | true => exact bd_set_is h b hb hh x
  | false =>
    have hf : l.length < rm := by rcases hp with hp | hp; rw [hh] at hp; cases hp; exact hp
    rcases List.eq_nil_or_concat fs with rfl | ⟨gs, q, rfl⟩
    · exact bd_set_fresh h b hb hh hf x
    · rw [List.concat_eq_append] at h
      have := (h.pl.fin q (by simp)).1
      obtain ⟨q, rfl⟩ : ∃ q', q = q' + 1 := ⟨q - 1, by omega⟩
      exact bd_set_free h b hb hh hf x
theorem bd_drop_at (h : BdAt bdT elT u16T w r rm l S) (b : Nat) (hb : b < 256) : Calls Try.prog 160 #[.pointer (some ⟨r, 0, none⟩), .int .u8 b] w fun e w' => e = .returned (.int .i64 (if has l b then 0 else 6)) ∧ ∃ S', BdAt bdT elT u16T w' r rm (kdel l b) S' ∧ Mod S w w' ∧ ∀ k, S' k → S k ∨ w.heap.size ≤ k := by
  obtain ⟨p, vx, xs, bx, vf, fs, bf, h, rfl⟩ := h
  cases hh : has l b with
  | true => exact (bd_drop_is h b hb hh).mono fun e w' q => ⟨q.1, q.2⟩
  | false =>
    refine (bd_drop_none h b hb hh).mono ?_
    rintro e w' ⟨rfl, rfl⟩
    exact ⟨rfl, _, by rw [del_no h.pl.srt hh]; exact ⟨p, vx, xs, bx, vf, fs, bf, h, rfl⟩, Mod.refl _ w, fun k hk => Or.inl hk⟩
theorem row_kids {w' : World} (hb : w.heap[k]? = some (.cells #[.pointer (some ⟨r, 0, none⟩), .pointer none] kdT (0, 0))) (hne : r ≠ k) {l' : KV} (hr : RowAt rowT w' r rm l') (hm : Mod (· = r) w w') (E : Ending) : kPost k rm l' (fun j => j = k ∨ j = r) w E E w' :=
  ⟨rfl, _, Or.inl ⟨r, (hm.same k (Array.getElem?_eq_some_iff.1 hb).1 (fun e => hne e.symm)).trans hb, hr, hne, rfl⟩, hm.mono fun j _ e => Or.inr e, fun j hj => Or.inl hj⟩
theorem bd_kids {w' : World} (hb : w.heap[k]? = some (.cells #[.pointer none, .pointer (some ⟨r, 0, none⟩)] kdT (0, 0))) (hne : ¬ S k) {l' : KV} (hr : ∃ S', BdAt bdT elT u16T w' r rm l' S' ∧ Mod S w w' ∧ ∀ k, S' k → S k ∨ w.heap.size ≤ k) (E : Ending) : kPost k rm l' (fun j => j = k ∨ S j) w E E w' := by
  obtain ⟨S', h1, h2, h3⟩ := hr
  have hk := (Array.getElem?_eq_some_iff.1 hb).1
  refine ⟨rfl, _, Or.inr ⟨r, S', (h2.same k hk hne).trans hb, h1, fun e => ?_, rfl⟩, h2.mono fun j _ e => Or.inr e, ?_⟩
  · rcases h3 k e with e | e
    · exact hne e
    · omega
  · rintro j (rfl | hj)
    · exact Or.inl (Or.inl rfl)
    · rcases h3 j hj with e | e
      · exact Or.inl (Or.inr e)
      · exact Or.inr e
theorem kd_put (h : KdAt w k rm l S) (b : Nat) (hb : b < 256) (hp : has l b = true ∨ l.length < rm) (x : (Option Addr)) : Calls Try.prog 158 #[.pointer (some ⟨k, 0, none⟩), .int .u8 b, .pointer x] w (kPost k rm (kins l b (.pointer x)) S w (.returned (.tuple #[]))) := by
  rcases h with ⟨r, hk, hr, hne, rfl⟩ | ⟨r, S', hk, hr, hne, rfl⟩
  · obtain ⟨c0, c1⟩ := cells2 hk
    have hx := Lib.hid (row_set_at hr b hb hp x)
    have fin : Hid (∀ w', RowAt rowT w' r rm (kins l b (.pointer x)) → Mod (· = r) w w' → kPost k rm (kins l b (.pointer x)) (fun j => j = k ∨ j = r) w (.returned (.tuple #[])) (.returned (.tuple #[])) w') := fun w' h1 h2 => row_kids hk hne h1 h2 _
    clear hk hr
    go_enter Try.func158, Try.ntmps158
    go_wp2_with (go_at_call 197; refine hx.out.mono ?_; rintro e w' ⟨rfl, q1, q2⟩; have q := Lib.hid (fin.out _ q1 q2); clear q1 q2)
    (try simp only [Exit.inBlock, Exit.then]); refine bodyPost_ret (results_none rfl _ _ _) rfl ?_
    exact q.out
  · obtain ⟨c0, c1⟩ := cells2 hk
    have hx := Lib.hid (bd_set_at hr b hb hp x)
    have fin : Hid (∀ w', (∃ S'', BdAt bdT elT u16T w' r rm (kins l b (.pointer x)) S'' ∧ Mod S' w w' ∧ ∀ k, S'' k → S' k ∨ w.heap.size ≤ k) → kPost k rm (kins l b (.pointer x)) (fun j => j = k ∨ S' j) w (.returned (.tuple #[])) (.returned (.tuple #[])) w') := fun w' h1 => bd_kids hk hne h1 _
    clear hk hr
    go_enter Try.func158, Try.ntmps158
    go_wp2_with (go_at_call 198; refine hx.out.mono ?_; rintro e w' ⟨rfl, q1⟩; have q := Lib.hid (fin.out _ q1); clear q1)
    go_end0
    exact q.out
end N
end Go.Proofs.Ytkonbldjmcccmaa
