/- The statement KidsOrder: its walk. -/
import Derived.Test.YthifjldmhfpkhaaKLawO
set_option linter.unusedVariables false
set_option linter.unusedSimpArgs false
namespace Go.Proofs.Ythifjldmhfpkhaa
open Go.RowKit
section
variable {w wr : World} {a b c : Nat} {bs ms : List Nat}
def O1 (w : World) (a b : Nat) (bs : List Nat) (i : Nat) (wr : World) : Prop := ∃ la lb, Two w wr a la b lb ∧ Tells la (oT bs i) ∧ Tells lb (oD bs i)
def O1m (w : World) (a b : Nat) (bs : List Nat) (i : Nat) (wr : World) : Prop := ∃ la lb, Two w wr a la b lb ∧ Tells la (oT bs (i + 1)) ∧ Tells lb (oD bs i)
def O2 (w : World) (a b c : Nat) (bs ms : List Nat) (i : Nat) (wr : World) : Prop := ∃ la lb lc, Three w wr a la b lb c lc ∧ Tells la (oW bs) ∧ Tells lb (oU bs ms i)
def O3 (w : World) (a b c : Nat) (bs ms : List Nat) (i : Nat) (wr : World) : Prop := ∃ la lb lc, Three w wr a la b lb c lc ∧ Tells la (oW bs) ∧ Tells lb (oV bs ms i)
theorem O1.below {i : Nat} (h : O1 w a b bs i wr) : Below w.heap.size w wr := by obtain ⟨_, _, h, _⟩ := h; exact h.below
theorem O1m.below {i : Nat} (h : O1m w a b bs i wr) : Below w.heap.size w wr := by obtain ⟨_, _, h, _⟩ := h; exact h.below
theorem O2.below {i : Nat} (h : O2 w a b c bs ms i wr) : Below w.heap.size w wr := by obtain ⟨_, _, _, h, _⟩ := h; exact h.below
theorem O3.below {i : Nat} (h : O3 w a b c bs ms i wr) : Below w.heap.size w wr := by obtain ⟨_, _, _, h, _⟩ := h; exact h.below
theorem O1.drewN {i : Nat} (h : O1 w a b bs i wr) (n : Nat) : O1 w a b bs i (wr.drewN n) := by obtain ⟨la, lb, h, h1, h2⟩ := h; exact ⟨la, lb, h.drewN n, h1, h2⟩
theorem O1m.drewN {i : Nat} (h : O1m w a b bs i wr) (n : Nat) : O1m w a b bs i (wr.drewN n) := by obtain ⟨la, lb, h, h1, h2⟩ := h; exact ⟨la, lb, h.drewN n, h1, h2⟩
theorem O2.drewN {i : Nat} (h : O2 w a b c bs ms i wr) (n : Nat) : O2 w a b c bs ms i (wr.drewN n) := by obtain ⟨la, lb, lc, h, h1, h2⟩ := h; exact ⟨la, lb, lc, h.drewN n, h1, h2⟩
theorem O3.drewN {i : Nat} (h : O3 w a b c bs ms i wr) (n : Nat) : O3 w a b c bs ms i (wr.drewN n) := by obtain ⟨la, lb, lc, h, h1, h2⟩ := h; exact ⟨la, lb, lc, h.drewN n, h1, h2⟩
theorem o1_seta {i : Nat} (h : O1 w a b bs i wr) (hi : i < bs.length) (h8 : ∀ x ∈ bs, x < 256) : Calls Try.prog 19 #[.pointer (some ⟨a, 0, none⟩), .int .u8 (bs.getD i 0 : Nat), .int .i64 (bs.getD i 0 : Nat)] wr fun e w' => e = .returned (.int .i64 0) ∧ O1m w a b bs i w' := by
  obtain ⟨la, lb, h, h1, h2⟩ := h
  have hx : bs.getD i 0 < 256 := by simp [List.getD, hi]; exact h8 _ (List.getElem_mem _)
  exact (two_set h _ hx _).mono fun e w' q => ⟨q.1, _, lb, q.2, (h1.ins h.fst.srt.1 _ _).congr (oT_next hi), h2⟩
theorem o1_setb {i : Nat} (h : O1m w a b bs i wr) (hi : i < bs.length) (h8 : ∀ x ∈ bs, x < 256) : Calls Try.prog 19 #[.pointer (some ⟨b, 0, none⟩), .int .u8 (bs.getD (bs.length - 1 - i) 0 : Nat), .int .i64 (bs.getD (bs.length - 1 - i) 0 : Nat)] wr fun e w' => e = .returned (.int .i64 0) ∧ O1 w a b bs (i + 1) w' := by
  obtain ⟨la, lb, h, h1, h2⟩ := h
  have hi2 : bs.length - 1 - i < bs.length := by omega
  have hx : bs.getD (bs.length - 1 - i) 0 < 256 := by simp only [List.getD, List.getElem?_eq_getElem hi2, Option.getD_some]; exact h8 _ (List.getElem_mem _)
  exact (two_set h.swap _ hx _).mono fun e w' q => ⟨q.1, la, _, q.2.swap, h1, (h2.ins h.swap.fst.srt.1 _ _).congr (oD_next hi)⟩
theorem o1_copy (h : O1 w a b bs bs.length wr) : Calls Try.prog 20 #[.pointer (some ⟨b, 0, none⟩)] wr fun e w' => ∃ c, e = .returned (.pointer (some ⟨c, 0, none⟩)) ∧ O2 w a b c bs ms 0 w' := by
  obtain ⟨la, lb, h, h1, h2⟩ := h
  refine (three_copy h).mono ?_
  rintro e w' ⟨c, rfl, q⟩
  exact ⟨c, rfl, la, lb, lb, q, h1.congr (oT_end bs), h2.congr fun x => (oD_end bs x).trans (oU_zero bs ms x)⟩
theorem o2_setc {i : Nat} (h : O2 w a b c bs ms i wr) (x : Nat) (hx : x < 256) : Calls Try.prog 19 #[.pointer (some ⟨c, 0, none⟩), .int .u8 x, .int .i64 (-1)] wr fun e w' => e = .returned (.int .i64 0) ∧ O2 w a b c bs ms i w' := by
  obtain ⟨la, lb, lc, h, h1, h2⟩ := h
  exact (three_set h.rot.rot x hx (-1)).mono fun e w' q => ⟨q.1, la, lb, _, q.2.rot, h1, h2⟩
theorem get_oW {l : KV} (h : Tells l (oW bs)) (x : Nat) : I.getV (kget l x) = if x ∈ bs then .tuple #[.int .i64 (x : Nat), .bool true] else .tuple #[.int .i64 0, .bool false] := by
  rw [h x]
  unfold oW
  by_cases e : x ∈ bs
  · rw [if_pos e, if_pos e]; rfl
  · rw [if_neg e, if_neg e]; rfl
theorem o2_get {i : Nat} (h : O2 w a b c bs ms i wr) (x : Nat) (hx : x < 256) : Calls Try.prog 21 #[.pointer (some ⟨a, 0, none⟩), .int .u8 x] wr fun e w' => e = .returned (if x ∈ bs then .tuple #[.int .i64 (x : Nat), .bool true] else .tuple #[.int .i64 0, .bool false]) ∧ ∃ n, w' = wr.drewN n := by
  obtain ⟨la, lb, lc, h, h1, h2⟩ := h
  have := so_get h.two.fst x hx
  rw [get_oW h1] at this
  exact this
theorem o2_setb {i : Nat} (h : O2 w a b c bs ms i wr) (hi : i < ms.length) (h8 : ∀ x ∈ ms, x < 256) (hx : ms.getD i 0 ∉ bs) : Calls Try.prog 19 #[.pointer (some ⟨b, 0, none⟩), .int .u8 (ms.getD i 0 : Nat), .int .i64 7] wr fun e w' => e = .returned (.int .i64 0) ∧ O2 w a b c bs ms (i + 1) w' := by
  obtain ⟨la, lb, lc, h, h1, h2⟩ := h
  have hx8 : ms.getD i 0 < 256 := by simp [List.getD, hi]; exact h8 _ (List.getElem_mem _)
  exact (three_set h.rot _ hx8 7).mono fun e w' q => ⟨q.1, la, _, lc, q.2.rot.rot, h1, (h2.ins h.rot.two.fst.srt.1 _ _).congr (oU_out hi hx)⟩
theorem o2_skip {i : Nat} (h : O2 w a b c bs ms i wr) (hi : i < ms.length) (hx : ms.getD i 0 ∈ bs) : O2 w a b c bs ms (i + 1) wr := by
  obtain ⟨la, lb, lc, h, h1, h2⟩ := h
  exact ⟨la, lb, lc, h, h1, h2.congr (oU_in hi hx)⟩
theorem o2_end (h : O2 w a b c bs ms ms.length wr) : O3 w a b c bs ms 0 wr := by
  obtain ⟨la, lb, lc, h, h1, h2⟩ := h
  exact ⟨la, lb, lc, h, h1, h2.congr (oV_zero bs ms)⟩
theorem o3_get {i : Nat} (h : O3 w a b c bs ms i wr) (x : Nat) (hx : x < 256) : Calls Try.prog 21 #[.pointer (some ⟨a, 0, none⟩), .int .u8 x] wr fun e w' => e = .returned (if x ∈ bs then .tuple #[.int .i64 (x : Nat), .bool true] else .tuple #[.int .i64 0, .bool false]) ∧ ∃ n, w' = wr.drewN n := by
  obtain ⟨la, lb, lc, h, h1, h2⟩ := h
  have := so_get h.two.fst x hx
  rw [get_oW h1] at this
  exact this
theorem o3_dropb {i : Nat} (h : O3 w a b c bs ms i wr) (hi : i < ms.length) (h8 : ∀ x ∈ ms, x < 256) (hx : ms.getD i 0 ∉ bs) : Calls Try.prog 22 #[.pointer (some ⟨b, 0, none⟩), .int .u8 (ms.getD i 0 : Nat)] wr fun e w' => (∃ v, e = .returned (.int .i64 v)) ∧ O3 w a b c bs ms (i + 1) w' := by
  obtain ⟨la, lb, lc, h, h1, h2⟩ := h
  have hx8 : ms.getD i 0 < 256 := by simp [List.getD, hi]; exact h8 _ (List.getElem_mem _)
  exact (three_drop h.rot _ hx8).mono fun e w' q => ⟨⟨_, q.1⟩, la, _, lc, q.2.rot.rot, h1, (h2.del h.rot.two.fst.srt.1 _).congr (oV_out hi hx)⟩
theorem o3_skip {i : Nat} (h : O3 w a b c bs ms i wr) (hi : i < ms.length) (hx : ms.getD i 0 ∈ bs) : O3 w a b c bs ms (i + 1) wr := by
  obtain ⟨la, lb, lc, h, h1, h2⟩ := h
  exact ⟨la, lb, lc, h, h1, h2.congr (oV_in hi hx)⟩
theorem o3_dropc {i : Nat} (h : O3 w a b c bs ms i wr) (x : Nat) (hx : x < 256) : Calls Try.prog 22 #[.pointer (some ⟨c, 0, none⟩), .int .u8 x] wr fun e w' => (∃ v, e = .returned (.int .i64 v)) ∧ O3 w a b c bs ms i w' := by
  obtain ⟨la, lb, lc, h, h1, h2⟩ := h
  exact (three_drop h.rot.rot x hx).mono fun e w' q => ⟨⟨_, q.1⟩, la, lb, _, q.2.rot, h1, h2⟩
theorem o3_end (h : O3 w a b c bs ms ms.length wr) : ∃ l, Two w wr a l b l ∧ Tells l (oW bs) := by
  obtain ⟨la, lb, lc, h, h1, h2⟩ := h
  have : la = lb := h1.uniq h.two.fst.srt.1 h.rot.two.fst.srt.1 (h2.congr (oV_end bs ms))
  subst this
  exact ⟨la, h.two, h1⟩
theorem atV_some (l : KV) (hv : I.Vals l) (f : Int) : I.atV (knxt l f) = .tuple #[.int .u8 0, .int .i64 0, .bool false] ∨ ∃ (c : Nat) (v : Int), I.atV (knxt l f) = .tuple #[.int .u8 (c : Nat), .int .i64 v, .bool true] := by
  cases h : knxt l f with
  | none => exact Or.inl rfl
  | some p =>
    obtain ⟨v, hv⟩ := hv p (List.mem_of_find?_eq_some h)
    exact Or.inr ⟨p.1, v, by rw [show p = (p.1, p.2) from rfl, hv]; rfl⟩
end
end Go.Proofs.Ythifjldmhfpkhaa
