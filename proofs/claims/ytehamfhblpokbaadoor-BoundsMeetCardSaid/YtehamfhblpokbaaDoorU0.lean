/- Slices of bytes: their order, cuts, appends, clones; bytes.Compare, bytes.Equal, keys.Cmp. -/
import Derived.Test.YtehamfhblpokbaaDoorB0
import Derived.Lib.BytesEntry
import Derived.Shelf.Bytes.SlSmallAll
import Derived.Shelf.Bytes.SlEqualAll
import Derived.Ground.NamesProg
set_option linter.unusedVariables false
set_option linter.unusedSimpArgs false
namespace Go.Proofs
def Tryd.layEq_ren : Go.Shelf.Ren := ⟨fun | 115 => 44 | n => n, fun | 37 => 22 | 3 => 3 | 4 => 4 | 5 => 5 | 9 => 9 | n => n, fun | n => n⟩
theorem Tryd.layEq : Go.Proofs.Lays.nb115 Tryd.prog Tryd.layEq_ren := {
  mixed := by kernel_rfl
  f115 := Tryd.func44.trans (congrArg some (by kernel_rfl))
  t4 := Tryd.underlying4
  a4 := Tryd.isAgg4
  z4 := Tryd.sizeOf4
  v4 := Tryd.zeroValue4
  t5 := Tryd.underlying5
  a5 := Tryd.isAgg5
  z5 := Tryd.sizeOf5
  v5 := Tryd.zeroValue5
  t9 := Tryd.underlying9
  a9 := Tryd.isAgg9
  z9 := Tryd.sizeOf9
  v9 := Tryd.zeroValue9
  t37 := Tryd.underlying22
  a37 := Tryd.isAgg22
  z37 := Tryd.sizeOf22
  v37 := Tryd.zeroValue22 }
namespace YtehamfhblpokbaaDoor
open Go.RowKit
/-- a slice of bytes, with what is known of its room -/
structure Sl (w : World) (a : Option Addr) (n c : Nat) (bs : List Nat) : Prop where
  len : bs.length = n
  at_ : BytesAt w a bs
  cap : n ≤ c
  capm : c ≤ maxLen
  nil : a = none → n = 0 ∧ c = 0
section
variable {w w' : World} {a : Option Addr} {n c : Nat} {bs : List Nat}
theorem Sl.below (h : Sl w a n c bs) (hb : Below w.heap.size w w') : Sl w' a n c bs := ⟨h.len, h.at_.below hb, h.cap, h.capm, h.nil⟩
theorem Sl.drewN (h : Sl w a n c bs) (k : Nat) : Sl (w.drewN k) a n c bs := ⟨h.len, h.at_.drewN k, h.cap, h.capm, h.nil⟩
theorem sl_nil (w : World) : Sl w none 0 0 [] := ⟨rfl, ⟨by simp, fun i hi => by simp at hi⟩, Nat.le_refl _, Nat.zero_le _, fun _ => ⟨rfl, rfl⟩⟩
end
theorem add_block (a : Addr) (n : Nat) : (a.add n).block = a.block := by unfold Addr.add; split <;> rfl
/-! The order of bytes. -/
theorem bcmp_nn : bcmp [] [] = 0 := rfl
theorem bcmp_nc (y : Nat) (ys : List Nat) : bcmp [] (y :: ys) = -1 := by simp [bcmp, lcp]
theorem bcmp_cn (x : Nat) (xs : List Nat) : bcmp (x :: xs) [] = 1 := by simp [bcmp, lcp]
theorem bcmp_same (x : Nat) (xs ys : List Nat) : bcmp (x :: xs) (x :: ys) = bcmp xs ys := by
  simp [bcmp, lcp]
theorem bcmp_lt {x y : Nat} (h : x < y) (xs ys : List Nat) : bcmp (x :: xs) (y :: ys) = -1 := by
  have : x ≠ y := by omega
  simp [bcmp, lcp, this, h]
theorem bcmp_gt {x y : Nat} (h : y < x) (xs ys : List Nat) : bcmp (x :: xs) (y :: ys) = 1 := by
  have h1 : x ≠ y := by omega
  have h2 : ¬ x < y := by omega
  simp [bcmp, lcp, h1, h2]
theorem bcmp_pre (p xs ys : List Nat) : bcmp (p ++ xs) (p ++ ys) = bcmp xs ys := by
  induction p with
  | nil => rfl
  | cons x p ih => simp only [List.cons_append, bcmp_same, ih]
/-- stands ahead -/
def slt (s t : List Nat) : Prop := bcmp s t = -1
theorem slt_nc (y : Nat) (ys : List Nat) : slt [] (y :: ys) := bcmp_nc y ys
theorem not_slt_nil (s : List Nat) : ¬ slt s [] := by
  cases s with
  | nil => simp [slt, bcmp_nn]
  | cons x s => simp [slt, bcmp_cn]
theorem slt_cons (x : Nat) (s t : List Nat) : slt (x :: s) (x :: t) ↔ slt s t := by simp [slt, bcmp_same]
theorem slt_pre (p s t : List Nat) : slt (p ++ s) (p ++ t) ↔ slt s t := by simp [slt, bcmp_pre]
theorem slt_lt {x y : Nat} (h : x < y) (s t : List Nat) : slt (x :: s) (y :: t) := bcmp_lt h s t
theorem slt_cc {x y : Nat} {s t : List Nat} : slt (x :: s) (y :: t) ↔ x < y ∨ x = y ∧ slt s t := by
  rcases Nat.lt_trichotomy x y with h | h | h
  · simp [slt_lt h, h]
  · subst h; simp [slt_cons]
  · have h1 : ¬ x < y := by omega
    have h2 : x ≠ y := by omega
    simp [slt, bcmp_gt h, h1, h2]
theorem slt_irrefl (s : List Nat) : ¬ slt s s := by
  have := (bcmp_zero s s).2 rfl
  simp [slt, this]
theorem slt_trans : ∀ {s t u : List Nat}, slt s t → slt t u → slt s u
  | [], _, [], _, h => absurd h (not_slt_nil _)
  | [], _, _ :: _, _, _ => slt_nc _ _
  | _ :: _, [], _, h, _ => absurd h (not_slt_nil _)
  | _ :: _, _ :: _, [], _, h => absurd h (not_slt_nil _)
  | x :: s, y :: t, z :: u, h1, h2 => by
    rw [slt_cc] at h1 h2 ⊢
    rcases h1 with h1 | ⟨rfl, h1⟩
    · rcases h2 with h2 | ⟨rfl, h2⟩
      · exact Or.inl (by omega)
      · exact Or.inl h1
    · rcases h2 with h2 | ⟨rfl, h2⟩
      · exact Or.inl h2
      · exact Or.inr ⟨rfl, slt_trans h1 h2⟩
theorem slt_tri : ∀ (s t : List Nat), slt s t ∨ s = t ∨ slt t s
  | [], [] => Or.inr (Or.inl rfl)
  | [], _ :: _ => Or.inl (slt_nc _ _)
  | _ :: _, [] => Or.inr (Or.inr (slt_nc _ _))
  | x :: s, y :: t => by
    simp only [slt_cc, List.cons.injEq]
    rcases Nat.lt_trichotomy x y with h | rfl | h
    · exact Or.inl (Or.inl h)
    · rcases slt_tri s t with h | rfl | h
      · exact Or.inl (Or.inr ⟨rfl, h⟩)
      · exact Or.inr (Or.inl ⟨rfl, rfl⟩)
      · exact Or.inr (Or.inr (Or.inr ⟨rfl, h⟩))
    · exact Or.inr (Or.inr (Or.inl h))
theorem bcmp_three (s t : List Nat) : (slt s t ∧ bcmp s t = -1) ∨ (s = t ∧ bcmp s t = 0) ∨ (slt t s ∧ bcmp s t = 1) := by
  have key : ∀ s t : List Nat, slt t s → bcmp s t = 1 := by
    intro s t h
    induction s generalizing t with
    | nil => exact absurd h (not_slt_nil _)
    | cons x s ih =>
      cases t with
      | nil => exact bcmp_cn _ _
      | cons y t =>
        rcases slt_cc.1 h with h2 | ⟨e, h2⟩
        · exact bcmp_gt h2 _ _
        · subst e; rw [bcmp_same]; exact ih t h2
  rcases slt_tri s t with h | h | h
  · exact Or.inl ⟨h, h⟩
  · exact Or.inr (Or.inl ⟨h, (bcmp_zero _ _).2 h⟩)
  · exact Or.inr (Or.inr ⟨h, key s t h⟩)
theorem lcp_pre (p s t : List Nat) : lcp (p ++ s) (p ++ t) = p.length + lcp s t := by
  induction p with
  | nil => simp
  | cons x p ih => simp [lcp, ih]; omega
theorem lcp_isPrefix (k p : List Nat) : (lcp k p = p.length) ↔ p <+: k := by
  induction p generalizing k with
  | nil => cases k <;> simp [lcp]
  | cons x p ih =>
    cases k with
    | nil => simp [lcp]
    | cons y k =>
      unfold lcp
      by_cases e : y = x
      · subst e; simp [ih, List.cons_prefix_cons]
      · have e' : ¬ x = y := fun h => e h.symm
        simp [e, e', List.cons_prefix_cons]
/-- both begin with the first lcp bytes -/
theorem lcp_take (s t : List Nat) : s.take (lcp s t) = t.take (lcp s t) := by
  induction s generalizing t with
  | nil => simp [lcp]
  | cons x s ih =>
    cases t with
    | nil => simp [lcp]
    | cons y t =>
      unfold lcp
      split
      · rename_i h; subst h; simp [ih]
      · simp
/-! Bytes told by natural numbers, as the library tells them. -/
def Zs (s : List Nat) : List Int := s.map fun b => ((b : Nat) : Int)
def U8 (s : List Nat) : List UInt8 := s.map UInt8.ofNat
theorem bytesOf_nat (s : List Nat) : Lib.bytesOf (Zs s) = U8 s := by
  unfold Lib.bytesOf Zs U8
  rw [List.map_map]
  rfl
theorem getD_nat (s : List Nat) (i : Nat) : (Zs s).getD i 0 = ((s.getD i 0 : Nat) : Int) := by
  unfold Zs
  simp only [List.getD, List.getElem?_map]
  cases s[i]? <;> rfl
theorem zs_len (s : List Nat) : (Zs s).length = s.length := by simp [Zs]
theorem BytesAt.ints {w : World} {p : Addr} {s : List Nat} (h : BytesAt w (some p) s) : ∀ i, i < s.length → w.cell? (p.add i) = some (.int .u8 ((Zs s).getD i 0)) := fun i hi => by
  obtain ⟨q, hq, _, h2⟩ := h.2 i hi
  obtain rfl : p = q := by simpa using hq
  rw [h2, getD_nat]
theorem Sl.in_ {w : World} {a : Option Addr} {n c : Nat} {s : List Nat} (h : Sl w a n c s) : Lib.BytesIn w a n (Zs s) := by
  cases a with
  | none => obtain ⟨rfl, rfl⟩ := h.nil rfl; exact Lib.BytesIn.nil _ _ _
  | some p => exact Lib.BytesIn.of_cells fun i hi => h.at_.ints i (by rw [h.len]; exact hi)
theorem u8_lt {x y : Nat} (hx : x < 256) (hy : y < 256) : UInt8.ofNat x < UInt8.ofNat y ↔ x < y := by
  rw [UInt8.lt_iff_toNat_lt, UInt8.toNat_ofNat', UInt8.toNat_ofNat', Nat.mod_eq_of_lt hx, Nat.mod_eq_of_lt hy]
theorem u8_eq {x y : Nat} (hx : x < 256) (hy : y < 256) : UInt8.ofNat x = UInt8.ofNat y ↔ x = y := by
  rw [← UInt8.toNat_inj, UInt8.toNat_ofNat', UInt8.toNat_ofNat', Nat.mod_eq_of_lt hx, Nat.mod_eq_of_lt hy]
theorem compare_nat : ∀ (s t : List Nat), (∀ x ∈ s, x < 256) → (∀ x ∈ t, x < 256) → Lib.compareBytes (U8 s) (U8 t) = bcmp s t
  | [], [], _, _ => rfl
  | [], y :: t, _, _ => by rw [bcmp_nc]; rfl
  | x :: s, [], _, _ => by rw [bcmp_cn]; rfl
  | x :: s, y :: t, hs, ht => by
    have hx : x < 256 := hs x (by simp)
    have hy : y < 256 := ht y (by simp)
    have ih := compare_nat s t (fun z hz => hs z (by simp [hz])) (fun z hz => ht z (by simp [hz]))
    show (if UInt8.ofNat x < UInt8.ofNat y then (-1 : Int) else if UInt8.ofNat y < UInt8.ofNat x then 1 else Lib.compareBytes (U8 s) (U8 t)) = _
    rw [ih]
    simp only [u8_lt hx hy, u8_lt hy hx]
    rcases Nat.lt_trichotomy x y with h | h | h
    · rw [if_pos h, bcmp_lt h]
    · subst h; simp [bcmp_same]
    · rw [if_neg (by omega), if_pos h, bcmp_gt h]
theorem prefix_nat : ∀ (s t : List Nat), (∀ x ∈ s, x < 256) → (∀ x ∈ t, x < 256) → Lib.hasPrefix (U8 s) (U8 t) = decide (t <+: s)
  | s, [], _, _ => by simp [U8, Lib.hasPrefix]
  | [], y :: t, _, _ => by simp [U8, Lib.hasPrefix]
  | x :: s, y :: t, hs, ht => by
    have hx : x < 256 := hs x (by simp)
    have hy : y < 256 := ht y (by simp)
    have ih := prefix_nat s t (fun z hz => hs z (by simp [hz])) (fun z hz => ht z (by simp [hz]))
    show (UInt8.ofNat y == UInt8.ofNat x && Lib.hasPrefix (U8 s) (U8 t)) = _
    rw [ih, Bool.eq_iff_iff]
    simp [u8_eq hy hx, List.cons_prefix_cons]
theorem run_bytesOf {w : World} {a : Option Addr} {n c : Nat} {s : List Nat} (h : Sl w a n c s) : (Extern.Bytes.bytesOf (.slice a n c)).run Tryd.prog w = .ok ⟨(U8 s).toArray⟩ w := by
  cases a with
  | none =>
    obtain ⟨rfl, rfl⟩ := h.nil rfl
    obtain rfl : s = [] := List.eq_nil_of_length_eq_zero h.len
    rfl
  | some p =>
    have := Lib.run_loadBytesX (P := Tryd.prog) w (Zs s) p .empty (fun j x hj => by
      have hjl : j < s.length := by have := (List.getElem?_eq_some_iff.1 hj).1; rwa [zs_len] at this
      rw [h.at_.ints j hjl, List.getD, hj]; rfl)
    rw [zs_len, h.len, bytesOf_nat] at this
    show (Extern.Bytes.loadBytes p n .empty).run Tryd.prog w = _
    rw [this]
    congr 1
    apply ByteArray.ext
    show (#[] : Array UInt8) ++ (U8 s).toArray = (U8 s).toArray
    simp
theorem run_compare {w : World} {a b : Option Addr} {n c m d : Nat} {s t : List Nat} (h : Sl w a n c s) (k : Sl w b m d t) : (Extern.BytealgCompare.compare #[.slice a n c, .slice b m d]).run Tryd.prog w = .ok (.int .i64 (bcmp s t)) w := by
  change Sem.run Tryd.prog (do pure (goInt (Extern.BytealgCompare.cmp (← Extern.Bytes.bytesOf (.slice a n c)) (← Extern.Bytes.bytesOf (.slice b m d))))) w = _
  simp only [Sem.run_bind, run_bytesOf h, run_bytesOf k, Sem.run_pure, Result.andThen]
  rw [Lib.cmp_eq]
  show Result.ok (goInt (Lib.compareBytes (U8 s) (U8 t))) w = _
  rw [compare_nat s t h.at_.1 k.at_.1]
  rfl
theorem lib_compare {w : World} {a b : Option Addr} {n c m d : Nat} {s t : List Nat} (h : Sl w a n c s) (k : Sl w b m d t) : Calls Tryd.prog 43 #[.slice a n c, .slice b m d] w fun e w' => e = .returned (.int .i64 (bcmp s t)) ∧ w = w' := by
  have hx : (callFunc 50 #[.slice a n c, .slice b m d]).run Tryd.prog w = .ok (.value (.int .i64 (bcmp s t))) w := by
    rw [run_callFunc_extern Tryd.func50 (by kernel_rfl) (by kernel_rfl) (by kernel_rfl) (e := Extern.BytealgCompare.compare) (by kernel_rfl), run_compare h k]
    rfl
  generalize bcmp s t = V at *
  clear h k
  go_enter Tryd.func43, Tryd.ntmps43
  go_wp2_with fail
  go_ret
  exact ⟨rfl, rfl⟩
theorem keys_cmp {w : World} {a b : Option Addr} {n c m d : Nat} {s t : List Nat} (h : Sl w a n c s) (k : Sl w b m d t) : Calls Tryd.prog 34 #[.slice a n c, .slice b m d] w fun e w' => e = .returned (.int .i64 (bcmp s t)) ∧ w = w' := by
  have hC := Lib.hid (lib_compare h k)
  generalize bcmp s t = V at *
  clear h k
  go_enter Tryd.func34, Tryd.ntmps34
  go_wp2_with (go_at_call 43; refine hC.out.mono ?_; rintro e w' ⟨rfl, rfl⟩)
  go_ret
  exact ⟨rfl, rfl⟩
theorem quiet_cmp {w : World} {a b : Option Addr} {n c m d : Nat} {s t : List Nat} (h : Sl w a n c s) (k : Sl w b m d t) (q : Nat) : Calls Tryd.prog 33 #[.slice a n c, .slice b m d] (w.drewN q) fun e w' => e = .returned (.int .i64 (bcmp s t)) ∧ ∃ p, w' = (w.drewN q).drewN p :=
  ref_cmp (w.drewN q) a b n c m d s t (h.drewN q).at_ (k.drewN q).at_ h.len k.len (Nat.le_trans h.cap h.capm) (Nat.le_trans k.cap k.capm)
theorem quiet_same {w : World} {a b : Option Addr} {n c m d : Nat} {s t : List Nat} (h : Sl w a n c s) (k : Sl w b m d t) (q : Nat) : Calls Tryd.prog 29 #[.slice a n c, .slice b m d] (w.drewN q) fun e w' => e = .returned (.bool (decide (s = t))) ∧ ∃ p, w' = (w.drewN q).drewN p :=
  ref_same (w.drewN q) a b n c m d s t (h.drewN q).at_ (k.drewN q).at_ h.len k.len (Nat.le_trans h.cap h.capm) (Nat.le_trans k.cap k.capm)
theorem add_of_add (a : Addr) (i j : Nat) : (a.add i).add j = a.add (i + j) := by
  unfold Addr.add
  by_cases hi : i = 0 <;> by_cases hj : j = 0 <;> simp [hi, hj, Nat.add_assoc]
def cutA (a : Option Addr) (c lo s : Nat) : Option Addr := if c = lo then a else a.map (·.add (lo * s))
theorem elem8 : Tryd.prog.elem 22 = 5 := by kernel_rfl
theorem run_cut8 (w : World) (a : Option Addr) (n c lo hi : Nat) (h1 : lo ≤ hi) (h2 : hi ≤ c) :
    (Instr.slice 22 (.slice a n c) (some (.int .i64 (lo : Nat))) (some (.int .i64 (hi : Nat))) none).run Tryd.prog w = .ok (.slice (cutA a c lo 1) (hi - lo) (c - lo)) w := by
  have := run_slice_lh (P := Tryd.prog) (w := w) (t := 22) a n c (by rw [elem8]; exact Tryd.underlying22) .i64 .i64 (lo : Nat) (hi : Nat) (by omega) (by omega) (by omega)
  rw [this]
  have hz : (sizeOf (Tryd.prog.elem 22)).run Tryd.prog w = .ok 1 w := by rw [elem8]; exact Tryd.sizeOf5 w
  rw [hz]
  rfl
theorem run_from8 (w : World) (a : Option Addr) (n c lo : Nat) (h1 : lo ≤ n) :
    (Instr.slice 22 (.slice a n c) (some (.int .i64 (lo : Nat))) none none).run Tryd.prog w = .ok (.slice (cutA a c lo 1) (n - lo) (c - lo)) w := by
  have := run_slice_l (P := Tryd.prog) (w := w) (t := 22) a n c (by rw [elem8]; exact Tryd.underlying22) .i64 (lo : Nat) (by omega) (by omega)
  rw [this]
  have hz : (sizeOf (Tryd.prog.elem 22)).run Tryd.prog w = .ok 1 w := by rw [elem8]; exact Tryd.sizeOf5 w
  rw [hz]
  rfl
theorem run_to8 (w : World) (a : Option Addr) (n c hi : Nat) (h2 : hi ≤ c) :
    (Instr.slice 22 (.slice a n c) none (some (.int .i64 (hi : Nat))) none).run Tryd.prog w = .ok (.slice (cutA a c 0 1) hi c) w := by
  have := run_slice_h (P := Tryd.prog) (w := w) (t := 22) a n c (by rw [elem8]; exact Tryd.underlying22) .i64 (hi : Nat) (by omega) (by omega)
  rw [this]
  have hz : (sizeOf (Tryd.prog.elem 22)).run Tryd.prog w = .ok 1 w := by rw [elem8]; exact Tryd.sizeOf5 w
  rw [hz]
  rfl
theorem cutA_zero (a : Option Addr) (c s : Nat) : cutA a c 0 s = a := by
  unfold cutA
  split
  · rfl
  · rw [Nat.zero_mul]
    cases a with
    | none => rfl
    | some p => simp [Addr.add]
theorem Sl.cut {w : World} {a : Option Addr} {n c lo hi : Nat} {bs : List Nat} (h : Sl w a n c bs) (h1 : lo ≤ hi) (h2 : hi ≤ n) : Sl w (cutA a c lo 1) (hi - lo) (c - lo) ((bs.take hi).drop lo) := by
  have hc := h.cap
  have hcm := h.capm
  refine ⟨by rw [List.length_drop, List.length_take, h.len]; omega, ⟨fun x hx => h.at_.1 x (List.mem_of_mem_take (List.mem_of_mem_drop hx)), fun i hi' => ?_⟩, by omega, by omega, fun e => ?_⟩
  · rw [List.length_drop, List.length_take, h.len] at hi'
    obtain ⟨p, rfl, q1, q2⟩ := h.at_.2 (lo + i) (by rw [h.len]; omega)
    refine ⟨p.add lo, ?_, ?_, ?_⟩
    · unfold cutA
      rw [if_neg (by omega)]
      simp
    · rw [add_of_add]; exact q1
    · rw [add_of_add, q2]
      congr 3
      rw [List.getD, List.getD, List.getElem?_drop, List.getElem?_take, if_pos (by omega)]
  · unfold cutA at e
    split at e
    · have := h.nil e; omega
    · cases a with
      | none => have := h.nil rfl; omega
      | some p => cases e
theorem Sl.from_ {w : World} {a : Option Addr} {n c lo : Nat} {bs : List Nat} (h : Sl w a n c bs) (h1 : lo ≤ n) : Sl w (cutA a c lo 1) (n - lo) (c - lo) (bs.drop lo) := by
  have := h.cut h1 (Nat.le_refl n)
  rwa [List.take_of_length_le (Nat.le_of_eq h.len)] at this
theorem Sl.to_ {w : World} {a : Option Addr} {n c hi : Nat} {bs : List Nat} (h : Sl w a n c bs) (h1 : hi ≤ n) : Sl w (cutA a c 0 1) hi c (bs.take hi) := by
  have := h.cut (lo := 0) (Nat.zero_le _) h1
  simpa using this
def OwnS (sz ty : Nat) (w : World) (v : Value) (n : Nat) (xs : List Value) (bo : Option Nat) : Prop :=
  (v = .slice none 0 0 ∧ n = 0 ∧ xs = [] ∧ bo = none) ∨
  (∃ g cap cur, bo = some g ∧ v = .slice (some ⟨g, 0, none⟩) n cap ∧ w.heap[g]? = some (.cells cur ty (0, 0)) ∧ n ≤ cap ∧ cap ≤ maxLen ∧ cur.size = cap * sz ∧ cur.toList.take (n * sz) = xs ∧ xs.length = n * sz)
section
variable {sz ty n : Nat} {w w' : World} {v : Value} {xs : List Value} {bo : Option Nat}
theorem OwnS.nil (sz ty : Nat) (w : World) : OwnS sz ty w (.slice none 0 0) 0 [] none := Or.inl ⟨rfl, rfl, rfl, rfl⟩
theorem OwnS.len (h : OwnS sz ty w v n xs bo) : ∃ a c, v = .slice a n c ∧ n ≤ c ∧ c ≤ maxLen ∧ (a = none → n = 0 ∧ c = 0) := by
  rcases h with ⟨rfl, rfl, _⟩ | ⟨g, cap, cur, _, rfl, _, h1, h2, _⟩
  · exact ⟨_, _, rfl, Nat.le_refl _, Nat.zero_le _, fun _ => ⟨rfl, rfl⟩⟩
  · exact ⟨_, _, rfl, h1, h2, fun e => by cases e⟩
theorem OwnS.keep (h : OwnS sz ty w v n xs bo) (hk : ∀ g, bo = some g → w'.heap[g]? = w.heap[g]?) : OwnS sz ty w' v n xs bo := by
  rcases h with h | ⟨g, cap, cur, rfl, hv, hg, r⟩
  · exact Or.inl h
  · exact Or.inr ⟨g, cap, cur, rfl, hv, (hk g rfl).trans hg, r⟩
theorem OwnS.lt {g : Nat} (h : OwnS sz ty w v n xs (some g)) : g < w.heap.size := by
  rcases h with ⟨_, _, _, h⟩ | ⟨g', cap, cur, e, _, hg, _⟩
  · cases h
  · cases e; exact (Array.getElem?_eq_some_iff.1 hg).1
theorem OwnS.below (h : OwnS sz ty w v n xs bo) (hb : Below w.heap.size w w') : OwnS sz ty w' v n xs bo := h.keep fun g e => hb.block g (by subst e; exact h.lt)
theorem OwnS.drewN (h : OwnS sz ty w v n xs bo) (k : Nat) : OwnS sz ty (w.drewN k) v n xs bo := h.keep fun _ _ => rfl
/-- a cell of it -/
theorem OwnS.at_ (h : OwnS sz ty w v n xs bo) {j : Nat} (hj : j < n * sz) : ∃ g cap, bo = some g ∧ v = .slice (some ⟨g, 0, none⟩) n cap ∧ w.cell? ⟨g, j, none⟩ = xs[j]? ∧ w.frozen? ⟨g, j, none⟩ = false := by
  rcases h with ⟨_, rfl, _⟩ | ⟨g, cap, cur, rfl, rfl, hg, hl, hm, hs, ht, _⟩
  · simp at hj
  · refine ⟨g, cap, rfl, rfl, ?_, frozen_of_blk hg j⟩
    rw [cell_of_row w g j cur ty (0, 0) hg, ← take_get ht hj]
    simp
theorem OwnS.set {g : Nat} (h : OwnS sz ty w v n xs (some g)) (j : Nat) (x : Value) : OwnS sz ty (w.setCell ⟨g, j, none⟩ x) v n (xs.set j x) (some g) := by
  rcases h with ⟨_, _, _, h⟩ | ⟨g', cap, cur, e, hv, hg, hl, hm, hs, ht, hxl⟩
  · cases h
  · cases e
    refine Or.inr ⟨g, cap, cur.setIfInBounds j x, rfl, hv, ?_, hl, hm, by simpa using hs, ?_, by simpa using hxl⟩
    · rw [setCell_eq_setRow w g j cur ty (0, 0) x hg, setRow_heap w g _ _ _ _ hg]
    · simp only [Array.toList_setIfInBounds]
      rw [List.take_set, ht]
theorem OwnS.modNew {base : Nat} (h : OwnS sz ty w v n xs bo) (hb : bo = none ∨ ∃ g, bo = some g ∧ base ≤ g) (hm : Mod (fun k => bo = some k) w w') (hs : base ≤ w.heap.size) : Below base w w' :=
  ⟨hm.os, hm.tape, hm.output, hm.size, fun j hj => hm.same j (by omega) fun e => by
    rcases hb with e2 | ⟨g, e2, h⟩
    · rw [e2] at e; cases e
    · rw [e2] at e; cases e; omega⟩
end
section
variable {P : Program}
theorem run_append_s (w : World) (t ty e : TypeId) (i : TypeInfo) (z : Value) (sz bytes : Nat) (ht : P.underlying t = some (.slice e)) (hi : P.info? e = some i) (hz : i.zero = some z)
    (hsize : i.size = sz) (hby : i.bytes = bytes) (hzs : z.cells.size = sz) (hsz : 0 < sz)
    (v : Value) (n : Nat) (xs : List Value) (bo : Option Nat) (hown : OwnS sz e w v n xs bo)
    (a : Addr) (m c : Nat) (news : List Value) (hl : news.length = m * sz) (hnews : ∀ j u, news[j]? = some u → w.cell? (a.add j) = some u) (h1 : ∀ u ∈ news, u.oneCell' = true)
    (h63 : n + m ≤ maxLen) (hbytes : (n + m) * bytes ≤ 140737488355328) :
    ∃ v' w' bo', (Builtin.append_ #[t, t] ty #[v, .slice (some a) m c]).run P w = .ok v' w' ∧ OwnS sz e w' v' (n + m) (xs ++ news) bo' ∧ Mod (fun k => bo = some k) w w' ∧ NewOr w bo bo' := by
  have hadd : (n + m) * sz = n * sz + m * sz := Nat.add_mul _ _ _
  have fresh : ∀ v' w', w'.ownsRow w.heap.size e sz v' (n + m) (xs ++ news) → xs.length = n * sz → ∃ bo', OwnS sz e w' v' (n + m) (xs ++ news) bo' ∧ (bo' = none ∨ ∃ g, bo' = some g ∧ w.heap.size ≤ g) := by
    intro v' w' ho hxl
    have hlen : (xs ++ news).length = (n + m) * sz := by rw [List.length_append, hxl, hl, hadd]
    rcases ho.2 with ⟨rfl, h0⟩ | ⟨g, cap, cur, rfl, hb, hg, h2, h3, h4, h5⟩
    · rw [h0] at hlen
      simp only [Nat.zero_mul] at hlen
      exact ⟨none, Or.inl ⟨rfl, h0, List.eq_nil_of_length_eq_zero hlen, rfl⟩, Or.inl rfl⟩
    · exact ⟨some g, Or.inr ⟨g, cap, cur, rfl, rfl, hg, h2, h3, h4, h5, hlen⟩, Or.inr ⟨g, rfl, hb⟩⟩
  rcases hown with ⟨rfl, rfl, rfl, rfl⟩ | ⟨g, cap, cur, rfl, rfl, hg, hnc, hcm, hcs, htake, hxl⟩
  · obtain ⟨v', w', hr, h2, h3, _⟩ := run_append_own (P := P) w w.heap.size t ty e i z sz bytes ht hi hz hsize hby hzs hsz (.slice none 0 0) 0 [] (World.ownsRow_nil w _ e sz) a m c news hl hnews h1 h63 hbytes (Nat.le_refl _)
    obtain ⟨bo', ho, hn⟩ := fresh v' w' (by simpa using h2) (by simp)
    refine ⟨v', w', bo', hr, by simpa using ho, ⟨h3.os, h3.tape, h3.output, h3.size, fun k hk _ => h3.block k hk (by simp [Value.ownBlock])⟩, ?_⟩
    rcases hn with rfl | h
    · exact Or.inl rfl
    · exact Or.inr h
  · by_cases hroom : n + m ≤ cap
    · have hcs2 : cap * sz = n * sz + (cap - n) * sz := by rw [← Nat.add_mul, Nat.add_sub_cancel' hnc]
      have hm2 : m * sz ≤ (cap - n) * sz := Nat.mul_le_mul_right _ (by omega)
      have hr := run_append_room (P := P) w t ty e i ht hi g n cap cur hg a m c news (by rw [hsize]; exact hl) hnews h1 hroom (by rw [hsize]; omega)
      refine ⟨_, _, some g, hr, Or.inr ⟨g, cap, _, rfl, rfl, setRow_heap w g cur _ e _ hg, hroom, hcm, ?_, ?_, by rw [List.length_append, hxl, hl, hadd]⟩, (Mod.refl _ w).setRow g _ (fun _ => rfl), Or.inl rfl⟩
      · simp [hsize]; omega
      · simp only [hsize]
        have hlen : (cur.toList.take (n * sz) ++ news).length = (n + m) * sz := by rw [htake, List.length_append, hxl, hl, hadd]
        rw [htake] at hlen ⊢
        rw [← hlen]
        exact List.take_left
    · have holds : ∀ j u, xs[j]? = some u → w.cell? ((⟨g, 0, none⟩ : Addr).add j) = some u := by
        intro j u hj
        have hjl : j < n * sz := by
          by_cases h : j < n * sz
          · exact h
          · rw [List.getElem?_eq_none (by omega)] at hj; simp at hj
        rw [add0, cell_of_row w g j cur _ (0, 0) hg, ← hj, ← take_get htake hjl]
        simp
      obtain ⟨v', w', hr, h2, h3⟩ := run_append_arg_grows (P := P) w t ty e i z sz bytes ht hi hz hsize hby hzs hsz ⟨g, 0, none⟩ n cap xs hxl holds a m c news hl hnews (by omega) h63 hbytes
      obtain ⟨bo', ho, hn⟩ := fresh v' w' h2 hxl
      refine ⟨v', w', bo', hr, ho, ⟨h3.os, h3.tape, h3.output, h3.size, fun k hk _ => h3.block k hk (by simp)⟩, ?_⟩
      rcases hn with rfl | h
      · rcases ho with ⟨_, h0, _⟩ | ⟨_, _, _, h0, _⟩
        · omega
        · simp at h0
      · exact Or.inr h
theorem wpList_append_s {w : World} {ops : Array Oper} {rest : List Oper} {o : Oper} {a : Act} {Q : Exit → Act → World → Prop} (hgd : o.guard = none) (s x : Operand) (t : TypeId)
    (ho : o.op = .call { callee := .builtin .append, args := #[s, x], argTypes := #[t, t] }) (e : TypeId) (z : Value) (sz bytes : Nat) (ht : P.underlying t = some (.slice e)) (hinfo : (P.info? e).map (fun i => (i.zero, i.size, i.bytes)) = some (some z, sz, bytes)) (hzs : z.cells.size = sz) (hsz : 0 < sz)
    (v : Value) (hs : a.eval s = v) (n : Nat) (xs : List Value) (bo : Option Nat) (hown : OwnS sz e w v n xs bo)
    (ad : Addr) (m c : Nat) (news : List Value) (hx : a.eval x = .slice (some ad) m c) (hl : news.length = m * sz) (hnews : ∀ j u, news[j]? = some u → w.cell? (ad.add j) = some u) (h1 : ∀ u ∈ news, u.oneCell' = true)
    (h63 : n + m ≤ maxLen) (hbytes : (n + m) * bytes ≤ 140737488355328)
    (h : ∀ v' w' bo', Hid (OwnS sz e w' v' (n + m) (xs ++ news) bo') → Hid (Mod (fun k => bo = some k) w w') → Hid (NewOr w bo bo') → wpList P ops Q rest (a.put o.dst v') w') : wpList P ops Q (o :: rest) a w := by
  obtain ⟨i, hi, hz, hsize, hby⟩ := info_parts hinfo
  refine wpList_plain hgd fun K hK => ?_
  obtain ⟨v', w', bo', hr, h2, h3, h4⟩ := run_append_s (P := P) w t o.type e i z sz bytes ht hi hz hsize hby hzs hsz v n xs bo hown ad m c news hl hnews h1 h63 hbytes
  unfold Oper.wp execOp
  simp only [ho, resolve, invoke, builtin, Sem.run_bind, Sem.run_pure, Result.andThen_ok, List.map_toArray, List.map_cons, List.map_nil, hs, hx, hr]
  exact hK _ _ (h v' w' bo' h2 h3 h4)
theorem step_append_s {w : World} {ops : Array Oper} {o : Oper} {a : Act} {K : Act → World → Prop} {Q : Exit → Act → World → Prop} {E : Prop} (hgd : o.guard = none) (s x : Operand) (t : TypeId)
    (ho : o.op = .call { callee := .builtin .append, args := #[s, x], argTypes := #[t, t] }) (e : TypeId) (z : Value) (sz bytes : Nat) (ht : P.underlying t = some (.slice e)) (hinfo : (P.info? e).map (fun i => (i.zero, i.size, i.bytes)) = some (some z, sz, bytes)) (hzs : z.cells.size = sz) (hsz : 0 < sz)
    (v : Value) (hs : a.eval s = v) (n : Nat) (xs : List Value) (bo : Option Nat) (hown : OwnS sz e w v n xs bo)
    (ad : Addr) (m c : Nat) (news : List Value) (hx : a.eval x = .slice (some ad) m c) (hl : news.length = m * sz) (hnews : ∀ j u, news[j]? = some u → w.cell? (ad.add j) = some u) (h1 : ∀ u ∈ news, u.oneCell' = true)
    (h63 : n + m ≤ maxLen) (hbytes : (n + m) * bytes ≤ 140737488355328)
    (h : ∀ v' w' bo', Hid (OwnS sz e w' v' (n + m) (xs ++ news) bo') → Hid (Mod (fun k => bo = some k) w w') → Hid (NewOr w bo bo') → K (a.put o.dst v') w') :
    if Region.wanted o (yielded ops a.tmps) = true then Oper.wp P o a w K Q else E := by
  have hw : Region.wanted o (yielded ops a.tmps) = true := by simp [Region.wanted, hgd]
  rw [if_pos hw]
  obtain ⟨i, hi, hz, hsize, hby⟩ := info_parts hinfo
  obtain ⟨v', w', bo', hr, h2, h3, h4⟩ := run_append_s (P := P) w t o.type e i z sz bytes ht hi hz hsize hby hzs hsz v n xs bo hown ad m c news hl hnews h1 h63 hbytes
  unfold Oper.wp execOp
  simp only [ho, resolve, invoke, builtin, Sem.run_bind, Sem.run_pure, Result.andThen_ok, List.map_toArray, List.map_cons, List.map_nil, hs, hx, hr]
  exact h v' w' bo' h2 h3 h4
end
theorem Mod.belowOf {S : Nat → Prop} {w0 w w' : World} (h : Mod S w w') (hw : w0.heap.size ≤ w.heap.size) (hS : ∀ j, S j → w0.heap.size ≤ j) : Below w0.heap.size w w' :=
  ⟨h.os, h.tape, h.output, h.size, fun j hj => h.same j (by omega) (fun e => by have := hS j e; omega)⟩
theorem NewOr.since {w w2 : World} {bo bo1 : Option Nat} (hn : NewOr w2 bo bo1) (hbo : bo = none ∨ ∃ g, bo = some g ∧ w.heap.size ≤ g) (hs : w.heap.size ≤ w2.heap.size) : bo1 = none ∨ ∃ g, bo1 = some g ∧ w.heap.size ≤ g := by
  rcases hn with e | ⟨g, e, hg⟩
  · rw [e]; exact hbo
  · exact Or.inr ⟨g, e, by omega⟩
theorem Mod.sinceOf {w w2 w1 : World} {bo : Option Nat} (hm : Mod (fun k => bo = some k) w2 w1) (hbo : bo = none ∨ ∃ g, bo = some g ∧ w.heap.size ≤ g) (hs : w.heap.size ≤ w2.heap.size) : Below w.heap.size w2 w1 := ⟨hm.os, hm.tape, hm.output, hm.size, fun j hj => hm.same j (by omega) fun e => by
    rcases hbo with e2 | ⟨g, e2, hg⟩
    · rw [e2] at e; cases e
    · rw [e2] at e; cases e; omega⟩
/-- a clone, with where it lies -/
theorem clone_new {w : World} {a : Option Addr} {n c : Nat} {bs : List Nat} (h : Sl w a n c bs) (hn : n ≤ 140737488355328) : Calls Tryd.prog 37 #[.slice a n c] w fun e w' => ∃ a' c', e = .returned (.slice a' n c') ∧ Sl w' a' n c' bs ∧ Below w.heap.size w w' ∧ ∀ p : Addr, a' = some p → w.heap.size ≤ p.block ∧ p.block < w'.heap.size :=
  (cloneB_any w a n c bs h.len h.at_ hn (fun e => (h.nil e).1)).mono fun e w' q => by
    obtain ⟨v, bo, rfl, h1, h2, h3⟩ := q
    have hl := h.len
    rcases h1 with ⟨rfl, e, rfl⟩ | ⟨g, cap, cur, rfl, rfl, h4, h5, h6, h7, h8⟩
    · have : bs = [] := by simpa [bV] using e
      subst this
      obtain rfl : n = 0 := hl.symm
      exact ⟨none, 0, rfl, sl_nil _, h2, fun p e => by cases e⟩
    · have hbl : (bV bs).length = n := by simp [bV, hl]
      rw [hbl] at h5 h8
      refine ⟨some ⟨g, 0, none⟩, cap, by rw [hbl], ⟨hl, ⟨h.at_.1, fun i hi => ⟨_, rfl, ?_, ?_⟩⟩, h5, h6, fun e => by cases e⟩, h2, fun p e => ?_⟩
      · rw [add0]; exact (Array.getElem?_eq_some_iff.1 h4).1
      · rw [add0, cell_of_blk (c := cur.toList) (t := 5) (by simpa using h4)]
        have e := take_get (j := i) h8 (by omega)
        rw [e]
        simp [bV, List.getD, hi]
      · cases e
        rcases h3 with e | ⟨g', e, h3⟩
        · cases e
        · cases e; exact ⟨h3, (Array.getElem?_eq_some_iff.1 h4).1⟩
theorem sl_one (w : World) (x : Nat) (t : TypeId) (hx : x < 256) : Sl (w.alloc (.cells #[.int .u8 (x : Nat)] t)) (some ⟨w.heap.size, 0, none⟩) 1 1 [x] := by
  have hb : (w.alloc (.cells #[.int .u8 (x : Nat)] t)).heap[w.heap.size]? = some (.cells [.int .u8 (x : Nat)].toArray t (0, 0)) := heap_alloc_new w _
  refine ⟨rfl, ⟨by simpa using hx, fun i hi => ⟨_, rfl, ?_, ?_⟩⟩, Nat.le_refl _, by unfold maxLen; omega, fun e => by cases e⟩
  · rw [add0]; simp
  · rw [add0, cell_of_blk hb]
    have hi : i < 1 := hi
    obtain rfl : i = 0 := by omega
    rfl
theorem sl_two (w : World) (x y : Nat) (t : TypeId) (hx : x < 256) (hy : y < 256) : Sl (w.alloc (.cells #[.int .u8 (x : Nat), .int .u8 (y : Nat)] t)) (some ⟨w.heap.size, 0, none⟩) 2 2 [x, y] := by
  have hb : (w.alloc (.cells #[.int .u8 (x : Nat), .int .u8 (y : Nat)] t)).heap[w.heap.size]? = some (.cells [.int .u8 (x : Nat), .int .u8 (y : Nat)].toArray t (0, 0)) := heap_alloc_new w _
  refine ⟨rfl, ⟨by simp [hx, hy], fun i hi => ⟨_, rfl, ?_, ?_⟩⟩, Nat.le_refl _, by unfold maxLen; omega, fun e => by cases e⟩
  · rw [add0]; simp
  · rw [add0, cell_of_blk hb]
    have hi : i < 2 := hi
    obtain rfl | rfl : i = 0 ∨ i = 1 := by omega
    · rfl
    · rfl
theorem sl_of_own {w : World} {v : Value} {bs : List Nat} {n : Nat} {bo : Option Nat} (h : OwnS 1 u8T w v n (bV bs) bo) (hb : ∀ x ∈ bs, x < 256) : ∃ a c, v = .slice a n c ∧ Sl w a n c bs := by
  rcases h with ⟨rfl, rfl, e, rfl⟩ | ⟨g, cap, cur, rfl, rfl, h4, h5, h6, h7, h8, h9⟩
  · have : bs = [] := by simpa [bV] using e
    subst this
    exact ⟨none, 0, rfl, sl_nil w⟩
  · have hl : bs.length = n := by simpa [bV] using h9
    refine ⟨_, _, rfl, hl, ⟨hb, fun i hi => ⟨_, rfl, ?_, ?_⟩⟩, h5, h6, fun e => by cases e⟩
    · rw [add0]; exact (Array.getElem?_eq_some_iff.1 h4).1
    · rw [add0]
      have h4' : w.heap[g]? = some (.cells cur.toList.toArray u8T (0, 0)) := h4
      rw [cell_of_blk h4']
      have : (cur.toList.take (n * 1))[i]? = (bV bs)[i]? := by rw [h8]
      rw [List.getElem?_take, if_pos (by omega), bV_get, List.getElem?_eq_getElem hi] at this
      rw [this]
      simp [List.getD, hi]
theorem sl_news {w : World} {p : Addr} {n c : Nat} {bs : List Nat} (h : Sl w (some p) n c bs) {w' : World} (hb : Below w.heap.size w w') : ∀ j u, (bV bs)[j]? = some u → w'.cell? (p.add j) = some u := fun j u hj => by
  rw [bV_get] at hj
  have hj2 : j < bs.length := by
    by_cases h : j < bs.length
    · exact h
    · rw [List.getElem?_eq_none (by omega)] at hj; simp at hj
  rw [List.getElem?_eq_getElem hj2] at hj
  simp only [Option.map_some, Option.some.injEq] at hj
  subst hj
  obtain ⟨p', hp, h1, h2⟩ := h.at_.2 j hj2
  obtain rfl : p = p' := by simpa using hp
  rw [hb.cell h1, h2]
  simp [List.getD, hj2]
theorem run_append_nn (w : World) (t ty : TypeId) (ht : Tryd.prog.underlying t = some (.slice u8T)) (c : Nat) : (Builtin.append_ #[t, t] ty #[.slice none 0 0, .slice none 0 c]).run Tryd.prog w = .ok (.slice none 0 0) w := by
  obtain ⟨i, hi, hz, hsize, hby⟩ := info_parts cloneB_info
  have hu : ∀ w, (underlying t).run Tryd.prog w = .ok (.slice u8T) w := fun w => by simp [underlying, go_sem, ht]
  have hs : ∀ w, (sizeOf u8T).run Tryd.prog w = .ok 1 w := fun w => by
    have hi' : Tryd.prog.info? u8T = some i := hi
    simp [sizeOf, typeInfo, go_sem, hi', hsize]
  simp only [Builtin.append_, Sem.run_bind, Result.andThen_ok, hu, hs, List.getElem?_toArray, List.getElem?_cons_zero, List.getElem?_cons_succ]
  simp [go_sem, hu, hs]
theorem wpList_append_b {w : World} {ops : Array Oper} {rest : List Oper} {o : Oper} {a : Act} {Q : Exit → Act → World → Prop} (hgd : o.guard = none) (s x : Operand) (t : TypeId)
    (ho : o.op = .call { callee := .builtin .append, args := #[s, x], argTypes := #[t, t] }) (ht : Tryd.prog.underlying t = some (.slice u8T)) (hs : a.eval s = .slice none 0 0)
    (a3 : Option Addr) (n3 c3 : Nat) (bs : List Nat) (hx : a.eval x = .slice a3 n3 c3) (hS : Sl w a3 n3 c3 bs) (hn : n3 ≤ 1000)
    (h : ∀ v' w' bo', Hid (OwnS 1 u8T w' v' n3 (bV bs) bo') → Hid (Below w.heap.size w w') → Hid (NewOr w none bo') → wpList Tryd.prog ops Q rest (a.put o.dst v') w') : wpList Tryd.prog ops Q (o :: rest) a w := by
  have hl := hS.len
  cases a3 with
  | none =>
    obtain ⟨rfl, rfl⟩ := hS.nil rfl
    obtain rfl : bs = [] := List.eq_nil_of_length_eq_zero hl
    refine wpList_plain hgd fun K hK => ?_
    have hr := run_append_nn w t o.type ht 0
    unfold Oper.wp execOp
    simp only [ho, resolve, invoke, builtin, Sem.run_bind, Sem.run_pure, Result.andThen_ok, List.map_toArray, List.map_cons, List.map_nil, hs, hx, hr]
    exact hK _ _ (h _ w none (OwnS.nil _ _ _) (Below.refl _ w) (Or.inl rfl))
  | some p =>
    refine wpList_append_s hgd s x t ho u8T (.int .u8 0) 1 1 ht cloneB_info rfl (by omega) (.slice none 0 0) hs 0 [] none (OwnS.nil _ _ _) p n3 c3 (bV bs) hx (by simp [bV, hl]) (sl_news hS (Below.refl _ w)) (bV_one bs) (by unfold maxLen; omega) (by omega) ?_
    intro v' w' bo' H1 H2 H3
    have H1' := H1.out
    rw [Nat.zero_add, List.nil_append] at H1'
    exact h v' w' bo' H1' (H2.out.belowOf (Nat.le_refl _) (fun _ e => by cases e)) H3
end YtehamfhblpokbaaDoor
end Go.Proofs
