/- The law FindAll; Numbers' bytes. No program but in how its operations count; ser's num and Num, and the document's Num; A leaf, and nobody: how many, head, laid, encoded; The tree of pairs that rise (spunyarnlaw30); A leaf laid, and encoded; nobody encoded; A leaf encoded; nobody encoded, and how many bytes that is; The law SerNums. -/
import Derived.Test.YtkonbldjmcccmaaJ4
import Derived.Test.YtkonbldjmcccmaaJ3
import Derived.Test.YtkonbldjmcccmaaProg
import Derived.WalkKit
import Derived.Test.YtkonbldjmcccmaaJ6
import Derived.Laws.EntriesVeiled
set_option linter.unusedVariables false
set_option linter.unusedSimpArgs false
/- The law FindAll. -/
namespace Go.Proofs.Ytkonbldjmcccmaa
open Go.RowKit
theorem psrt_look {l : PL} (h : PSrt l) {i : Nat} (hi : i < l.length) : plook l (l.getD i ([], 0)).1 = some (l.getD i ([], 0)).2 :=
  plook_at (fun j hj e => by
    have := h.at_ (i := j) (j := i) hj hi
    rw [e] at this
    exact slt_irrefl _ this) hi rfl
theorem sl_of_own {w : World} {v : Value} {bs : List Nat} {n : Nat} {bo : Option Nat} (h : OwnS 1 u8T w v n (bV bs) bo) (hb : ∀ x ∈ bs, x < 256) : ∃ a c, v = .slice a n c ∧ Sl w a n c bs := by
  rcases h with ⟨rfl, rfl, e, rfl⟩ | ⟨g, cap, cur, rfl, rfl, h4, h5, h6, h7, h8, h9⟩
  · have : bs = [] := by simpa [bV] using e
    subst this
    exact ⟨none, 0, rfl, sl_nil w⟩
  · have hl : bs.length = n := by simpa [bV] using h9
    refine ⟨_, _, rfl, hl, ⟨hb, fun i hi => ⟨_, rfl, ?_, ?_⟩⟩, h5, h6, fun e => by cases e⟩
    · rw [add0]; exact (Array.getElem?_eq_some_iff.1 h4).1
    · rw [add0]
      have h4' : w.heap[g]? = some (.cells cur.toList.toArray u8T (0, 0)) := h4
      rw [cell_of_blk h4']
      have : (cur.toList.take (n * 1))[i]? = (bV bs)[i]? := by rw [h8]
      rw [List.getElem?_take, if_pos (by omega), bV_get, List.getElem?_eq_getElem hi] at this
      rw [this]
      simp [List.getD, hi]
theorem sl_news {w : World} {p : Addr} {n c : Nat} {bs : List Nat} (h : Sl w (some p) n c bs) {w' : World} (hb : Below w.heap.size w w') : ∀ j u, (bV bs)[j]? = some u → w'.cell? (p.add j) = some u := fun j u hj => by
  rw [bV_get] at hj
  have hj2 : j < bs.length := by
    by_cases h : j < bs.length
    · exact h
    · rw [List.getElem?_eq_none (by omega)] at hj; simp at hj
  rw [List.getElem?_eq_getElem hj2] at hj
  simp only [Option.map_some, Option.some.injEq] at hj
  subst hj
  obtain ⟨p', hp, h1, h2⟩ := h.at_.2 j hj2
  obtain rfl : p = p' := by simpa using hp
  rw [hb.cell h1, h2]
  simp [List.getD, hj2]
theorem sort_says2 {w : World} {a : Option Addr} {n c : Nat} {l : PL} (h : Prs w a n c l) (hn : n ≤ 300) (hk : ∀ x ∈ l, x.1.length ≤ 300) : Calls Try.prog 37 #[.slice a n c] w fun e w1 => ∃ a1 m c1 l0, e = .returned (.slice a1 m c1) ∧ Prs w1 a1 m c1 l0 ∧ m ≤ n ∧ PSrt l0 ∧ (∀ x ∈ l0, x.1.length ≤ 300) ∧ Below w.heap.size w w1 ∧ Calls Try.prog 38 #[.slice a1 m c1] w1 (saysPost l0 w1) := by
  refine (ref_sort w a n c l h (by omega)).mono ?_
  rintro e w1 ⟨v, l0, rfl, hP, hS⟩
  obtain ⟨a1, c1, rfl, hp⟩ := hP.prs
  have hl : l0.length ≤ n := by have := hS.len; rw [h.len] at this; exact this
  exact ⟨a1, l0.length, c1, l0, rfl, hp, hl, hS.srt, hS.short hk, hP.below_, law_tree_says w1 a1 l0.length c1 l0 hp (by omega) hS.srt (fun x hx => by have := hS.short hk x hx; omega)⟩
theorem run_append_nn (w : World) (t ty : TypeId) (ht : Try.prog.underlying t = some (.slice u8T)) (c : Nat) : (Builtin.append_ #[t, t] ty #[.slice none 0 0, .slice none 0 c]).run Try.prog w = .ok (.slice none 0 0) w := by
  obtain ⟨i, hi, hz, hsize, hby⟩ := info_parts cloneB_info
  have hu : ∀ w, (underlying t).run Try.prog w = .ok (.slice u8T) w := fun w => by simp [underlying, go_sem, ht]
  have hs : ∀ w, (sizeOf u8T).run Try.prog w = .ok 1 w := fun w => by
    have hi' : Try.prog.info? u8T = some i := hi
    simp [sizeOf, typeInfo, go_sem, hi', hsize]
  simp only [Builtin.append_, Sem.run_bind, Result.andThen_ok, hu, hs, List.getElem?_toArray, List.getElem?_cons_zero, List.getElem?_cons_succ]
  simp [go_sem, hu, hs]
theorem wpList_append_b {w : World} {ops : Array Oper} {rest : List Oper} {o : Oper} {a : Act} {Q : Exit → Act → World → Prop} (hgd : o.guard = none) (s x : Operand) (t : TypeId)
    (ho : o.op = .call { callee := .builtin .append, args := #[s, x], argTypes := #[t, t] }) (ht : Try.prog.underlying t = some (.slice u8T)) (hs : a.eval s = .slice none 0 0)
    (a3 : Option Addr) (n3 c3 : Nat) (bs : List Nat) (hx : a.eval x = .slice a3 n3 c3) (hS : Sl w a3 n3 c3 bs) (hn : n3 ≤ 1000)
    (h : ∀ v' w' bo', Hid (OwnS 1 u8T w' v' n3 (bV bs) bo') → Hid (Below w.heap.size w w') → Hid (NewOr w none bo') → wpList Try.prog ops Q rest (a.put o.dst v') w') : wpList Try.prog ops Q (o :: rest) a w := by
  have hl := hS.len
  cases a3 with
  | none =>
    obtain ⟨rfl, rfl⟩ := hS.nil rfl
    obtain rfl : bs = [] := List.eq_nil_of_length_eq_zero hl
    refine wpList_plain hgd fun K hK => ?_
    have hr := run_append_nn w t o.type ht 0
    unfold Oper.wp execOp
    simp only [ho, resolve, invoke, builtin, Sem.run_bind, Sem.run_pure, Result.andThen_ok, List.map_toArray, List.map_cons, List.map_nil, hs, hx, hr]
    exact hK _ _ (h _ w none (OwnS.nil _ _ _) (Below.refl _ w) (Or.inl rfl))
  | some p =>
    refine wpList_append_s hgd s x t ho u8T (.int .u8 0) 1 1 ht cloneB_info rfl (by omega) (.slice none 0 0) hs 0 [] none (OwnS.nil _ _ _) p n3 c3 (bV bs) hx (by simp [bV, hl]) (sl_news hS (Below.refl _ w)) (bV_one bs) (by unfold maxLen; omega) (by omega) ?_
    intro v' w' bo' H1 H2 H3
    have H1' := H1.out
    rw [Nat.zero_add, List.nil_append] at H1'
    exact h v' w' bo' H1' (H2.out.belowOf (Nat.le_refl _) (fun _ e => by cases e)) H3
/-- behind the two appends -/
theorem all_aft {w3 wr w4 : World} {a3 : Option Addr} {n3 c3 : Nat} {x : List Nat} {y : Int} {t : TypeId} {bo1 : Option Nat} {b : Nat} (hb : b < 256) (hR : Below w3.heap.size w3 wr) (hM : Below (wr.alloc (.cells #[.slice a3 n3 c3, .int .u64 y] t)).heap.size (wr.alloc (.cells #[.slice a3 n3 c3, .int .u64 y] t)) w4) (hN : NewOr (wr.alloc (.cells #[.slice a3 n3 c3, .int .u64 y] t)) none bo1) (hx : ∀ z ∈ x, z < 256) :
    ∀ v2 w5 bo2, OwnS 1 u8T w5 v2 (n3 + 1) (bV x ++ [.int .u8 (b : Nat)]) bo2 → Mod (fun k => bo1 = some k) (w4.alloc (.cells #[.int .u8 (b : Nat)] 5)) w5 → ∃ a5 c5, v2 = .slice a5 (n3 + 1) c5 ∧ w5.cell? ⟨wr.heap.size, 0, none⟩ = some (.slice a3 n3 c3) ∧ w5.cell? ⟨wr.heap.size, 1, none⟩ = some (.int .u64 y) ∧ Sl w5 a5 (n3 + 1) c5 (x ++ [b]) ∧ Below wr.heap.size wr w5 := fun v2 w5 bo2 hO hm => by
  have hk : (wr.alloc (.cells #[.slice a3 n3 c3, .int .u64 y] t)).heap[wr.heap.size]? = some (.cells [.slice a3 n3 c3, .int .u64 y].toArray t (0, 0)) := heap_alloc_new wr _
  obtain ⟨wB, hwB⟩ : ∃ wB, wB = wr.alloc (.cells #[.slice a3 n3 c3, .int .u64 y] t) := ⟨_, rfl⟩
  have b0 : Below wr.heap.size wr wB := by rw [hwB]; exact (Below.refl _ _).alloc (Nat.le_refl _) _
  have sB : wB.heap.size = wr.heap.size + 1 := by rw [hwB]; simp
  rw [← hwB] at hM hN hk
  have bo : bo1 = none ∨ ∃ g, bo1 = some g ∧ wB.heap.size ≤ g := by
    rcases hN with e | ⟨g, e, h⟩
    · exact Or.inl e
    · exact Or.inr ⟨g, e, h⟩
  have h1 : Below wB.heap.size wB (w4.alloc (.cells #[.int .u8 (b : Nat)] 5)) := hM.alloc hM.size _
  have h2 : Below wB.heap.size wB w5 := h1.trans (hm.sinceOf bo h1.size)
  have hk5 := (h2.block wr.heap.size (by omega)).trans hk
  have hbv : bV x ++ [.int .u8 (b : Nat)] = bV (x ++ [b]) := by simp [bV]
  rw [hbv] at hO
  obtain ⟨a5, c5, e, hS⟩ := sl_of_own hO (by
    intro z hz
    rcases List.mem_append.1 hz with hz | hz
    · exact hx z hz
    · rw [List.mem_singleton.1 hz]; exact hb)
  exact ⟨a5, c5, e, by rw [cell_of_blk hk5]; rfl, by rw [cell_of_blk hk5]; rfl, hS, b0.trans (h2.mono b0.size)⟩
end Go.Proofs.Ytkonbldjmcccmaa
/- Numbers' bytes. No program but in how its operations count. -/
namespace Go.Proofs.Ytkonbldjmcccmaa
/-- a number's bytes, seven bits each -/
def numL (n : Nat) : List Nat := if h : n < 128 then [n] else (128 + n % 128) :: numL (n / 128)
termination_by n
decreasing_by exact Nat.div_lt_self (by omega) (by omega)
theorem numL_lt {n : Nat} (h : n < 128) : numL n = [n] := by rw [numL, dif_pos h]
theorem numL_ge {n : Nat} (h : ¬ n < 128) : numL n = (128 + n % 128) :: numL (n / 128) := by rw [numL, dif_neg h]
theorem numL_byte (n : Nat) : ∀ x ∈ numL n, x < 256 := by
  induction n using Nat.strongRecOn with
  | ind n ih =>
    by_cases h : n < 128
    · rw [numL_lt h]; intro x hx; simp at hx; omega
    · rw [numL_ge h]
      intro x hx
      rcases List.mem_cons.1 hx with rfl | hx
      · omega
      · exact ih (n / 128) (Nat.div_lt_self (by omega) (by omega)) x hx
theorem numL_mono (n : Nat) : ∀ m, m ≤ n → (numL m).length ≤ (numL n).length := by
  induction n using Nat.strongRecOn with
  | ind n ih =>
    intro m hm
    by_cases h : n < 128
    · rw [numL_lt h, numL_lt (by omega : m < 128)]; simp
    · by_cases h2 : m < 128
      · rw [numL_ge h, numL_lt h2]; simp
      · rw [numL_ge h, numL_ge h2]
        simp only [List.length_cons]
        have := ih (n / 128) (Nat.div_lt_self (by omega) (by omega)) (m / 128) (Nat.div_le_div_right hm)
        omega
theorem numL_len : ∀ (k n : Nat), n < 128 ^ (k + 1) → (numL n).length ≤ k + 1
  | 0, n, h => by rw [numL_lt (by simpa using h)]; simp
  | k + 1, n, h => by
    by_cases h1 : n < 128
    · rw [numL_lt h1]; simp
    · rw [numL_ge h1, List.length_cons]
      have := numL_len k (n / 128) (by
        rw [Nat.div_lt_iff_lt_mul (by omega)]
        rw [Nat.pow_succ] at h
        exact h)
      omega
theorem numL_ten {n : Nat} (h : n < 18446744073709551616) : (numL n).length ≤ 10 := numL_len 9 n (by omega)
theorem numL_pos (n : Nat) : 1 ≤ (numL n).length := by
  by_cases h : n < 128
  · rw [numL_lt h]; simp
  · rw [numL_ge h]; simp
theorem or128 (x : Nat) (h : x < 128) : (x ||| 128) = 128 + x := by
  have : ∀ x : Fin 128, (x.val ||| 128) = 128 + x.val := by decide
  exact this ⟨x, h⟩
theorem bv_or (x : Nat) (h : x < 128) : (BitVec.ofInt 8 (x : Int) ||| BitVec.ofInt 8 128).toNat = 128 + x := by
  rw [BitVec.toNat_or]
  have h1 : (BitVec.ofInt 8 (x : Int)).toNat = x := by
    rw [BitVec.toNat_ofInt]; omega
  rw [h1]
  exact or128 x h
theorem wrap_u8 {x : Nat} (h : x < 256) : IntKind.u8.wrap (x : Int) = (x : Int) := IntWalk.u8_in _ (by omega)
theorem wrap_u64 {x : Nat} (h : x < 18446744073709551616) : IntKind.u64.wrap (x : Int) = (x : Int) := IntWalk.u64_in _ (by omega)
theorem tmod128 (k : Nat) : (k : Int).tmod 128 = ((k % 128 : Nat) : Int) := by rw [Int.tmod_eq_emod_of_nonneg (by omega)]; omega
theorem tdiv128 (k : Nat) : (k : Int).tdiv 128 = ((k / 128 : Nat) : Int) := by rw [Int.tdiv_eq_ediv_of_nonneg (by omega)]; omega
theorem fdiv128 (k : Nat) : (k : Int).fdiv 128 = ((k / 128 : Nat) : Int) := by rw [Int.fdiv_eq_ediv_of_nonneg _ (by omega)]; omega
theorem run_or (P : Program) (t : TypeId) (x : Nat) (h : x < 128) (w : World) : (binOp .or t (.int .u8 (x : Nat)) (.int .u8 128)).run P w = .ok (.int .u8 ((128 + x : Nat) : Int)) w := by
  have e : (BitVec.ofInt IntKind.u8.bits (x : Int) ||| BitVec.ofInt IntKind.u8.bits 128).toNat = 128 + x := bv_or x h
  show (Op.intBits .or .u8 (x : Int) 128).run P w = _
  simp only [Op.intBits, e]
  rw [wrap_u8 (by omega)]
  rfl
theorem bits_or (x : Nat) (h : x < 128) : bits .or .u8 (x : Int) 128 = ((128 + x : Nat) : Int) := by
  have e : (BitVec.ofInt IntKind.u8.bits (x : Int) ||| BitVec.ofInt IntKind.u8.bits 128).toNat = 128 + x := bv_or x h
  unfold bits
  simp only [e]
  exact wrap_u8 (by omega)
theorem run_shr7 (P : Program) (t : TypeId) (k : Nat) (w : World) : (binOp .shr t (.int .u64 (k : Nat)) (.int .u64 7)).run P w = .ok (.int .u64 ((k / 128 : Nat) : Int)) w := by
  have e : (k : Int).fdiv (2 ^ (min (7 : Int).toNat IntKind.u64.bits)) = ((k / 128 : Nat) : Int) := fdiv128 k
  show (Op.shift .shr .u64 (k : Int) .u64 7).run P w = _
  simp only [Op.shift, show ¬ (7 : Int) < 0 by omega, if_false, e]
  rfl
end Go.Proofs.Ytkonbldjmcccmaa
/- ser's num and Num, and the document's Num. -/
namespace Go.Proofs.Ytkonbldjmcccmaa
open Go.RowKit
theorem append_b1 {w : World} {ops : Array Oper} {rest : List Oper} {o : Oper} {a : Act} {Q : Exit → Act → World → Prop} (hgd : o.guard = none) (s x : Operand)
    (ho : o.op = .call { callee := .builtin .append, args := #[s, x], argTypes := #[27, 27] })
    (v : Value) (hs : a.eval s = v) (n : Nat) (xs : List Value) (bo : Option Nat) (hown : OwnS 1 u8T w v n xs bo)
    (ad : Addr) (m c : Nat) (news : List Value) (hx : a.eval x = .slice (some ad) m c) (hl : news.length = m) (hnews : ∀ j u, news[j]? = some u → w.cell? (ad.add j) = some u) (h1 : ∀ u ∈ news, u.oneCell' = true)
    (hn : n ≤ 1000000) (hm : m ≤ 1000000)
    (h : ∀ v' w' bo', Hid (OwnS 1 u8T w' v' (n + m) (xs ++ news) bo') → Hid (Mod (fun k => bo = some k) w w') → Hid (NewOr w bo bo') → wpList Try.prog ops Q rest (a.put o.dst v') w') : wpList Try.prog ops Q (o :: rest) a w :=
  wpList_append_s hgd s x 27 ho u8T _ 1 1 Try.underlying27 cloneB_info rfl (by omega) v hs n xs bo hown ad m c news hx (by rw [hl]; omega) hnews h1 (by unfold maxLen; omega) (by omega) h
theorem mod_step {w wr X w5 : World} {bo0 bo bo' : Option Nat} (h1 : Mod (fun j => bo0 = some j) w wr) (n1 : NewOr w bo0 bo) (hX : Below wr.heap.size wr X) (hm : Mod (fun j => bo = some j) X w5) (n2 : NewOr X bo bo') : Mod (fun j => bo0 = some j) w w5 ∧ NewOr w bo0 bo' := by
  refine ⟨⟨hm.os.trans (hX.os.trans h1.os), hm.tape.trans (hX.tape.trans h1.tape), hm.output.trans (hX.output.trans h1.output), Nat.le_trans h1.size (Nat.le_trans hX.size hm.size), fun j hj hne => ?_⟩, ?_⟩
  · have hjw := Nat.lt_of_lt_of_le hj h1.size
    rw [hm.same j (Nat.lt_of_lt_of_le hjw hX.size) (fun e => ?_), hX.block j hjw, h1.same j hj hne]
    rcases n1 with e1 | ⟨g, e1, hg⟩
    · rw [e1] at e; exact hne e
    · rw [e1] at e; cases e; omega
  · rcases n2 with e2 | ⟨g, e2, hg⟩
    · rw [e2]; exact n1
    · exact Or.inr ⟨g, e2, Nat.le_trans h1.size (Nat.le_trans hX.size hg)⟩
/-- what num leaves: the bytes behind others; only their own block, or a new one, is written -/
def numPost (bo : Option Nat) (w : World) (xs : List Nat) (n : Nat) (e : Ending) (w' : World) : Prop :=
  ∃ (v' : Value) (M : Nat) (bo' : Option Nat), e = .returned v' ∧ M = xs.length + (numL n).length ∧ OwnS 1 u8T w' v' M (bV (xs ++ numL n)) bo' ∧ Mod (fun j => bo = some j) w w' ∧ NewOr w bo bo'
/-- so far -/
structure NumI (bo0 : Option Nat) (w : World) (xs : List Nat) (n : Nat) (ys : List Nat) (k M : Nat) (v : Value) (bo : Option Nat) (wr : World) : Prop where
  own : OwnS 1 u8T wr v M (bV (xs ++ ys)) bo
  len : M = xs.length + ys.length
  eq : ys ++ numL k = numL n
  mod : Mod (fun j => bo0 = some j) w wr
  new : NewOr w bo0 bo
section
variable {bo0 bo bo' : Option Nat} {w wr w5 : World} {xs ys : List Nat} {n k M b k' : Nat} {v v' : Value} {t : TypeId}
theorem NumI.small (h : NumI bo0 w xs n ys k M v bo wr) (hn : n < 18446744073709551616) (hx : xs.length ≤ 900000) : M ≤ 900010 := by
  have h1 := congrArg List.length h.eq
  rw [List.length_append] at h1
  have := numL_ten hn
  have := h.len
  omega
/-- a byte more -/
theorem NumI.more (h : NumI bo0 w xs n ys k M v bo wr) (e : numL k = b :: numL k') (hO : OwnS 1 u8T w5 v' (M + 1) (bV (xs ++ ys) ++ [.int .u8 (b : Nat)]) bo') (hm : Mod (fun k => bo = some k) (wr.alloc (.cells #[.int .u8 (b : Nat)] t)) w5) (hn : NewOr (wr.alloc (.cells #[.int .u8 (b : Nat)] t)) bo bo') : NumI bo0 w xs n (ys ++ [b]) k' (M + 1) v' bo' w5 := by
  have hA : Below wr.heap.size wr (wr.alloc (.cells #[.int .u8 (b : Nat)] t)) := (Below.refl _ _).alloc (Nat.le_refl _) _
  obtain ⟨q1, q2⟩ := mod_step h.mod h.new hA hm hn
  refine ⟨?_, by rw [List.length_append, h.len]; simp; omega, by rw [← h.eq, e]; simp, q1, q2⟩
  have e2 : bV (xs ++ (ys ++ [b])) = bV (xs ++ ys) ++ [.int .u8 (b : Nat)] := by simp [bV]
  rw [e2]
  exact hO
theorem NumI.last (h : NumI bo0 w xs n ys k M v bo wr) (e : numL k = [k]) (hO : OwnS 1 u8T w5 v' (M + 1) (bV (xs ++ ys) ++ [.int .u8 (k : Nat)]) bo') (hm : Mod (fun k => bo = some k) (wr.alloc (.cells #[.int .u8 (k : Nat)] t)) w5) (hn : NewOr (wr.alloc (.cells #[.int .u8 (k : Nat)] t)) bo bo') : numPost bo0 w xs n (.returned v') w5 := by
  have hA : Below wr.heap.size wr (wr.alloc (.cells #[.int .u8 (k : Nat)] t)) := (Below.refl _ _).alloc (Nat.le_refl _) _
  obtain ⟨q1, q2⟩ := mod_step h.mod h.new hA hm hn
  have he := h.eq
  rw [e] at he
  refine ⟨v', M + 1, bo', rfl, by rw [← he, List.length_append, h.len]; simp; omega, ?_, q1, q2⟩
  have e2 : bV (xs ++ numL n) = bV (xs ++ ys) ++ [.int .u8 (k : Nat)] := by rw [← he]; simp [bV]
  rw [e2]
  exact hO
end
set_option maxHeartbeats 1000000 in
set_option maxRecDepth 100000 in
theorem ser_num {w : World} {v : Value} {xs : List Nat} {bo : Option Nat} (h : OwnS 1 u8T w v xs.length (bV xs) bo) (hm : xs.length ≤ 900000) (n : Nat) (hn : n < 18446744073709551616) : Calls Try.prog 124 #[v, .int .u64 (n : Nat)] w (numPost bo w xs n) := by
  have h0 : Hid (NumI bo w xs n [] n xs.length v bo w) := ⟨by rw [List.append_nil]; exact h, rfl, rfl, Mod.refl _ _, Or.inl rfl⟩
  obtain ⟨bo0, hbo0⟩ : ∃ b, b = bo := ⟨_, rfl⟩
  rw [← hbo0] at h0 ⊢
  clear h hbo0
  go_enter Try.func124, Try.ntmps124
  go_wp2_with fail
  go_loopw [0, 1] (fun v0 v1 wr => ∃ (ys : List Nat) (k M : Nat) (bo : Option Nat), v1 = .int .u64 (k : Nat) ∧ k < 18446744073709551616 ∧ Hid (NumI bo0 w xs n ys k M v0 bo wr)) (fun _ v1 _ => (intOf v1).toNat)
  case atStart => exact ⟨[], n, _, bo0, rfl, hn, h0⟩
  case round =>
    clear h0
    obtain ⟨ys, k, M, bo, rfl, hk, hI⟩ := hrel
    have hM : Hid (M ≤ 1000000) := by have := hI.out.small hn hm; show _ ≤ _; omega
    have h1m : Hid (1 ≤ 1000000) := by show _ ≤ _; omega
    by_cases hc : 128 ≤ k
    · have j1 : (128 : Int) ≤ (k : Int) := by omega
      obtain ⟨r, hr⟩ : ∃ r, r = k % 128 := ⟨_, rfl⟩
      obtain ⟨q, hq⟩ : ∃ q, q = k / 128 := ⟨_, rfl⟩
      obtain ⟨b, hbb⟩ : ∃ b, b = 128 + r := ⟨_, rfl⟩
      have hrem : (k : Int).tmod 128 = (r : Nat) := by rw [tmod128, hr]
      have hwr : IntKind.u64.wrap (r : Int) = (r : Int) := wrap_u64 (by omega)
      have hwr8 : IntKind.u8.wrap (r : Int) = (r : Int) := wrap_u8 (by omega)
      have hor : ∀ w, (binOp .or 5 (.int .u8 (r : Nat)) (.int .u8 128)).run Try.prog w = .ok (.int .u8 (b : Nat)) w := fun w => by rw [hbb]; exact run_or _ _ r (by omega) w
      have hdk : (k : Int) / 128 = (q : Nat) := by rw [hq]; omega
      have hbor : bits .or .u8 (r : Int) 128 = (b : Nat) := by rw [hbb]; exact bits_or r (by omega)
      have hshr : ∀ w, (binOp .shr 26 (.int .u64 (k : Nat)) (.int .u64 7)).run Try.prog w = .ok (.int .u64 (q : Nat)) w := fun w => by rw [hq]; exact run_shr7 _ _ k w
      have hE : Hid (numL k = b :: numL q) := by show _ = _; rw [numL_ge (by omega), hbb, hr, hq]
      have hA : Below wr.heap.size wr (wr.alloc (.cells #[.int .u8 (b : Nat)] 5)) := (Below.refl _ _).alloc (Nat.le_refl _) _
      have hob := Lib.hid (hI.out.own.below hA)
      have hnews := Lib.hid (news_alloc wr [.int .u8 (b : Nat)] 5)
      have hone : Hid (∀ u ∈ ([.int .u8 (b : Nat)] : List Value), u.oneCell' = true) := by intro u hu; simp only [List.mem_singleton] at hu; subst hu; rfl
      have hq64 : q < 18446744073709551616 := by omega
      have hqk : q < k := by omega
      clear hA hr hq hbb
      go_wp2_with (at_builtin; go_loud (refine append_b1 rfl (.tmp 7) (.tmp 12) rfl u0 rfl M (bV (xs ++ ys)) bo hob.out ⟨wr.heap.size, 0, none⟩ 1 1 [.int .u8 (b : Nat)] rfl rfl hnews.out hone.out hM.out h1m.out ?_); intro v5 w5 bo5 HO HM HN)
      have hI2 := Lib.hid (hI.out.more hE.out HO.out HM.out HN.out)
      go_roundw
      case rel => exact ⟨ys ++ [b], q, M + 1, bo5, (by first | rfl | (simp only [hdk]) | (simp only [hquo])), hq64, hI2⟩
      case measure => (simp [intOf]) <;> omega
    · have j1 : ¬ (128 : Int) ≤ (k : Int) := by omega
      have hE : Hid (numL k = [k]) := numL_lt (by omega)
      have hwr8 : IntKind.u8.wrap (k : Int) = (k : Int) := wrap_u8 (by omega)
      have hA : Below wr.heap.size wr (wr.alloc (.cells #[.int .u8 (k : Nat)] 5)) := (Below.refl _ _).alloc (Nat.le_refl _) _
      have hob := Lib.hid (hI.out.own.below hA)
      have hnews := Lib.hid (news_alloc wr [.int .u8 (k : Nat)] 5)
      have hone : Hid (∀ u ∈ ([.int .u8 (k : Nat)] : List Value), u.oneCell' = true) := by intro u hu; simp only [List.mem_singleton] at hu; subst hu; rfl
      clear hA
      go_wp2_with (at_builtin; go_loud (refine append_b1 rfl (.tmp 16) (.tmp 19) rfl u0 rfl M (bV (xs ++ ys)) bo hob.out ⟨wr.heap.size, 0, none⟩ 1 1 [.int .u8 (k : Nat)] rfl rfl hnews.out hone.out hM.out h1m.out ?_); intro v5 w5 bo5 HO HM HN)
      have hL := Lib.hid (hI.out.last hE.out HO.out HM.out HN.out)
      go_ret
      exact hL.out
theorem ser_Num (w : World) (n : Nat) (hn : n < 18446744073709551616) : Calls Try.prog 65 #[.int .u64 (n : Nat)] w (numPost none w [] n) := by
  have hN := Lib.hid (ser_num (w := w) (xs := []) (OwnS.nil _ _ _) (by simp) n hn)
  go_enter Try.func65, Try.ntmps65
  go_wp2_with (go_at_call 124; refine hN.out.mono ?_; rintro e w2 ⟨v', M, bo', rfl, q⟩; have q := Lib.hid q)
  go_ret
  exact ⟨v', M, bo', rfl, q.out⟩
set_option maxHeartbeats 1000000 in
set_option maxRecDepth 100000 in
theorem doc_Num (w : World) (n : Nat) (hn : n < 18446744073709551616) : Calls Try.prog 66 #[.int .u64 (n : Nat)] w (numPost none w [] n) := by
  have h0 : Hid (NumI none w [] n [] n 0 (.slice none 0 0) none w) := ⟨OwnS.nil _ _ _, rfl, rfl, Mod.refl _ _, Or.inl rfl⟩
  go_enter Try.func66, Try.ntmps66
  go_wp2_with fail
  go_loopw [3, 0] (fun v3 v0 wr => ∃ (ys : List Nat) (k M : Nat) (bo : Option Nat), v0 = .int .u64 (k : Nat) ∧ k < 18446744073709551616 ∧ Hid (NumI none w [] n ys k M v3 bo wr)) (fun _ v0 _ => (intOf v0).toNat)
  case atStart => exact ⟨[], n, _, none, rfl, hn, h0⟩
  case round =>
    clear h0
    obtain ⟨ys, k, M, bo, rfl, hk, hI⟩ := hrel
    have hM : Hid (M ≤ 1000000) := by have := hI.out.small hn (by simp); show _ ≤ _; omega
    have h1m : Hid (1 ≤ 1000000) := by show _ ≤ _; omega
    obtain ⟨q, hq⟩ : ∃ q, q = k / 128 := ⟨_, rfl⟩
    have hquo : (k : Int).tdiv 128 = (q : Nat) := by rw [tdiv128, hq]
    have hwq : IntKind.u64.wrap (q : Int) = (q : Int) := wrap_u64 (by omega)
    by_cases hc : 128 ≤ k
    · have j1 : (0 : Int) < (q : Int) := by omega
      obtain ⟨r, hr⟩ : ∃ r, r = k % 128 := ⟨_, rfl⟩
      obtain ⟨b, hbb⟩ : ∃ b, b = 128 + r := ⟨_, rfl⟩
      have hrem : (k : Int).tmod 128 = (r : Nat) := by rw [tmod128, hr]
      have hwr : IntKind.u64.wrap (r : Int) = (r : Int) := wrap_u64 (by omega)
      have hwa : IntKind.u64.wrap (128 + (r : Int)) = (b : Nat) := by rw [hbb, show 128 + (r : Int) = ((128 + r : Nat) : Int) by omega]; exact wrap_u64 (by omega)
      have hwb : IntKind.u8.wrap (b : Int) = (b : Int) := wrap_u8 (by omega)
      have hE : Hid (numL k = b :: numL q) := by show _ = _; rw [numL_ge (by omega), hbb, hr, hq]
      have hA : Below wr.heap.size wr (wr.alloc (.cells #[.int .u8 (b : Nat)] 5)) := (Below.refl _ _).alloc (Nat.le_refl _) _
      have hob := Lib.hid (hI.out.own.below hA)
      have hnews := Lib.hid (news_alloc wr [.int .u8 (b : Nat)] 5)
      have hone : Hid (∀ u ∈ ([.int .u8 (b : Nat)] : List Value), u.oneCell' = true) := by intro u hu; simp only [List.mem_singleton] at hu; subst hu; rfl
      have hq64 : q < 18446744073709551616 := by omega
      have hqk : q < k := by omega
      clear hA hr hq hbb
      go_wp2_with (at_builtin; go_loud (refine append_b1 rfl (.tmp 7) (.tmp 12) rfl u3 rfl M (bV ([] ++ ys)) bo hob.out ⟨wr.heap.size, 0, none⟩ 1 1 [.int .u8 (b : Nat)] rfl rfl hnews.out hone.out hM.out h1m.out ?_); intro v5 w5 bo5 HO HM HN)
      have hI2 := Lib.hid (hI.out.more hE.out HO.out HM.out HN.out)
      go_roundw
      case rel => exact ⟨ys ++ [b], q, M + 1, bo5, rfl, hq64, hI2⟩
      case measure => (simp [intOf]) <;> omega
    · have hq0 : q = 0 := by omega
      subst hq0
      have j1 : ¬ (0 : Int) < ((0 : Nat) : Int) := by omega
      have hE : Hid (numL k = [k]) := numL_lt (by omega)
      have hwr8 : IntKind.u8.wrap (k : Int) = (k : Int) := wrap_u8 (by omega)
      have hA : Below wr.heap.size wr (wr.alloc (.cells #[.int .u8 (k : Nat)] 5)) := (Below.refl _ _).alloc (Nat.le_refl _) _
      have hob := Lib.hid (hI.out.own.below hA)
      have hnews := Lib.hid (news_alloc wr [.int .u8 (k : Nat)] 5)
      have hone : Hid (∀ u ∈ ([.int .u8 (k : Nat)] : List Value), u.oneCell' = true) := by intro u hu; simp only [List.mem_singleton] at hu; subst hu; rfl
      clear hA hq
      go_wp2_with (at_builtin; go_loud (refine append_b1 rfl (.tmp 16) (.tmp 19) rfl u3 rfl M (bV ([] ++ ys)) bo hob.out ⟨wr.heap.size, 0, none⟩ 1 1 [.int .u8 (k : Nat)] rfl rfl hnews.out hone.out hM.out h1m.out ?_); intro v5 w5 bo5 HO HM HN)
      have hL := Lib.hid (hI.out.last hE.out HO.out HM.out HN.out)
      go_ret
      exact hL.out
end Go.Proofs.Ytkonbldjmcccmaa
/- A leaf, and nobody: how many, head, laid, encoded. -/
namespace Go.Proofs.Ytkonbldjmcccmaa
open Go.RowKit
theorem row_len : ∀ (r : Tr), IsK r → TOk r → Can r → (chain r).length ≤ (tl r).length
  | .nil, _, _, _ => by simp [chain]
  | .node .., h, _, _ => h.elim
  | .kid b t r, _, ⟨h1, h2, h3, h4, h5, h6⟩, ⟨c1, c2⟩ => by
    have h := row_len r h4 h5 c2
    have h0 : 0 < (tl t).length := List.length_pos_iff.2 (tl_ne t h2 h3 c1)
    simp only [chain, tl, List.length_cons, List.length_append, pre_length]
    omega
theorem one_leaf {t : Tr} {k : List Nat} {v : Int} (hn : IsN t) (hO : TOk t) (hC : Can t) (h : tl t = [(k, v)]) : t = .node k v true true .nil := by
  cases t with
  | nil => exact hn.elim
  | kid => exact hn.elim
  | node bs y has leaf ks =>
    obtain ⟨o1, o2, o3, o4, o5, o6, o7⟩ := hO
    obtain ⟨c1, c2⟩ := hC
    cases leaf with
    | true =>
      obtain ⟨rfl, rfl⟩ := o5 rfl
      simp [tl] at h
      obtain ⟨rfl, rfl⟩ := h
      rfl
    | false =>
      exfalso
      have h1 := row_len ks o6 o7 c1
      have h2 := c2 rfl
      have h3 := congrArg List.length h
      simp only [tl, List.length_append, pre_length] at h3
      cases has <;> simp only [Bool.false_eq_true, if_false, if_true, List.length_nil, List.length_cons] at h2 h3 <;> omega
/-- a part, and where it is laid -/
def partAt (bs : List Nat) (w : World) (e : Ending) (w' : World) : Prop := e = .returned (.slice (some ⟨w.heap.size, 0, none⟩) bs.length bs.length) ∧ Sl w' (some ⟨w.heap.size, 0, none⟩) bs.length bs.length bs ∧ Below w.heap.size w w'
section
variable {w : World} {n : Nat} {o : Int} {bs : List Nat} {val : Int} {has : Bool} {kk : Option KV} {pv : Value} {bo : Option Nat} {kp : Option Addr} {Sk : Nat → Prop}
set_option maxRecDepth 100000 in
theorem nd_part_at (h : NdIs w n o bs val has kk pv bo kp Sk) (h8 : ∀ x ∈ bs, x < 256) (hn : bs.length ≤ 140737488355328) : Calls Try.prog 32 #[.pointer (some ⟨n, 0, none⟩)] w (partAt bs w) := by
  have c1 := h.c1
  have hmx : Hid (bs.length ≤ maxLen) := by show _ ≤ _; unfold maxLen; omega
  obtain ⟨pa, pc, hpv⟩ := h.own.len
  subst hpv
  have hl : (bV bs).length = bs.length := by simp [bV]
  rw [hl] at c1
  have hmk : ∀ w, (Instr.makeSlice 27 (.int .i64 (bs.length : Nat)) (.int .i64 (bs.length : Nat))).run Try.prog w = .ok (.slice (some ⟨w.heap.size, 0, none⟩) bs.length bs.length) (w.alloc (.cells (List.replicate bs.length (.int .u8 0)).toArray 5)) := fun w => make_u8 w _ hn
  have c1' : ∀ o, (w.alloc o).cell? ⟨n, 1, none⟩ = some (.slice pa bs.length pc) := fun o => (((Below.refl _ w).alloc (Nat.le_refl _) o).cell (p := ⟨n, 1, none⟩) h.lt).trans c1
  have hsz : (Try.prog.info? 5).map (·.size) = some 1 := by kernel_rfl
  have hg : Hid (∀ t, (w.alloc (.cells (Array.replicate bs.length (.int .u8 0)) t)).heap[w.heap.size]? = some (.cells (List.replicate bs.length (Value.int .u8 0)).toArray t (0, 0))) := fun t => by
    rw [heap_alloc_new]; simp
  have hcs : Hid ((bV bs).length = Nat.min bs.length bs.length) := by
    have : Nat.min bs.length bs.length = bs.length := Nat.min_self _
    show _ = _
    rw [hl, this]
  have hpos : Hid (∀ o, 0 < (bV bs).length → (some ⟨w.heap.size, 0, none⟩ : Option Addr) = some ⟨w.heap.size, 0, none⟩ ∧ ∃ ad, pa = some ad ∧ ∀ j v, (bV bs)[j]? = some v → (w.alloc o).cell? (ad.add j) = some v) := fun o hp => by
    obtain ⟨g, cap, e1, e2, _⟩ := h.own.at_ hp
    have e3 : pa = some ⟨g, 0, none⟩ := by simpa using (Value.slice.inj e2).1
    refine ⟨rfl, ⟨g, 0, none⟩, e3, fun j v hj => ?_⟩
    have hjl : j < (bV bs).length := (List.getElem?_eq_some_iff.1 hj).1
    have hv : (bV bs)[j] = v := (List.getElem?_eq_some_iff.1 hj).2
    obtain ⟨g', cap', q1, q2, q3, _⟩ := h.own.at_ hjl
    obtain rfl : g = g' := by rw [e1] at q1; simpa using q1
    have hlt := h.own
    rw [e1] at hlt
    have h2 : (⟨g, 0, none⟩ : Addr).add j = ⟨g, j, none⟩ := add0 g j
    rw [h2, ((Below.refl _ w).alloc (Nat.le_refl _) o).cell (p := ⟨g, j, none⟩) hlt.lt, q3, hv]
  have hfit : Hid (0 + (bV bs).length ≤ (List.replicate bs.length (Value.int .u8 0)).length) := by show _ ≤ _; simp [hl]
  have hone := Lib.hid (bV_one bs)
  have hB : Hid (∀ o, Below w.heap.size w (w.alloc o)) := fun o => (Below.refl _ w).alloc (Nat.le_refl _) o
  have hend : Hid (∀ w' t, w'.heap[w.heap.size]? = some (.cells (splice (List.replicate bs.length (Value.int .u8 0)) 0 (bV bs)).toArray t (0, 0)) → BytesAt w' (some ⟨w.heap.size, 0, none⟩) bs) := fun w' t q => by
    refine ⟨h8, fun i hi => ⟨_, rfl, ?_, ?_⟩⟩
    · rw [add0]
      exact (Array.getElem?_eq_some_iff.1 q).1
    · rw [add0, cell_of_blk q]
      simp [splice, hl, bV, List.getD, hi]
  clear h hn h8
  go_enter Try.func32, Try.ntmps32
  go_wp2_with (with_reducible show wpList _ _ _ (⟨some 17, _, _, _, _, _⟩ :: _) _ _; refine wpList_copy_splice (o := ⟨some 17, _, _, _, _, _⟩) rfl (.tmp 12) (.tmp 16) 27 27 rfl 5 cloneB_under hsz _ _ _ _ _ _ rfl rfl w.heap.size 0 _ _ (hg.out _) (bV bs) hcs.out (hpos.out _) hfit.out hone.out w.heap.size w (hB.out _) (Nat.le_refl _) ?_; intro w' hg2 hb2; have q := Lib.hid (hend.out _ _ hg2.out))
  go_ret
  exact ⟨rfl, ⟨rfl, q.out, Nat.le_refl _, hmx.out, fun e => by cases e⟩, hb2⟩
end
structure LeafW (w : World) (n : Nat) (bs : List Nat) (val : Int) : Prop where
  part : ∀ X, Below w.heap.size w X → Calls Try.prog 32 #[.pointer (some ⟨n, 0, none⟩)] X (partAt bs X)
  val : ∀ X, Below w.heap.size w X → Calls Try.prog 17 #[.pointer (some ⟨n, 0, none⟩)] X fun e w' => e = .returned (.tuple #[.int .u64 val, .bool true]) ∧ X = w'
  kind : ∀ X, Below w.heap.size w X → Calls Try.prog 29 #[.pointer (some ⟨n, 0, none⟩)] X fun e w' => e = .returned (.int .i64 1) ∧ X = w'
  next : ∀ X, Below w.heap.size w X → Calls Try.prog 18 #[.pointer (some ⟨n, 0, none⟩), .int .i64 0] X fun e w' => e = .returned (.tuple #[.int .u8 0, .pointer none]) ∧ ∃ k, w' = X.drewN k
theorem leafw_of {w0 w : World} {Q : List NP} {bs : List Nat} {val : Int} {v : Option Addr} (hQ : StoreP NoB w0 w Q) (hT : TreeIn Q 0 (.node bs val true true .nil) (.pointer v) []) : ∃ n, v = some ⟨n, 0, none⟩ ∧ LeafW w n bs val := by
  obtain ⟨i, p, _, h1, h2, h3, h4, h5, h6, _⟩ := hT
  obtain rfl : v = some ⟨p.n, 0, none⟩ := by simpa using h2
  have hk : p.kk = none := by simpa using h6
  refine ⟨p.n, rfl, fun X hb => ?_, fun X hb => ?_, fun X hb => ?_, fun X hb => ?_⟩
  all_goals obtain ⟨pv, bo, kp, Sk, hd⟩ := (hQ.below hb).is h1
  all_goals have hf := (hQ.below hb).fit h1
  · have := nd_part_at hd hf.1 hf.2; rw [h3] at this; exact this
  · have := nd_val hd; rw [h4, h5] at this; exact this
  · have := nd_kind hd; rw [hk] at this; exact this
  · have := nd_next hd 0 (by omega) (by omega); rw [hk] at this; exact this
/-! canon.Count -/
theorem each1_nil (w : World) (pf pd : Value) : Calls Try.prog 172 #[.slice none 0 0, .pointer none, pf, pd] w fun e w' => e = .returned (.tuple #[]) ∧ w = w' := by
  go_enter Try.func172, Try.ntmps172
  go_wp2_with fail
  (try simp only [Exit.inBlock, Exit.then])
  refine bodyPost_ret (results_none rfl _ _ _) rfl ?_
  exact ⟨rfl, rfl⟩
theorem count_cb {w X : World} {n : Nat} {bs : List Nat} {val : Int} (h : LeafW w n bs val) (hb : Below w.heap.size w X) {m : Nat} {x : Int} (hc : X.cell? ⟨m, 0, none⟩ = some (.int .i64 x)) (hf : X.frozen? ⟨m, 0, none⟩ = false) (hx : 0 ≤ x ∧ x < 1000000) (a : Option Addr) (n' c' : Nat) : Calls Try.prog 176 #[.slice a n' c', .pointer (some ⟨n, 0, none⟩), .pointer (some ⟨m, 0, none⟩)] X fun e w' => e = .returned (.tuple #[]) ∧ w' = X.setCell ⟨m, 0, none⟩ (.int .i64 (x + 1)) := by
  have hV := Lib.hid (h.val X hb)
  have hw : IntKind.i64.wrap (x + 1) = x + 1 := IntWalk.i64_in _ (by omega)
  clear h hb
  go_enter Try.func176, Try.ntmps176
  go_wp2_with (go_at_call 17; refine hV.out.mono ?_; rintro e w' ⟨rfl, rfl⟩)
  go_end0
  exact ⟨rfl, rfl⟩
/-- what a count of one leaves -/
def onePost (X : World) (m : Nat) (x : Int) (e : Ending) (w' : World) : Prop := e = .returned (.tuple #[]) ∧ w'.cell? ⟨m, 0, none⟩ = some (.int .i64 (x + 1)) ∧ ∀ lo, lo ≤ m → lo ≤ X.heap.size → Below lo X w'
set_option maxHeartbeats 1000000 in
set_option maxRecDepth 100000 in
theorem each1_leaf {w X : World} {n : Nat} {bs : List Nat} {val : Int} (h : LeafW w n bs val) (hl : bs.length ≤ 1000) (hb : Below w.heap.size w X) {m bf bd : Nat} {x : Int} (hmw : w.heap.size ≤ m) (hm : X.heap[m]? = some (.cells [.int .i64 x].toArray 3 (0, 0))) (hc : X.cell? ⟨bf, 0, none⟩ = some (.func (.func 176) #[] #[.pointer (some ⟨m, 0, none⟩)])) (hx : 0 ≤ x ∧ x < 1000000) :
    Calls Try.prog 172 #[.slice none 0 0, .pointer (some ⟨n, 0, none⟩), .pointer (some ⟨bf, 0, none⟩), .pointer (some ⟨bd, 0, none⟩)] X (onePost X m x) := by
  have hP := Lib.hid (h.part X hb)
  have hL : Hid (bs.length ≤ 1000) := hl
  have hbf := cell_lt hc
  have hmlt := (Array.getElem?_eq_some_iff.1 hm).1
  have hAll : Hid (∀ X2, Below X.heap.size X X2 → X2.cell? ⟨bf, 0, none⟩ = some (.func (.func 176) #[] #[.pointer (some ⟨m, 0, none⟩)]) ∧
      (∀ a n' c', Calls Try.prog 176 #[.slice a n' c', .pointer (some ⟨n, 0, none⟩), .pointer (some ⟨m, 0, none⟩)] X2 fun e w' => e = .returned (.tuple #[]) ∧ (Calls Try.prog 18 #[.pointer (some ⟨n, 0, none⟩), .int .i64 0] w' fun e w'' => e = .returned (.tuple #[.int .u8 0, .pointer none]) ∧ ∃ k, w'' = w'.drewN k ∧ onePost X m x (.returned (.tuple #[])) w'')) ) := fun X2 hb2 => by
    have hm2 := (hb2.block m hmlt).trans hm
    have hbw := hb.trans (hb2.mono hb.size)
    refine ⟨(hb2.cell hbf).trans hc, fun a n' c' => (count_cb h hbw (by rw [cell_of_blk hm2]; rfl) (frozen_of_blk hm2 0) hx a n' c').mono fun e w' ⟨e1, e2⟩ => ⟨e1, ?_⟩⟩
    have hb3 : Below w.heap.size w w' := by rw [e2]; exact hbw.setCell (p := ⟨m, 0, none⟩) hmw _
    refine (h.next w' hb3).mono fun e w'' ⟨q1, k, q2⟩ => ⟨q1, k, q2, rfl, ?_, fun lo h1 h2 => ?_⟩
    · rw [q2]
      show w'.cell? ⟨m, 0, none⟩ = _
      have : w'.heap[m]? = some (.cells [.int .i64 (x + 1)].toArray 3 (0, 0)) := by rw [e2, setCell_list _ _ _ _ _ _ hm2, setRow_heap _ _ _ _ _ _ hm2]; rfl
      rw [cell_of_blk this]; rfl
    · rw [q2]
      refine below_drewN ?_ _
      rw [e2]
      exact (hb2.mono h2).setCell (p := ⟨m, 0, none⟩) h1 _
  clear h hb hc hm
  go_enter Try.func172, Try.ntmps172
  go_wp2_with (first
    | (at_builtin; go_loud (refine wpList_append_b rfl _ _ 27 rfl Try.underlying27 rfl (some ⟨X.heap.size, 0, none⟩) bs.length bs.length bs rfl hS1.out hL.out ?_); intro v2 w2 bo2 HO HM HN; obtain ⟨a2, c2, hv2, _⟩ := HO.out.len; subst hv2; obtain ⟨k1, k2⟩ := hAll.out w2 (hB1.out.trans (HM.out.mono hB1.out.size)); have K2 := Lib.hid k2; clear k2 HO HM HN)
    | (go_at_call 32; refine hP.out.mono ?_; rintro e w1 ⟨rfl, s1, b1⟩; have hS1 := Lib.hid s1; have hB1 := Lib.hid b1; clear s1 b1)
    | (go_at_call 176; refine (K2.out _ _ _).mono ?_; rintro e w3 ⟨rfl, k3⟩; have K3 := Lib.hid k3; clear k3)
    | (go_at_call 18; refine K3.out.mono ?_; rintro e w4 ⟨rfl, kk, rfl, k4⟩; have K4 := Lib.hid k4; clear k4))
  go_loopw [6, 7] (fun v6 v7 wr => v7 = .pointer none ∧ Hid (onePost X m x (.returned (.tuple #[])) wr)) (fun _ _ _ => 0)
  case atStart => exact ⟨rfl, K4⟩
  case round =>
    clear K4
    obtain ⟨rfl, K4⟩ := hrel
    go_wp2_with fail
    go_end0
    exact K4.out
theorem each_leaf {w X : World} {n : Nat} {bs : List Nat} {val : Int} (h : LeafW w n bs val) (hl : bs.length ≤ 1000) (hb : Below w.heap.size w X) {m : Nat} {x : Int} (hmw : w.heap.size ≤ m) (hm : X.heap[m]? = some (.cells [.int .i64 x].toArray 3 (0, 0))) (hx : 0 ≤ x ∧ x < 1000000) :
    Calls Try.prog 114 #[.pointer (some ⟨n, 0, none⟩), .func (.func 176) #[] #[.pointer (some ⟨m, 0, none⟩)]] X (onePost X m x) := by
  have hmlt := (Array.getElem?_eq_some_iff.1 hm).1
  obtain ⟨w1, hw1⟩ : ∃ w1, w1 = X.alloc (.cells #[.func (.func 176) #[] #[.pointer (some ⟨m, 0, none⟩)]] 128) := ⟨_, rfl⟩
  have hbx : w1.heap[X.heap.size]? = some (.cells [.func (.func 176) #[] #[.pointer (some ⟨m, 0, none⟩)]].toArray 128 (0, 0)) := by rw [hw1]; exact heap_alloc_new X _
  have hA1 : Below X.heap.size X w1 := by rw [hw1]; exact (Below.refl _ X).alloc (Nat.le_refl _) _
  have hE : Hid (∀ o2 bd, Calls Try.prog 172 #[.slice none 0 0, .pointer (some ⟨n, 0, none⟩), .pointer (some ⟨X.heap.size, 0, none⟩), .pointer (some ⟨bd, 0, none⟩)] (w1.alloc o2) (onePost X m x)) := fun o2 bd => by
    have hA2 : Below w1.heap.size w1 (w1.alloc o2) := (Below.refl _ w1).alloc (Nat.le_refl _) o2
    have hA : Below X.heap.size X (w1.alloc o2) := hA1.trans (hA2.mono hA1.size)
    have hc : (w1.alloc o2).cell? ⟨X.heap.size, 0, none⟩ = some (.func (.func 176) #[] #[.pointer (some ⟨m, 0, none⟩)]) := by
      rw [cell_of_blk ((hA2.block _ (Array.getElem?_eq_some_iff.1 hbx).1).trans hbx)]; rfl
    exact (each1_leaf h hl (hb.trans (hA.mono hb.size)) hmw ((hA.block m hmlt).trans hm) hc hx).mono fun e w' ⟨e1, e2, e3⟩ => ⟨e1, e2, fun lo h1 h2 => (hA.mono h2).trans (e3 lo h1 (Nat.le_trans h2 hA.size))⟩
  clear h hb hm hbx hA1
  go_enter Try.func114, Try.ntmps114
  go_upto_region 1 with fail
  rw [← hw1]
  clear hw1
  go_wp2_with (go_at_call 172; refine (hE.out _ _).mono ?_; rintro e w' ⟨rfl, q⟩; have q := Lib.hid q)
  go_end0
  exact ⟨rfl, q.out⟩
theorem each_nil (X : World) (m : Nat) : Calls Try.prog 114 #[.pointer none, .func (.func 176) #[] #[.pointer (some ⟨m, 0, none⟩)]] X fun e w' => e = .returned (.tuple #[]) ∧ Below X.heap.size X w' := by
  obtain ⟨w1, hw1⟩ : ∃ w1, w1 = X.alloc (.cells #[.func (.func 176) #[] #[.pointer (some ⟨m, 0, none⟩)]] 128) := ⟨_, rfl⟩
  have hA1 : Below X.heap.size X w1 := by rw [hw1]; exact (Below.refl _ X).alloc (Nat.le_refl _) _
  have hB : Hid (∀ o2, Below X.heap.size X (w1.alloc o2)) := fun o2 => hA1.alloc hA1.size o2
  clear hA1
  go_enter Try.func114, Try.ntmps114
  go_upto_region 1 with fail
  rw [← hw1]
  clear hw1
  go_wp2_with (go_at_call 172; refine (each1_nil _ _ _).mono ?_; rintro e w' ⟨rfl, rfl⟩)
  go_end0
  exact ⟨rfl, hB.out _⟩
theorem count_leaf {w X : World} {n : Nat} {bs : List Nat} {val : Int} (h : LeafW w n bs val) (hl : bs.length ≤ 1000) (hb : Below w.heap.size w X) : Calls Try.prog 125 #[.pointer (some ⟨n, 0, none⟩)] X (belowPost (.int .i64 1) X) := by
  have hE := Lib.hid (fun t => each_leaf (X := X.alloc (.cells #[.int .i64 0] t)) (m := X.heap.size) (x := 0) h hl (hb.alloc hb.size _) hb.size)
  have hbx : Hid (∀ t, (X.alloc (.cells #[.int .i64 0] t)).heap[X.heap.size]? = some (.cells [.int .i64 0].toArray t (0, 0))) := fun t => heap_alloc_new X _
  have hA : Hid (∀ t, Below X.heap.size X (X.alloc (.cells #[.int .i64 0] t))) := fun t => (Below.refl _ X).alloc (Nat.le_refl _) _
  clear h hb
  go_enter Try.func125, Try.ntmps125
  go_wp2_with (go_at_call 114; refine (hE.out _ (hbx.out _) (by omega)).mono ?_; rintro e w' ⟨rfl, q1, q2⟩; have B2 := Lib.hid ((hA.out _).trans (q2 X.heap.size (Nat.le_refl _) (hA.out _).size)); clear q2)
  go_ret
  exact ⟨rfl, B2.out⟩
theorem count_nil (X : World) : Calls Try.prog 125 #[.pointer none] X (belowPost (.int .i64 0) X) := by
  have hbx : Hid (∀ t, (X.alloc (.cells #[.int .i64 0] t)).heap[X.heap.size]? = some (.cells [.int .i64 0].toArray t (0, 0))) := fun t => heap_alloc_new X _
  have hA : Hid (∀ t, Below X.heap.size X (X.alloc (.cells #[.int .i64 0] t))) := fun t => (Below.refl _ X).alloc (Nat.le_refl _) _
  go_enter Try.func125, Try.ntmps125
  go_wp2_with (go_at_call 114; refine (each_nil _ _).mono ?_; rintro e w' ⟨rfl, q2⟩; have B2 := Lib.hid ((hA.out _).trans (q2.mono (hA.out _).size)); have q1 := cell_of_blk ((q2.block X.heap.size (Array.getElem?_eq_some_iff.1 (hbx.out _)).1).trans (hbx.out _)) 0; clear q2)
  go_ret
  exact ⟨rfl, B2.out⟩
end Go.Proofs.Ytkonbldjmcccmaa
/- The tree of pairs that rise (spunyarnlaw30). -/
namespace Go.Proofs.Ytkonbldjmcccmaa
open Go.RowKit
set_option maxHeartbeats 1000000 in
set_option maxRecDepth 100000 in
theorem law_tree30 (w : World) (a : Option Addr) (n c : Nat) (l : PL) (h : Prs w a n c l) (hn : n ≤ 100000) (hs : PSrt l) (hk : ∀ x ∈ l, x.1.length ≤ 65535) :
    Calls Try.prog 69 #[.slice a n c, .int .u64 1] w fun e w' => ∃ (t : Tr) (a : Option Addr) (Q : List NP), e = .returned (.pointer a) ∧ StoreP NoB w w' Q ∧ TreeV Q t (.pointer a) ∧ TOk t ∧ Can t ∧ tl t = l := by
  have H := Lib.hid h
  have hl := Lib.hid h.len
  have hs := Lib.hid hs
  have hk := Lib.hid hk
  have h0 := Lib.hid (PLs.nil apT w)
  clear h
  go_enter Try.func69, Try.ntmps69
  go_wp2_with fail
  go_loopw [12, 5] (fun vi v3 wr => ∃ i : Nat, vi = .int .i64 (i : Nat) ∧ i ≤ n ∧ Hid (PLs apT w v3 (l.take i) wr)) (fun vi _ _ => (n - intOf vi).toNat)
  case atStart => exact ⟨0, rfl, by omega, h0⟩
  case round =>
    clear h0
    obtain ⟨i, rfl, hi, hP⟩ := hrel
    by_cases hlt : i < n
    · have hlt2 : (i : Int) < (n : Int) := by omega
      have hlt3 : i < l.length := by rw [hl.out]; exact hlt
      obtain ⟨p, a3, n3, c3, rfl, q1, q2, q3⟩ := prs_row H.out hlt
      have B := hP.out.below_
      have q1 := (B.cell (cell_lt q1)).trans q1
      have q2 := (B.cell (p := ⟨(p.add (i * 2)).block, (p.add (i * 2)).off + 1, none⟩) (cell_lt q2)).trans q2
      have hv := H.out.val (l.getD i ([], 0)) (mem_getD hlt3)
      have e1 : l.take i ++ [((l.getD i ([], 0)).1, (l.getD i ([], 0)).2)] = l.take (i + 1) := by rw [List.take_succ_eq_append_getElem hlt3, getD_of_lt]
      have e2 : (l.take i).length = i := by rw [List.length_take]; omega
      have hask := fun o1 o2 => hP.out.ask (y := (l.getD i ([], 0)).2) q3 hv 68 ((wr.alloc o1).alloc o2) (((Below.refl _ wr).alloc (Nat.le_refl _) _).alloc (by simp) _)
      rw [e1, e2] at hask
      generalize (l.getD i ([], 0)).2 = y at *
      obtain ⟨es, bo, ho, hfin⟩ := hask (.cells #[.slice a3 n3 c3, .int .u64 y] kpT) (.cells #[.slice a3 n3 c3, .int .u64 y] apT)
      have hfin := Lib.hid hfin
      have ho := Lib.hid ho
      have hnews := pair_news (wr.alloc (.cells #[.slice a3 n3 c3, .int .u64 y] kpT)) (.slice a3 n3 c3) y apT
      rw [World.size_alloc] at hnews
      have hnews := Lib.hid hnews
      have hb1 : Hid (i + 1 ≤ maxLen) := by show _ ≤ _; unfold maxLen; omega
      have hb2 : Hid ((i + 1) * 32 ≤ 140737488355328) := by show _ ≤ _; omega
      have h1 := Lib.hid (oneP (a := a3) (n := n3) (c := c3) (y := y))
      have hw9 : IntKind.i64.wrap (((i : Nat) : Int) + 1) = ((i + 1 : Nat) : Int) := by rw [show ((i : Nat) : Int) + 1 = ((i + 1 : Nat) : Int) by omega]; exact IntWalk.i64_in _ (by omega)
      clear q3 hv B e1 e2 hask
      go_wp2_with (at_builtin; go_loud (refine wpList_append_s rfl (.tmp 16) (.tmp 18) 68 rfl apT _ 2 32 Try.underlying68 apInfo rfl (by omega) u5 rfl i (flat es) bo ho.out ⟨wr.heap.size + 1, 0, none⟩ 1 1 [.slice a3 n3 c3, .int .u64 y] rfl rfl hnews.out h1.out hb1.out hb2.out ?_); intro v1 w1 bo1 HO HM HN)
      have hP2 := Lib.hid (hfin.out v1 w1 bo1 HO.out HM.out HN.out)
      go_roundw
      case rel => exact ⟨i + 1, (by first | rfl | go_num), by omega, hP2⟩
      case measure => (simp [intOf]) <;> omega
    · have hlt2 : ¬ (i : Int) < (n : Int) := by omega
      obtain rfl : i = n := by omega
      have hP2 := hP.out
      rw [List.take_of_length_le (by rw [hl.out]; exact Nat.le_refl _)] at hP2
      obtain ⟨a4, c4, e4, hq⟩ := hP2.prs
      have hBB := Lib.hid hP2.below_
      have hBld := Lib.hid (canon_build 1 (by omega) wr a4 l.length c4 l hq hs.out hk.out)
      obtain rfl := e4
      clear hP2 hq hP
      go_wp2_with (go_at_call 105; refine hBld.out.mono ?_; rintro e w2 ⟨t, a2, Q, rfl, q1, q2⟩; have q1 := Lib.hid q1; have q2 := Lib.hid q2)
      go_ret
      exact ⟨t, a2, Q, rfl, q1.out.rebase hBB.out, q2.out⟩
end Go.Proofs.Ytkonbldjmcccmaa
/- A leaf laid, and encoded; nobody encoded. -/
namespace Go.Proofs.Ytkonbldjmcccmaa
open Go.RowKit
theorem sl_mod {w w' : World} {a : Option Addr} {n c : Nat} {bs : List Nat} (h : Sl w a n c bs) {S : Nat → Prop} (hm : Mod S w w') (hS : ∀ p : Addr, a = some p → ¬ S p.block) : Sl w' a n c bs := ⟨h.len, bytes_keep h.at_ hm hS, h.cap, h.capm, h.nil⟩
theorem mod_lo {w w' : World} {bo : Option Nat} {lo : Nat} (hm : Mod (fun j => bo = some j) w w') (hb : ∀ g, bo = some g → lo ≤ g) (hs : lo ≤ w.heap.size) : Below lo w w' := ⟨hm.os, hm.tape, hm.output, hm.size, fun j hj => hm.same j (by omega) fun e => by have := hb j e; omega⟩
theorem head_leaf {w X : World} {n : Nat} {bs : List Nat} {val : Int} (h : LeafW w n bs val) (hb : Below w.heap.size w X) : Calls Try.prog 177 #[.pointer (some ⟨n, 0, none⟩)] X fun e w' => e = .returned (.int .u8 0) ∧ X = w' := by
  have hV := Lib.hid (h.val X hb)
  have hK := Lib.hid (h.kind X hb)
  clear h hb
  go_enter Try.func177, Try.ntmps177
  go_wp2_with (first
    | (go_at_call 17; refine hV.out.mono ?_; rintro e w' ⟨rfl, rfl⟩)
    | (go_at_call 29; refine hK.out.mono ?_; rintro e w' ⟨rfl, rfl⟩))
  go_ret
  exact ⟨rfl, rfl⟩
def layPost (bo : Option Nat) (X : World) (zs : List Nat) (e : Ending) (w' : World) : Prop :=
  ∃ (v' : Value) (M : Nat) (bo' : Option Nat), e = .returned v' ∧ OwnS 1 u8T w' v' M (bV zs) bo' ∧ Mod (fun j => bo = some j) X w' ∧ NewOr X bo bo'
theorem bV_app (a b : List Nat) : bV (a ++ b) = bV a ++ bV b := by simp [bV]
theorem newOr_ne {X w : World} {bo bo' : Option Nat} (n : NewOr X bo bo') (hlt : ∀ g, bo = some g → g < X.heap.size) {j : Nat} (hj : bo ≠ some j) (hX : j < X.heap.size ∨ True) (h2 : ∀ g, bo' = some g → X.heap.size ≤ g → g ≠ j) : bo' ≠ some j := fun e => by
  rcases n with e2 | ⟨g, e2, hg⟩
  · rw [e2] at e; exact hj e
  · rw [e2] at e; cases e; exact h2 _ e2 hg rfl
theorem newOr_lt {w2 : World} {bo bo2 : Option Nat} {j : Nat} (n : NewOr w2 bo bo2) (hlt : ∀ g, bo = some g → g < j) (h : j < w2.heap.size) : bo2 ≠ some j := fun e => by
  rcases n with e2 | ⟨g, e2, hg⟩
  · rw [e2] at e; have := hlt _ e; omega
  · rw [e2] at e; cases e; omega
set_option maxHeartbeats 2000000 in
set_option maxRecDepth 100000 in
theorem lay_leaf {w X : World} {n : Nat} {bs : List Nat} {y : Nat} (h : LeafW w n bs (y : Nat)) (hb : Below w.heap.size w X) (hl : bs.length ≤ 1000) (hy : y < 18446744073709551616) {v : Value} {xs : List Nat} {bo : Option Nat} (hO : OwnS 1 u8T X v xs.length (bV xs) bo) (hx : xs.length ≤ 1000) (hbo : ∀ g, bo = some g → w.heap.size ≤ g) :
    Calls Try.prog 126 #[v, .pointer (some ⟨n, 0, none⟩)] X (layPost bo X (xs ++ [0] ++ numL bs.length ++ bs ++ numL y)) := by
  have hPart := Lib.hid (h.part X hb)
  have hH := Lib.hid (fun X hb => head_leaf (X := X) h hb)
  have hVl := Lib.hid h.val
  have hKd := Lib.hid h.kind
  have hO0 := Lib.hid hO
  have Hb := Lib.hid hb
  have Hbo := Lib.hid hbo
  have hlt : Hid (∀ g, bo = some g → g < X.heap.size) := fun g e => by rw [e] at hO; exact hO.lt
  have hone : Hid (∀ u ∈ ([.int .u8 0] : List Value), u.oneCell' = true) := by intro u hu; simp only [List.mem_singleton] at hu; subst hu; rfl
  have hxl : Hid (xs.length ≤ 1000000) := by show _ ≤ _; omega
  have h1m : Hid (1 ≤ 1000000) := by show _ ≤ _; omega
  have hlm : Hid (bs.length ≤ 1000000) := by show _ ≤ _; omega
  have hL10 : Hid ((numL bs.length).length ≤ 10) := numL_ten (by omega)
  have hbone := Lib.hid (bV_one bs)
  have hbl : Hid ((bV bs).length = bs.length) := by show _ = _; simp [bV]
  have hw : IntKind.u64.wrap ((bs.length : Nat) : Int) = (bs.length : Nat) := wrap_u64 (by omega)
  clear h hb hO hbo
  go_enter Try.func126, Try.ntmps126
  go_wp2_with (first
    | (at_builtin; have hg := hnews3; go_loud (refine append_b1 rfl (.tmp 20) (.tmp 21) rfl (.slice a3 M3 c3) rfl M3 (bV (xs ++ [0] ++ numL bs.length)) bo3 O3.out ⟨X.heap.size, 0, none⟩ bs.length bs.length (bV bs) rfl hbl.out hnews3.out hbone.out hM3.out hlm.out ?_); intro v4 w4 bo4 HO HM HN
       obtain ⟨q1, q2⟩ := mod_step Q3.out.1 Q3.out.2 (Below.refl _ w3) HM.out HN.out
       have Q4 := Lib.hid (And.intro q1 q2)
       have B4 := Lib.hid (Hb.out.trans (mod_lo q1 Hbo.out Hb.out.size))
       have hO4 : Hid (OwnS 1 u8T w4 v4 (xs ++ [0] ++ numL bs.length ++ bs).length (bV (xs ++ [0] ++ numL bs.length ++ bs)) bo4) := by
         have := HO.out
         rw [← bV_app] at this
         rw [List.length_append, ← hM3e.out]; exact this
       have hNum2 := Lib.hid (ser_num hO4.out (by have := hL10.out; simp only [List.length_append, List.length_cons, List.length_nil]; omega) y hy)
       have hVal := Lib.hid (hVl.out w4 B4.out)
       obtain ⟨a4, c4, hv4, _⟩ := HO.out.len
       subst hv4
       clear HO HM HN q1 q2)
    | (at_builtin; go_loud (refine append_b1 rfl (.tmp 12) (.tmp 15) rfl v rfl xs.length (bV xs) bo hob1.out ⟨w1.heap.size, 0, none⟩ 1 1 [.int .u8 0] rfl rfl hnews1.out hone.out hxl.out h1m.out ?_); intro v2 w2 bo2 HO HM HN
       obtain ⟨q1, q2⟩ := mod_step (Mod.refl (fun j => bo = some j) X) (Or.inl rfl) A1.out HM.out HN.out
       have Q2 := Lib.hid (And.intro q1 q2)
       have hO2 : Hid (OwnS 1 u8T w2 v2 (xs ++ [0]).length (bV (xs ++ [0])) bo2) := (by rw [List.length_append, bV_app]; exact HO.out)
       have S2 := Lib.hid (sl_mod SA.out HM.out (fun p e q => by cases e; exact absurd (hlt.out _ q) (Nat.lt_irrefl _)))
       have hne2 : Hid (bo2 ≠ some X.heap.size) := newOr_lt HN.out hlt.out SA1.out
       have hNum := Lib.hid (ser_num hO2.out (by simp only [List.length_append, List.length_cons, List.length_nil]; omega) bs.length (by omega))
       obtain ⟨a2, c2, hv2, _⟩ := HO.out.len
       subst hv2
       clear HO HM HN q1 q2)
    | (go_at_call 124; have hg := hNum2; refine hNum2.out.mono ?_; rintro e w5 ⟨v5, M5, bo5, rfl, e5, o5, m5, n5⟩
       obtain ⟨q1, q2⟩ := mod_step Q4.out.1 Q4.out.2 (Below.refl _ w4) m5 n5
       have Q5 := Lib.hid (And.intro q1 q2)
       have O5 := Lib.hid o5
       have hKind := Lib.hid (hKd.out w5 (Hb.out.trans (mod_lo q1 Hbo.out Hb.out.size)))
       clear e5 o5 m5 n5 q1 q2)
    | (go_at_call 124; refine hNum.out.mono ?_; rintro e w3 ⟨v3, M3, bo3, rfl, e3, o3, m3, n3⟩
       obtain ⟨q1, q2⟩ := mod_step Q2.out.1 Q2.out.2 (Below.refl _ w2) m3 n3
       have Q3 := Lib.hid (And.intro q1 q2)
       have O3 := Lib.hid o3
       have S3 := sl_mod S2.out m3 (fun p e q => by cases e; exact hne2.out q)
       have hnews3 := Lib.hid (sl_news S3 (Below.refl _ w3))
       have hM3e : Hid (M3 = (xs ++ [0] ++ numL bs.length).length) := (by show _ = _; rw [e3]; simp only [List.length_append])
       have hM3 : Hid (M3 ≤ 1000000) := (by show _ ≤ _; have := hL10.out; rw [e3]; simp only [List.length_append, List.length_cons, List.length_nil]; omega)
       obtain ⟨a3, c3, hv3, _⟩ := o3.len
       subst hv3
       clear e3 o3 m3 n3 q1 q2 S3)
    | (go_at_call 32; refine hPart.out.mono ?_; rintro e w1 ⟨rfl, s1, b1⟩
       have A1 : Hid (Below X.heap.size X (w1.alloc (.cells #[.int .u8 0] 5))) := b1.trans (((Below.refl _ w1).alloc (Nat.le_refl _) _).mono b1.size)
       have hob1 := Lib.hid (hO0.out.below A1.out)
       have hnews1 := Lib.hid (news_alloc w1 [.int .u8 0] 5)
       have SA := Lib.hid (s1.below ((Below.refl _ w1).alloc (Nat.le_refl _) (.cells #[.int .u8 0] 5)))
       have SA1 : Hid (X.heap.size < (w1.alloc (.cells #[.int .u8 0] 5)).heap.size) := by show _ < _; rw [World.size_alloc]; have := b1.size; omega
       have hHead := Lib.hid (hH.out w1 (Hb.out.trans (b1.mono Hb.out.size)))
       clear s1 b1)
    | (go_at_call 177; refine hHead.out.mono ?_; rintro e w' ⟨rfl, rfl⟩)
    | (go_at_call 17; refine hVal.out.mono ?_; rintro e w' ⟨rfl, rfl⟩)
    | (go_at_call 29; refine hKind.out.mono ?_; rintro e w' ⟨rfl, rfl⟩))
  go_ret
  exact ⟨v5, M5, bo5, rfl, O5.out, Q5.out.1, Q5.out.2⟩
end Go.Proofs.Ytkonbldjmcccmaa
/- A leaf encoded; nobody encoded, and how many bytes that is. -/
namespace Go.Proofs.Ytkonbldjmcccmaa
open Go.RowKit
theorem own_one (X : World) (b : Nat) : OwnS 1 u8T (X.alloc (.cells #[.int .u8 (b : Nat)] 5)) (.slice (some ⟨X.heap.size, 0, none⟩) 1 1) 1 (bV [b]) (some X.heap.size) :=
  Or.inr ⟨X.heap.size, 1, #[.int .u8 (b : Nat)], rfl, rfl, heap_alloc_new X _, Nat.le_refl _, by unfold maxLen; omega, rfl, rfl, rfl⟩
def encPost (X : World) (zs : List Nat) (e : Ending) (w' : World) : Prop := ∃ a m c, e = .returned (.slice a m c) ∧ Sl w' a m c zs ∧ Below X.heap.size X w'
set_option maxHeartbeats 1000000 in
set_option maxRecDepth 100000 in
theorem encode_leaf {w X : World} {n : Nat} {bs : List Nat} {y : Nat} (h : LeafW w n bs (y : Nat)) (hb : Below w.heap.size w X) (hl : bs.length ≤ 1000) (h8 : ∀ x ∈ bs, x < 256) (hy : y < 18446744073709551616) :
    Calls Try.prog 70 #[.pointer (some ⟨n, 0, none⟩)] X (encPost X ([1] ++ numL 1 ++ [0] ++ numL bs.length ++ bs ++ numL y)) := by
  obtain ⟨X1, hX1⟩ : ∃ X1, X1 = X.alloc (.cells #[.int .u8 1] 5) := ⟨_, rfl⟩
  have hO1 : OwnS 1 u8T X1 (.slice (some ⟨X.heap.size, 0, none⟩) 1 1) 1 (bV [1]) (some X.heap.size) := by rw [hX1]; exact own_one X 1
  have hA : Below X.heap.size X X1 := by rw [hX1]; exact (Below.refl _ X).alloc (Nat.le_refl _) _
  have hA1 : X.heap.size < X1.heap.size := by rw [hX1, World.size_alloc]; omega
  have HA := Lib.hid hA
  have HO1 := Lib.hid hO1
  have HA1 := Lib.hid hA1
  have hCt := Lib.hid (count_leaf h hl (hb.trans (hA.mono hb.size)))
  have HB := Lib.hid hb
  have H8 := Lib.hid h8
  have hLay : Hid (∀ X2 w3 v3 M3 bo3, Below X1.heap.size X1 X2 → M3 = ([1] : List Nat).length + (numL 1).length → OwnS 1 u8T w3 v3 M3 (bV ([1] ++ numL 1)) bo3 → Mod (fun j => some X.heap.size = some j) X2 w3 → NewOr X2 (some X.heap.size) bo3 → Calls Try.prog 126 #[v3, .pointer (some ⟨n, 0, none⟩)] w3 (encPost X ([1] ++ numL 1 ++ [0] ++ numL bs.length ++ bs ++ numL y))) := fun X2 w3 v3 M3 bo3 b2 e3 o3 m3 n3 => by
    have b3 : Below X.heap.size X w3 := (hA.trans (b2.mono hA.size)).trans (mod_lo m3 (fun g e => by cases e; exact Nat.le_refl _) (Nat.le_trans hA.size b2.size))
    have hbo : ∀ g, bo3 = some g → X.heap.size ≤ g := fun g e => by
      rcases n3 with e2 | ⟨g', e2, hg⟩
      · rw [e2] at e; cases e; exact Nat.le_refl _
      · rw [e2] at e; cases e; exact Nat.le_trans (Nat.le_trans hA.size b2.size) hg
    have o3' : OwnS 1 u8T w3 v3 ([1] ++ numL 1).length (bV ([1] ++ numL 1)) bo3 := by rw [List.length_append, ← e3]; exact o3
    have h1 : (numL 1).length ≤ 10 := numL_ten (by omega)
    refine (lay_leaf h (hb.trans (b3.mono hb.size)) hl hy o3' (by simp only [List.length_append, List.length_cons, List.length_nil]; omega) (fun g e => Nat.le_trans hb.size (hbo g e))).mono ?_
    rintro e w4 ⟨v4, M4, bo4, rfl, o4, m4, n4⟩
    obtain ⟨a, c, rfl, hs⟩ := sl_of_own o4 (fun x hx => by
      simp only [List.mem_append, List.mem_singleton] at hx
      rcases hx with ((((rfl | hx) | rfl) | hx) | hx) | hx
      · omega
      · exact numL_byte 1 x hx
      · omega
      · exact numL_byte _ x hx
      · exact h8 x hx
      · exact numL_byte _ x hx)
    exact ⟨a, M4, c, rfl, hs, b3.trans (mod_lo m4 hbo b3.size)⟩
  subst hX1
  clear h hb hA hA1 hO1 h8
  go_enter Try.func70, Try.ntmps70
  go_wp2_with (first
    | (go_at_call 125; go_loud (refine hCt.out.mono ?_); rintro e X2 ⟨rfl, b2⟩; have B2 := Lib.hid b2; have hNum := Lib.hid (ser_num (xs := [1]) (HO1.out.below b2) (by simp) 1 (by omega)); clear b2)
    | (go_at_call 124; refine hNum.out.mono ?_; rintro e w3 ⟨v3, M3, bo3, rfl, e3, o3, m3, n3⟩; have hL2 := Lib.hid (hLay.out X2 w3 v3 M3 bo3 B2.out e3 o3 m3 n3); obtain ⟨a3, c3, hv3, _⟩ := o3.len; subst hv3; clear e3 o3 m3 n3)
    | (go_at_call 126; refine hL2.out.mono ?_; rintro e w4 ⟨a, m, c, rfl, q1, q2⟩; have Q1 := Lib.hid q1; have Q2 := Lib.hid q2; clear q1 q2))
  go_ret
  exact ⟨a, m, c, rfl, Q1.out, Q2.out⟩
set_option maxHeartbeats 1000000 in
set_option maxRecDepth 100000 in
theorem encode_nil (X : World) : Calls Try.prog 70 #[.pointer none] X fun e w' => ∃ a c, e = .returned (.slice a 2 c) ∧ Below X.heap.size X w' := by
  obtain ⟨X1, hX1⟩ : ∃ X1, X1 = X.alloc (.cells #[.int .u8 1] 5) := ⟨_, rfl⟩
  have hO1 : OwnS 1 u8T X1 (.slice (some ⟨X.heap.size, 0, none⟩) 1 1) 1 (bV [1]) (some X.heap.size) := by rw [hX1]; exact own_one X 1
  have hA : Below X.heap.size X X1 := by rw [hX1]; exact (Below.refl _ X).alloc (Nat.le_refl _) _
  have HA := Lib.hid hA
  have HO1 := Lib.hid hO1
  have hCt := Lib.hid (count_nil X1)
  subst hX1
  clear hA hO1
  go_enter Try.func70, Try.ntmps70
  go_wp2_with (first
    | (go_at_call 125; go_loud (refine hCt.out.mono ?_); rintro e X2 ⟨rfl, b2⟩; have B2 := Lib.hid b2; have hNum := Lib.hid (ser_num (xs := [1]) (HO1.out.below b2) (by simp) 0 (by omega)); clear b2)
    | (go_at_call 124; refine hNum.out.mono ?_; rintro e w3 ⟨v3, M3, bo3, rfl, e3, o3, m3, n3⟩; obtain ⟨a3, c3, hv3, _⟩ := o3.len; subst hv3; have hM3 : M3 = 2 := (by rw [e3, numL_lt (by omega)]; rfl); subst hM3; have B3 := Lib.hid ((HA.out.trans (B2.out.mono HA.out.size)).trans (mod_lo m3 (fun g e => by cases e; exact Nat.le_refl _) (Nat.le_trans HA.out.size B2.out.size))); clear e3 o3 m3 n3))
  go_ret
  exact ⟨a3, c3, rfl, B3.out⟩
theorem size_nil (X : World) : Calls Try.prog 72 #[.pointer none] X (belowPost (.int .i64 2) X) := by
  have hE := Lib.hid (encode_nil X)
  go_enter Try.func72, Try.ntmps72
  go_wp2_with (go_at_call 70; refine hE.out.mono ?_; rintro e w2 ⟨a, c, rfl, b⟩; have B := Lib.hid b; clear b)
  go_ret
  exact ⟨rfl, B.out⟩
end Go.Proofs.Ytkonbldjmcccmaa
/- The law SerNums. -/
namespace Go.Proofs.Ytkonbldjmcccmaa
open Go.RowKit
theorem sl_lit (w : World) (xs : List Nat) (t : TypeId) (h8 : ∀ x ∈ xs, x < 256) (hl : xs.length ≤ 1000) : Sl (w.alloc (.cells (bV xs).toArray t)) (some ⟨w.heap.size, 0, none⟩) xs.length xs.length xs := by
  have hb : (w.alloc (.cells (bV xs).toArray t)).heap[w.heap.size]? = some (.cells (bV xs).toArray t (0, 0)) := heap_alloc_new w _
  refine ⟨rfl, ⟨h8, fun i hi => ⟨_, rfl, ?_, ?_⟩⟩, Nat.le_refl _, by unfold maxLen; omega, fun e => by cases e⟩
  · rw [add_block]; show w.heap.size < _; rw [World.size_alloc]; omega
  · rw [add0, cell_of_blk hb, bV_get]; simp [List.getD, hi]
theorem num300 : numL 300 = [172, 2] := by rw [numL_ge (by omega), numL_lt (by omega)]
theorem al30_z : [1] ++ numL 1 ++ [0] ++ numL ([1] : List Nat).length ++ [1] ++ numL 5 = [1, 1, 0, 1, 1, 5] := by
  rw [show ([1] : List Nat).length = 1 from rfl, numL_lt (by omega), numL_lt (by omega)]; rfl
theorem al30_prs (w : World) (t1 t2 : TypeId) : Prs ((w.alloc (.cells #[.int .u8 1] t1)).alloc (.cells #[.slice (some ⟨w.heap.size, 0, none⟩) 1 1, .int .u64 5] t2)) (some ⟨w.heap.size + 1, 0, none⟩) 1 1 [([1], 5)] := by
  obtain ⟨w1, h1⟩ : ∃ w1, w1 = w.alloc (.cells #[.int .u8 1] t1) := ⟨_, rfl⟩
  have s1 : w1.heap.size = w.heap.size + 1 := by rw [h1]; simp
  rw [← h1]
  obtain ⟨w3, h3⟩ : ∃ w3, w3 = w1.alloc (.cells #[.slice (some ⟨w.heap.size, 0, none⟩) 1 1, .int .u64 5] t2) := ⟨_, rfl⟩
  rw [← h3]
  have b3 : Below w1.heap.size w1 w3 := by rw [h3]; exact (Below.refl _ _).alloc (Nat.le_refl _) _
  have k1 : Sl w3 (some ⟨w.heap.size, 0, none⟩) 1 1 [1] := by
    have := sl_one w 1 t1 (by omega)
    have : Sl w1 (some ⟨w.heap.size, 0, none⟩) 1 1 [1] := by rw [h1]; exact this
    exact this.below b3
  have hb : w3.heap[w.heap.size + 1]? = some (.cells [.slice (some ⟨w.heap.size, 0, none⟩) 1 1, .int .u64 5].toArray t2 (0, 0)) := by
    have := heap_alloc_new w1 (.cells #[.slice (some ⟨w.heap.size, 0, none⟩) 1 1, .int .u64 5] t2)
    rw [s1] at this
    rw [h3]; exact this
  have s3 : w3.heap.size = w.heap.size + 1 + 1 := by rw [h3, World.size_alloc, s1]
  refine ⟨rfl, Nat.le_refl _, by unfold maxLen; omega, (fun e => by cases e), (by simp), fun i hi => ⟨_, rfl, ?_⟩⟩
  have hi : i < 1 := hi
  obtain rfl : i = 0 := by omega
  refine ⟨by rw [add0]; show w.heap.size + 1 < _; omega, _, _, _, ?_, ?_, k1⟩
  · rw [add0, cell_of_blk hb]; rfl
  · rw [add0, cell_of_blk hb]; rfl
theorem al30_tree (w : World) : Calls Try.prog 69 #[.slice (some ⟨w.heap.size + 1, 0, none⟩) 1 1, .int .u64 1] ((w.alloc (.cells #[.int .u8 1] 5)).alloc (.cells #[.slice (some ⟨w.heap.size, 0, none⟩) 1 1, .int .u64 5] kpT)) fun e w3 => ∃ n, e = .returned (.pointer (some ⟨n, 0, none⟩)) ∧ Below w.heap.size w w3 ∧ LeafW w3 n [1] ((5 : Nat) : Int) := by
  have hA : Below w.heap.size w ((w.alloc (.cells #[.int .u8 1] 5)).alloc (.cells #[.slice (some ⟨w.heap.size, 0, none⟩) 1 1, .int .u64 5] kpT)) := ((Below.refl _ w).alloc (Nat.le_refl _) _).alloc (by simp) _
  refine (law_tree30 _ _ _ _ [([1], 5)] (al30_prs w _ _) (by omega) (List.pairwise_singleton _ _) (by simp)).mono fun e w3 ⟨t, v, Q, q1, q2, q3, q4, q5, q6⟩ => ?_
  have hn : IsN t := q3.node (by rw [q6]; simp)
  obtain rfl := one_leaf hn q4 q5 q6
  rcases q3 with ⟨e0, _⟩ | ⟨_, hT⟩
  · cases e0
  · obtain ⟨n, rfl, hL⟩ := leafw_of q2 hT
    exact ⟨n, q1, hA.trans (q2.below_.mono hA.size), hL⟩
set_option maxHeartbeats 2000000 in
set_option maxRecDepth 100000 in
theorem alive30 (w : World) : Calls Try.prog 67 #[] w (belowPost (.bool true) w) := by
  have hT := Lib.hid (al30_tree w)
  have hEnc : Hid (∀ w3 n, LeafW w3 n [1] ((5 : Nat) : Int) → Calls Try.prog 70 #[.pointer (some ⟨n, 0, none⟩)] w3 fun e w4 => ∃ a m c, e = .returned (.slice a m c) ∧ Below w3.heap.size w3 w4 ∧
      Calls Try.prog 47 #[.slice a m c, .slice (some ⟨w4.heap.size, 0, none⟩) 6 6] (w4.alloc (.cells #[.int .u8 1, .int .u8 1, .int .u8 0, .int .u8 1, .int .u8 1, .int .u8 5] 5)) fun e w5 => e = .returned (.bool true) ∧ Below w4.heap.size w4 w5) := fun w3 n h => (encode_leaf h (Below.refl _ _) (by simp) (by simp) (by omega)).mono fun e w4 ⟨a, m, c, e1, s1, b1⟩ => by
    rw [al30_z] at s1
    have hA : Below w4.heap.size w4 (w4.alloc (.cells #[.int .u8 1, .int .u8 1, .int .u8 0, .int .u8 1, .int .u8 1, .int .u8 5] 5)) := (Below.refl _ _).alloc (Nat.le_refl _) _
    have s2 : Sl (w4.alloc (.cells #[.int .u8 1, .int .u8 1, .int .u8 0, .int .u8 1, .int .u8 1, .int .u8 5] 5)) (some ⟨w4.heap.size, 0, none⟩) 6 6 [1, 1, 0, 1, 1, 5] := sl_lit w4 [1, 1, 0, 1, 1, 5] 5 (by simp) (by simp)
    exact ⟨a, m, c, e1, b1, (same_true (s1.below hA) s2).mono fun e w5 ⟨q1, q2⟩ => ⟨q1, hA.trans (q2.mono hA.size)⟩⟩
  have hNum : Hid (∀ X, Calls Try.prog 65 #[.int .u64 300] X fun e w4 => ∃ a m c, e = .returned (.slice a m c) ∧ Below X.heap.size X w4 ∧
      Calls Try.prog 47 #[.slice a m c, .slice (some ⟨w4.heap.size, 0, none⟩) 2 2] (w4.alloc (.cells #[.int .u8 172, .int .u8 2] 5)) fun e w5 => e = .returned (.bool true) ∧ Below w4.heap.size w4 w5) := fun X => (ser_Num X 300 (by omega)).mono fun e w4 ⟨v, M, bo, e1, _, o1, m1, n1⟩ => by
    obtain ⟨a, c, rfl, s1⟩ := sl_of_own o1 (fun x hx => by rw [List.nil_append] at hx; exact numL_byte _ x hx)
    rw [List.nil_append, num300] at s1
    have hA : Below w4.heap.size w4 (w4.alloc (.cells #[.int .u8 172, .int .u8 2] 5)) := (Below.refl _ _).alloc (Nat.le_refl _) _
    have s2 : Sl (w4.alloc (.cells #[.int .u8 172, .int .u8 2] 5)) (some ⟨w4.heap.size, 0, none⟩) 2 2 [172, 2] := sl_lit w4 [172, 2] 5 (by simp) (by simp)
    exact ⟨a, M, c, e1, mod_lo m1 (fun g e => by cases e) (Nat.le_refl _), (same_true (s1.below hA) s2).mono fun e w5 ⟨q1, q2⟩ => ⟨q1, hA.trans (q2.mono hA.size)⟩⟩
  have hSz := Lib.hid (fun X => size_nil X)
  go_enter Try.func67, Try.ntmps67
  go_wp2_with (first
    | (go_at_call 69; refine hT.out.mono ?_; rintro e w3 ⟨n, rfl, b3, L3⟩; have B3 := Lib.hid b3; have hE := Lib.hid (hEnc.out w3 n L3); clear b3 L3)
    | (go_at_call 70; refine hE.out.mono ?_; rintro e w4 ⟨a4, m4, c4, rfl, b4, q4⟩; have B4 := Lib.hid (B3.out.trans (b4.mono B3.out.size)); have hS1 := Lib.hid q4; clear b4 q4)
    | (go_at_call 47; have hg := hS2; refine hS2.out.mono ?_; rintro e w7 ⟨rfl, b7⟩; have B7 := Lib.hid (B6.out.trans (b7.mono B6.out.size)); clear b7)
    | (go_at_call 47; refine hS1.out.mono ?_; rintro e w5 ⟨rfl, b5⟩; have B5 := Lib.hid (B4.out.trans (b5.mono B4.out.size)); clear b5)
    | (go_at_call 65; refine (hNum.out w5).mono ?_; rintro e w6 ⟨a6, m6, c6, rfl, b6, q6⟩; have B6 := Lib.hid (B5.out.trans (b6.mono B5.out.size)); have hS2 := Lib.hid q6; clear b6 q6)
    | (go_at_call 72; refine (hSz.out _).mono ?_; rintro e w8 ⟨rfl, b8⟩; have B8 := Lib.hid (B7.out.trans (b8.mono B7.out.size)); clear b8))
  go_ret
  exact ⟨rfl, B8.out⟩
set_option maxHeartbeats 2000000 in
set_option maxRecDepth 100000 in
theorem SerNums_nat (w : World) (n less : Nat) (hn : n < 18446744073709551616) (hl : less < 18446744073709551616) : Calls Try.prog 10 #[.int .u64 (n : Nat), .int .u64 (less : Nat)] w (truePost w) := by
  have hNum : Hid (∀ X (k : Nat), k < 18446744073709551616 → Calls Try.prog 65 #[.int .u64 (k : Nat)] X fun e w4 => ∃ a m c, e = .returned (.slice a m c) ∧ m = (numL k).length ∧ Sl w4 a m c (numL k) ∧ Below X.heap.size X w4) := fun X k hk => (ser_Num X k hk).mono fun e w4 ⟨v, M, bo, e1, e2, o1, m1, n1⟩ => by
    obtain ⟨a, c, rfl, s1⟩ := sl_of_own o1 (fun x hx => by rw [List.nil_append] at hx; exact numL_byte _ x hx)
    rw [List.nil_append] at s1
    exact ⟨a, M, c, e1, by simpa using e2, s1, mod_lo m1 (fun g e => by cases e) (Nat.le_refl _)⟩
  have hRef : Hid (∀ X, Calls Try.prog 66 #[.int .u64 (n : Nat)] X fun e w4 => ∃ a m c, e = .returned (.slice a m c) ∧ Sl w4 a m c (numL n) ∧ Below X.heap.size X w4) := fun X => (doc_Num X n hn).mono fun e w4 ⟨v, M, bo, e1, e2, o1, m1, n1⟩ => by
    obtain ⟨a, c, rfl, s1⟩ := sl_of_own o1 (fun x hx => by rw [List.nil_append] at hx; exact numL_byte _ x hx)
    rw [List.nil_append] at s1
    exact ⟨a, M, c, e1, s1, mod_lo m1 (fun g e => by cases e) (Nat.le_refl _)⟩
  have hal := Lib.hid (fun X => alive30 X)
  have h10 := numL_ten hn
  have hmono : less < n → (numL less).length ≤ (numL n).length := fun h => numL_mono n less (by omega)
  have Hn := Lib.hid hn
  have Hl := Lib.hid hl
  have fin : ∀ (ln : Bool), ln = decide ((less : Int) < (n : Int)) → Calls Try.prog 10 #[.int .u64 (n : Nat), .int .u64 (less : Nat)] w (truePost w) := fun ln hln => by
    by_cases hlt : less < n
    · have j1 : (less : Int) < (n : Int) := by omega
      have j2 := hmono hlt
      generalize hM : (numL n).length = M at *
      generalize hM' : (numL less).length = M' at *
      have HM := Lib.hid hM
      have HM' := Lib.hid hM'
      have j3 : ¬ (M : Int) < (M' : Int) := by omega
      have j4 : (M : Int) ≤ 10 := by omega
      clear hM hM' hmono hln
      go_enter Try.func10, Try.ntmps10
      go_wp2_with (first
        | (go_at_call 65; have hg := S1; refine (hNum.out w1 less Hl.out).mono ?_; rintro e w2 ⟨a2, m2, c2, rfl, e2, s2, b2⟩; have e9 : m2 = M' := (e2.trans HM'.out); clear e2; subst e9; have S1b := Lib.hid (S1.out.below b2); have B2 := Lib.hid (B1.out.trans (b2.mono B1.out.size)); clear s2 b2 S1)
        | (go_at_call 65; refine (hNum.out w n Hn.out).mono ?_; rintro e w1 ⟨a1, m1, c1, rfl, e1, s1, b1⟩; have e9 : m1 = M := (e1.trans HM.out); clear e1; subst e9; have S1 := Lib.hid s1; have B1 := Lib.hid b1; clear s1 b1)
        | (go_at_call 66; refine (hRef.out w2).mono ?_; rintro e w3 ⟨a3, m3, c3, rfl, s3, b3⟩; have hS := Lib.hid (same_true (S1b.out.below b3) s3); have B3 := Lib.hid (B2.out.trans (b3.mono B2.out.size)); clear s3 b3)
        | (go_at_call 47; go_loud (refine hS.out.mono ?_); rintro e w4 ⟨rfl, b4⟩; have B4 := Lib.hid (B3.out.trans (b4.mono B3.out.size)); clear b4)
        | (go_at_call 67; refine (hal.out w4).mono ?_; rintro e w5 ⟨rfl, b5⟩; have B5 := Lib.hid (B4.out.trans (b5.mono B4.out.size)); clear b5))
      go_ret
      exact ⟨rfl, B5.out⟩
    · have j1 : ¬ (less : Int) < (n : Int) := by omega
      generalize hM : (numL n).length = M at *
      have HM := Lib.hid hM
      have j4 : (M : Int) ≤ 10 := by omega
      clear hM hmono hln
      go_enter Try.func10, Try.ntmps10
      go_wp2_with (first
        | (go_at_call 65; refine (hNum.out w n Hn.out).mono ?_; rintro e w1 ⟨a1, m1, c1, rfl, e1, s1, b1⟩; have e9 : m1 = M := (e1.trans HM.out); clear e1; subst e9; have S1 := Lib.hid s1; have B1 := Lib.hid b1; clear s1 b1)
        | (go_at_call 66; refine (hRef.out w1).mono ?_; rintro e w3 ⟨a3, m3, c3, rfl, s3, b3⟩; have hS := Lib.hid (same_true (S1.out.below b3) s3); have B3 := Lib.hid (B1.out.trans (b3.mono B1.out.size)); clear s3 b3)
        | (go_at_call 47; go_loud (refine hS.out.mono ?_); rintro e w4 ⟨rfl, b4⟩; have B4 := Lib.hid (B3.out.trans (b4.mono B3.out.size)); clear b4)
        | (go_at_call 67; refine (hal.out w4).mono ?_; rintro e w5 ⟨rfl, b5⟩; have B5 := Lib.hid (B4.out.trans (b5.mono B4.out.size)); clear b5))
      go_ret
      exact ⟨rfl, B5.out⟩
  exact fin _ rfl
theorem SerNums_any (a b : Int) (ha : (Lit.int .u64 a).wf = true) (hb : (Lit.int .u64 b).wf = true) (w : World) : Calls Try.prog 10 #[.int .u64 a, .int .u64 b] w fun e w' => e = .returned (.bool true) ∧ Below w.heap.size w w' := by
  have h1 : 0 ≤ a ∧ a ≤ 18446744073709551615 := by simpa [Lit.wf, IntKind.min, IntKind.max, IntKind.signed, IntKind.bits] using ha
  have h2 : 0 ≤ b ∧ b ≤ 18446744073709551615 := by simpa [Lit.wf, IntKind.min, IntKind.max, IntKind.signed, IntKind.bits] using hb
  have := SerNums_nat w a.toNat b.toNat (by omega) (by omega)
  rw [show ((a.toNat : Nat) : Int) = a by omega, show ((b.toNat : Nat) : Int) = b by omega] at this
  exact this
end Go.Proofs.Ytkonbldjmcccmaa
