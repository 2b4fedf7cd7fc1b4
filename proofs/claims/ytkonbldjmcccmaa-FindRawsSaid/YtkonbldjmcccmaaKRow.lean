/- Rows of few things (small.Row): what is read. -/
import Derived.Test.YtkonbldjmcccmaaProg
import Derived.Test.YtkonbldjmcccmaaKPlain2
import Derived.WalkKit
import Derived.KernelRfl
import Derived.Deep.LoopGhost
import Derived.Deep.QuietTactic
import Derived.BigQuiet
import Derived.Lib.Hide
import Derived.Laws.CopyOwn
import Derived.Deep.RegionLaw
import Derived.Deep.WholeRow
set_option linter.unusedVariables false
set_option linter.unusedSimpArgs false
namespace Go.Proofs.Ytkonbldjmcccmaa
open Go.RowKit

/-- the world is the old one, some orders having been drawn -/
def Dr (w w' : World) : Prop := ∃ n, w' = w.drewN n
theorem Dr.refl (w : World) : Dr w w := ⟨0, rfl⟩
theorem Dr.step {w w' : World} (h : Dr w w') (n : Nat) : Dr w (w'.drewN n) := by
  obtain ⟨m, rfl⟩ := h
  exact ⟨m + n, World.drewN_drewN ..⟩

theorem isNaNs (x : Int) (w : World) : Calls Try.prog 212 #[.int .u8 x] w fun e w' => e = .returned (.bool false) ∧ w = w' := by
  go_enter Try.func212, Try.ntmps212
  go_wp2
  go_ret
  exact ⟨by simp, rfl⟩
theorem isNaNc (x : Int) (w : World) : Calls Try.prog 214 #[.int .u8 x] w fun e w' => e = .returned (.bool false) ∧ w = w' := by
  go_enter Try.func214, Try.ntmps214
  go_wp2
  go_ret
  exact ⟨by simp, rfl⟩
theorem less_any (x y : Int) (w : World) : Calls Try.prog 211 #[.int .u8 x, .int .u8 y] w fun e w' => e = .returned (.bool (decide (x < y))) ∧ w = w' := by
  go_enter Try.func211, Try.ntmps211
  go_wp2_with (go_at_call 214; refine (isNaNc _ _).mono ?_; rintro e w' ⟨rfl, rfl⟩)
  go_ret
  exact ⟨by simp, rfl⟩

def bsPost (ks : List Nat) (t n : Nat) (w : World) (e : Ending) (w' : World) : Prop := ∃ i : Nat, Cut ks t i ∧ e = .returned (.tuple #[.int .i64 i, .bool (decide (i < n ∧ ks.getD i 0 = t))]) ∧ w = w'

set_option maxHeartbeats 800000 in
theorem bs_any (b o n c : Nat) (ks : List Nat) (t : Nat) (w : World) (hb : n ≤ 1000) (hn : ks.length = n)
    (hs : ks.Pairwise (· < ·)) 
    (hc : ∀ j, j < n → w.cell? ⟨b, o + j, none⟩ = some (.int .u8 (ks.getD j 0 : Nat))) :
    Calls Try.prog 207 #[.slice (some ⟨b, o, none⟩) n c, .int .u8 t] w (bsPost ks t n w) := by
  have HN := Lib.hid hn
  have HS := Lib.hid hs
  have HC := Lib.hid hc
  clear hn hs hc
  go_enter Try.func207, Try.ntmps207
  go_wp2_with fail
  go_loop [7, 8] (fun vi vj => ∃ i j : Nat, i ≤ j ∧ j ≤ n ∧ Hid (CutIn ks t n i j) ∧ vi = .int .i64 i ∧ vj = .int .i64 j) (fun vi vj => (intOf vj - intOf vi).toNat)
  case atStart => exact ⟨0, n, by omega, by omega, Lib.hid ⟨by intro p hp; omega, by intro p h1 h2; omega⟩, rfl, rfl⟩
  case round =>
    obtain ⟨i, j, hij, hjn, HI, rfl, rfl⟩ := hrel
    by_cases hlt : i < j
    · have hc := HC.out ((i+j)/2) (by omega)
      by_cases hlt2 : ks.getD ((i+j)/2) 0 < t
      · have HI2 := Lib.hid (CutIn.up HS.out HI.out (by have := HN.out; omega) hlt2)
        go_wp2_with (go_at_call 211; refine (less_any _ _ _).mono ?_; rintro e w' ⟨rfl, rfl⟩)
        go_round
        case rel => exact ⟨(i + j) / 2 + 1, j, by omega, by omega, HI2, by go_num, rfl⟩
        case measure => simp [intOf]; omega
      · have HI2 := Lib.hid (CutIn.down HS.out HN.out HI.out hlt2)
        go_wp2_with (go_at_call 211; refine (less_any _ _ _).mono ?_; rintro e w' ⟨rfl, rfl⟩)
        go_round
        case rel => exact ⟨i, (i + j) / 2, by omega, by omega, HI2, rfl, by go_num⟩
        case measure => simp [intOf]; omega
    · have hij' : i = j := by omega
      subst hij'
      have HR : Hid (Cut ks t i) := ⟨by have := HN.out; omega, HI.out.1, by have := HN.out; have h2 := HI.out.2; subst this; exact h2⟩
      obtain ⟨x, hx⟩ : ∃ x, x = ks.getD i 0 := ⟨_, rfl⟩
      by_cases hin : i < n
      · have hc := HC.out i hin
        rw [← hx] at hc
        by_cases he : x = t
        · subst he
          have hR : bsPost ks x n w (.returned (.tuple #[.int .i64 i, .bool true])) w := ⟨i, HR.out, by simp [hin, hx], rfl⟩
          clear hx
          go_wp2_with fail
          go_ret2
          exact hR
        · have he2 : ((x : Int) == (t : Int)) = false := beq_eq_false_iff_ne.mpr (by omega)
          have hR : bsPost ks t n w (.returned (.tuple #[.int .i64 i, .bool false])) w := ⟨i, HR.out, by rw [← hx]; simp [he], rfl⟩
          clear hx he
          go_wp2_with (go_at_call 212; refine (isNaNs _ _).mono ?_; rintro e w' ⟨rfl, rfl⟩)
          go_ret2
          exact hR
      · have hR : bsPost ks t n w (.returned (.tuple #[.int .i64 i, .bool false])) w := ⟨i, HR.out, by simp [hin], rfl⟩
        clear hx
        go_wp2_with fail
        go_ret2
        exact hR

theorem bs_is (b o n c : Nat) (l : KV) (t : Nat) (w : World) (hn : l.length = n) (hb : n ≤ 1000) (hs : Srt l)
    (hc : ∀ j, j < n → w.cell? ⟨b, o + j, none⟩ = some (.int .u8 (l.keys.getD j 0 : Nat))) :
    Calls Try.prog 207 #[.slice (some ⟨b, o, none⟩) n c, .int .u8 t] w fun e w' => e = .returned (.tuple #[.int .i64 (pl l t : Nat), .bool (has l t)]) ∧ w' = w := by
  subst hn
  refine (bs_any b o _ c l.keys t w hb (by simp [KV.keys]) hs hc).mono ?_
  rintro e w' ⟨i, hcut, rfl, rfl⟩
  have := hcut.lb hs
  subst this
  exact ⟨rfl, rfl⟩

/-- What a row's block holds. -/
structure RowIs (ty : Nat) (w : World) (r rm : Nat) (l : KV) (B X : List Value) : Prop where
  blk : w.heap[r]? = some (.cells (.int .i64 rm :: .int .i64 l.length :: (B ++ X)).toArray ty (0, 0))
  lB : B.length = 16
  lX : X.length = 16
  bs : B.take l.length = l.map (fun p => .int .u8 (p.1 : Nat))
  xs : X.take l.length = l.map (·.2)
  le : l.length ≤ rm
  r1 : 1 ≤ rm
  r16 : rm ≤ 16
  srt : Srt l
  low : Low l
  one : ∀ v ∈ B ++ X, v.oneCell' = true
def RowAt (ty : Nat) (w : World) (r rm : Nat) (l : KV) : Prop := ∃ B X, RowIs ty w r rm l B X

section
variable {ty : Nat} {w : World} {r rm : Nat} {l : KV} {B X : List Value}
theorem cell_of_blk {w : World} {b : Nat} {c : List Value} {t : Nat} (h : w.heap[b]? = some (.cells c.toArray t (0, 0))) (j : Nat) : w.cell? ⟨b, j, none⟩ = c[j]? := by
  simp [World.cell?, h]
theorem frozen_of_blk {w : World} {b : Nat} {c : Array Value} {t : Nat} (h : w.heap[b]? = some (.cells c t (0, 0))) (j : Nat) : w.frozen? ⟨b, j, none⟩ = false := by
  simp [World.frozen?, h]
theorem RowIs.c0 (h : RowIs ty w r rm l B X) : w.cell? ⟨r, 0, none⟩ = some (.int .i64 rm) := by rw [cell_of_blk h.blk]; rfl
theorem RowIs.c1 (h : RowIs ty w r rm l B X) : w.cell? ⟨r, 1, none⟩ = some (.int .i64 l.length) := by rw [cell_of_blk h.blk]; rfl
theorem take_get {α : Type} {L M : List α} {n j : Nat} (h : L.take n = M) (hj : j < n) : L[j]? = M[j]? := by
  rw [← h, List.getElem?_take, if_pos hj]
theorem RowIs.cb (h : RowIs ty w r rm l B X) (j : Nat) (hj : j < l.length) : w.cell? ⟨r, 2 + j, none⟩ = some (.int .u8 (l.keys.getD j 0 : Nat)) := by
  rw [cell_of_blk h.blk, show 2 + j = (j + 1) + 1 from by omega, List.getElem?_cons_succ, List.getElem?_cons_succ,
    List.getElem?_append_left (by have := h.lB; have := h.le; have := h.r16; omega), take_get h.bs hj]
  simp [KV.keys, List.getElem?_map, List.getElem?_eq_getElem hj]
theorem RowIs.cx (h : RowIs ty w r rm l B X) (j : Nat) (hj : j < l.length) (z : Nat × Value) : w.cell? ⟨r, 18 + j, none⟩ = some (l.getD j z).2 := by
  rw [cell_of_blk h.blk, show 18 + j = (16 + j + 1) + 1 from by omega, List.getElem?_cons_succ, List.getElem?_cons_succ,
    List.getElem?_append_right (by have := h.lB; omega), h.lB, show 16 + j - 16 = j from by omega, take_get h.xs hj]
  simp [List.getElem?_map, List.getElem?_eq_getElem hj]
theorem RowIs.n16 (h : RowIs ty w r rm l B X) : l.length ≤ 16 := Nat.le_trans h.le h.r16
theorem RowIs.keep {w' : World} (h : RowIs ty w r rm l B X) (hk : w'.heap[r]? = w.heap[r]?) : RowIs ty w' r rm l B X :=
  ⟨hk.trans h.blk, h.lB, h.lX, h.bs, h.xs, h.le, h.r1, h.r16, h.srt, h.low, h.one⟩
theorem RowAt.keep {w' : World} (h : RowAt ty w r rm l) (hk : w'.heap[r]? = w.heap[r]?) : RowAt ty w' r rm l := by
  obtain ⟨B, X, h⟩ := h; exact ⟨B, X, h.keep hk⟩
theorem RowIs.oneV (h : RowIs ty w r rm l B X) : ∀ p ∈ l, p.2.oneCell' = true := by
  intro p hp
  have : p.2 ∈ X.take l.length := by rw [h.xs]; exact List.mem_map_of_mem hp
  exact h.one _ (List.mem_append_right _ (List.mem_of_mem_take this))
theorem RowIs.lt (h : RowIs ty w r rm l B X) : r < w.heap.size := (Array.getElem?_eq_some_iff.1 h.blk).1
end

/-- What may have changed: blocks in S alone; no block has gone. -/
structure Mod (S : Nat → Prop) (w w' : World) : Prop where
  os : w'.os = w.os
  tape : w'.tape = w.tape
  output : w'.output = w.output
  size : w.heap.size ≤ w'.heap.size
  same : ∀ k, k < w.heap.size → ¬ S k → w'.heap[k]? = w.heap[k]?
theorem Mod.refl (S : Nat → Prop) (w : World) : Mod S w w := ⟨rfl, rfl, rfl, Nat.le_refl _, fun _ _ _ => rfl⟩
theorem Mod.trans {S : Nat → Prop} {a b c : World} (h : Mod S a b) (k : Mod S b c) : Mod S a c :=
  ⟨k.os.trans h.os, k.tape.trans h.tape, k.output.trans h.output, Nat.le_trans h.size k.size, fun i hi hs => (k.same i (Nat.lt_of_lt_of_le hi h.size) hs).trans (h.same i hi hs)⟩
theorem Mod.mono {S T : Nat → Prop} {a b : World} (h : Mod S a b) (hs : ∀ k, k < a.heap.size → S k → T k) : Mod T a b :=
  ⟨h.os, h.tape, h.output, h.size, fun i hi ht => h.same i hi (fun e => ht (hs i hi e))⟩
/-- a step that changes more, but of old blocks only such as S has -/
theorem Mod.then {S T : Nat → Prop} {a b c : World} (h : Mod S a b) (k : Mod T b c) (hs : ∀ i, i < a.heap.size → T i → S i) : Mod S a c :=
  ⟨k.os.trans h.os, k.tape.trans h.tape, k.output.trans h.output, Nat.le_trans h.size k.size, fun i hi hn => (k.same i (Nat.lt_of_lt_of_le hi h.size) (fun e => hn (hs i hi e))).trans (h.same i hi hn)⟩
theorem Mod.drewN {S : Nat → Prop} {a b : World} (h : Mod S a b) (n : Nat) : Mod S a (b.drewN n) := ⟨h.os, h.tape, h.output, h.size, h.same⟩
theorem Mod.drew {S : Nat → Prop} {a b : World} (h : Mod S a b) : Mod S a b.drew := ⟨h.os, h.tape, h.output, h.size, h.same⟩
theorem Mod.alloc {S : Nat → Prop} {a b : World} (h : Mod S a b) (o : Obj) : Mod S a (b.alloc o) :=
  h.trans ⟨rfl, rfl, rfl, by simp, fun k hk _ => Below.heap_alloc _ _ _ hk⟩
theorem Mod.setCell {S : Nat → Prop} {a b : World} (h : Mod S a b) (p : Addr) (v : Value) (hp : p.block < a.heap.size → S p.block) : Mod S a (b.setCell p v) :=
  h.then (T := fun k => k = p.block) ⟨rfl, rfl, rfl, by simp [World.setCell], fun k _ hn => Below.heap_setCell _ _ _ _ hn⟩ (fun i hi e => by subst e; exact hp hi)
theorem Mod.setRow {S : Nat → Prop} {a b : World} (h : Mod S a b) (g : Nat) (c : Array Value) (hp : g < a.heap.size → S g) : Mod S a (b.setRow g c) :=
  h.then (T := fun k => k = g) ⟨rfl, rfl, rfl, by simp, fun k _ hn => setRow_other _ _ _ _ hn⟩ (fun i hi e => by subst e; exact hp hi)
theorem Mod.below {w w' : World} (h : Mod (fun _ => False) w w') : Below w.heap.size w w' := ⟨h.os, h.tape, h.output, h.size, fun k hk => h.same k hk (fun e => e)⟩
theorem Mod.of_below {S : Nat → Prop} {w w' : World} (h : Below w.heap.size w w') : Mod S w w' := ⟨h.os, h.tape, h.output, h.size, fun k hk _ => h.block k hk⟩

/-- copy from one place of a block into another one, as one step of a region that draws -/
theorem step_copy_in {P : Program} {ops : Array Oper} {o : Oper} {a : Act} {w : World} {K : Act → World → Prop} {Q : Exit → Act → World → Prop} {E : Prop} (hgd : o.guard = none) (d s : Operand) (dT sT : TypeId)
    (ho : o.op = .call { callee := .builtin .copy, args := #[d, s], argTypes := #[dT, sT] }) (elem : TypeId) (hu : P.underlying dT = some (.slice elem)) (hsz : (P.info? elem).map (·.size) = some 1)
    (dp sp : Option Addr) (dLen dCap sLen sCap : Nat) (hd : a.eval d = .slice dp dLen dCap) (hs : a.eval s = .slice sp sLen sCap)
    (g off : Nat) (cur : List Value) (t : TypeId) (hg : w.heap[g]? = some (.cells cur.toArray t (0, 0))) (cs : List Value) (hn : cs.length = Nat.min sLen dLen)
    (hpos : 0 < cs.length → dp = some ⟨g, off, none⟩ ∧ ∃ ad, sp = some ad ∧ ∀ j v, cs[j]? = some v → w.cell? (ad.add j) = some v)
    (hfit : off + cs.length ≤ cur.length) (h1 : ∀ v ∈ cs, v.oneCell' = true)
    (h : ∀ w', Hid (w'.heap[g]? = some (.cells (splice cur off cs).toArray t (0, 0))) → Hid (Mod (· = g) w w') → K (a.put o.dst (goInt cs.length)) w') :
    if Region.wanted o (yielded ops a.tmps) = true then Oper.wp P o a w K Q else E := by
  have hw : Region.wanted o (yielded ops a.tmps) = true := by simp [Region.wanted, hgd]
  rw [if_pos hw]
  by_cases h0 : cs.length = 0
  · obtain rfl : cs = [] := List.eq_nil_of_length_eq_zero h0
    have hrun := run_copy_none (P := P) w dT sT o.type elem dp sp dLen dCap sLen sCap hu hsz (by simpa using hn.symm)
    unfold Oper.wp
    simp [execOp, ho, resolve, invoke, builtin, hd, hs, hrun, Result.andThen]
    exact h w (show _ = _ by rw [show splice cur off [] = cur from by simp [splice]]; exact hg) (Mod.refl _ _)
  · obtain ⟨rfl, ad, rfl, hsrc⟩ := hpos (by omega)
    have hrun := run_copy_row (P := P) w dT sT o.type elem g off dLen dCap ad sLen sCap cur.toArray t cs hu hsz hg hn hsrc (by simpa using hfit) h1
    unfold Oper.wp
    simp [execOp, ho, resolve, invoke, builtin, hd, hs, hrun, Result.andThen]
    exact h _ (show _ = _ by rw [setRow_heap w g _ _ t _ hg]; simp [splice]) ((Mod.refl _ _).setRow _ _ (fun _ => rfl))
end Go.Proofs.Ytkonbldjmcccmaa
