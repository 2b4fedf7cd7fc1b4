/- Frames, owned slices, bytes, bytes.Clone; the document's Common, Cmp, Same; Numbers as bytes, the greatest first: uenc.Most, Put; the document's Most, Put; Numbers with a sign as bytes: ienc.Most, Put; the document's Most, Least, Put; Numbers with a sign as bytes: the document's Put; Texts' bytes, plain: escaped noughts, their order; replacing of bytes. No program; Replacing of bytes, plain: noughts escaped, and back. No program; The library's searches at bytes that are told by natural numbers; bytes.Replace, all of them; bytes.Replace, all of them, where there are some; bytes.ReplaceAll as senc calls it; senc.Put, senc.Len; senc.Other, and the document's Other and Put; field.Put: a value's bytes by a field; field.Put: numbers with a sign, bools, texts; any kind; field.Put: by a field that rises or falls. -/
import Derived.Test.YtbmefmfogdjecaaDoorProg
import Derived.WalkKit
import Derived.KernelRfl
import Derived.Deep.LoopGhost
import Derived.Deep.QuietTactic
import Derived.BigQuiet
import Derived.Lib.Hide
import Derived.Laws.CopyOwn
import Derived.Laws.MakeOwn
import Derived.Deep.RegionLaw
import Derived.Deep.RegionLawGrows
import Derived.Deep.WholeRow
import Derived.Lib.SliceRun
import Derived.Lib.SmallJoins
import Derived.Lib.CountLaws
import Derived.Lib.SplitLaws
import Derived.Test.YtbmefmfogdjecaaDoorShelf
import Derived.Shelf.Bytes.SlSplitNil
import Derived.StillTailTactics
import Derived.Deep.Cut
import Derived.Lib.AppendStr
import Derived.Laws.Bits64
import Derived.Deep.RegionHeld3
set_option linter.unusedVariables false
set_option linter.unusedSimpArgs false
/- Frames, owned slices, bytes, bytes.Clone; the document's Common, Cmp, Same. -/
namespace Go.Proofs.YtbmefmfogdjecaaDoor
open Go.RowKit
theorem cell_of_blk {w : World} {b : Nat} {c : List Value} {t : Nat} (h : w.heap[b]? = some (.cells c.toArray t (0, 0))) (j : Nat) : w.cell? ⟨b, j, none⟩ = c[j]? := by
  simp [World.cell?, h]
theorem frozen_of_blk {w : World} {b : Nat} {c : Array Value} {t : Nat} (h : w.heap[b]? = some (.cells c t (0, 0))) (j : Nat) : w.frozen? ⟨b, j, none⟩ = false := by
  simp [World.frozen?, h]
theorem take_get {α : Type} {L M : List α} {n j : Nat} (h : L.take n = M) (hj : j < n) : L[j]? = M[j]? := by
  rw [← h, List.getElem?_take, if_pos hj]
/-- What may have changed: blocks in S alone; no block has gone. -/
structure Mod (S : Nat → Prop) (w w' : World) : Prop where
  os : w'.os = w.os
  tape : w'.tape = w.tape
  output : w'.output = w.output
  size : w.heap.size ≤ w'.heap.size
  same : ∀ k, k < w.heap.size → ¬ S k → w'.heap[k]? = w.heap[k]?
theorem Mod.refl (S : Nat → Prop) (w : World) : Mod S w w := ⟨rfl, rfl, rfl, Nat.le_refl _, fun _ _ _ => rfl⟩
theorem Mod.trans {S : Nat → Prop} {a b c : World} (h : Mod S a b) (k : Mod S b c) : Mod S a c :=
  ⟨k.os.trans h.os, k.tape.trans h.tape, k.output.trans h.output, Nat.le_trans h.size k.size, fun i hi hs => (k.same i (Nat.lt_of_lt_of_le hi h.size) hs).trans (h.same i hi hs)⟩
theorem Mod.mono {S T : Nat → Prop} {a b : World} (h : Mod S a b) (hs : ∀ k, k < a.heap.size → S k → T k) : Mod T a b :=
  ⟨h.os, h.tape, h.output, h.size, fun i hi ht => h.same i hi (fun e => ht (hs i hi e))⟩
/-- a step that changes more, but of old blocks only such as S has -/
theorem Mod.then {S T : Nat → Prop} {a b c : World} (h : Mod S a b) (k : Mod T b c) (hs : ∀ i, i < a.heap.size → T i → S i) : Mod S a c :=
  ⟨k.os.trans h.os, k.tape.trans h.tape, k.output.trans h.output, Nat.le_trans h.size k.size, fun i hi hn => (k.same i (Nat.lt_of_lt_of_le hi h.size) (fun e => hn (hs i hi e))).trans (h.same i hi hn)⟩
theorem Mod.drewN {S : Nat → Prop} {a b : World} (h : Mod S a b) (n : Nat) : Mod S a (b.drewN n) := ⟨h.os, h.tape, h.output, h.size, h.same⟩
theorem Mod.drew {S : Nat → Prop} {a b : World} (h : Mod S a b) : Mod S a b.drew := ⟨h.os, h.tape, h.output, h.size, h.same⟩
theorem Mod.alloc {S : Nat → Prop} {a b : World} (h : Mod S a b) (o : Obj) : Mod S a (b.alloc o) :=
  h.trans ⟨rfl, rfl, rfl, by simp, fun k hk _ => Below.heap_alloc _ _ _ hk⟩
theorem Mod.setCell {S : Nat → Prop} {a b : World} (h : Mod S a b) (p : Addr) (v : Value) (hp : p.block < a.heap.size → S p.block) : Mod S a (b.setCell p v) :=
  h.then (T := fun k => k = p.block) ⟨rfl, rfl, rfl, by simp [World.setCell], fun k _ hn => Below.heap_setCell _ _ _ _ hn⟩ (fun i hi e => by subst e; exact hp hi)
theorem Mod.setRow {S : Nat → Prop} {a b : World} (h : Mod S a b) (g : Nat) (c : Array Value) (hp : g < a.heap.size → S g) : Mod S a (b.setRow g c) :=
  h.then (T := fun k => k = g) ⟨rfl, rfl, rfl, by simp, fun k _ hn => setRow_other _ _ _ _ hn⟩ (fun i hi e => by subst e; exact hp hi)
theorem Mod.below {w w' : World} (h : Mod (fun _ => False) w w') : Below w.heap.size w w' := ⟨h.os, h.tape, h.output, h.size, fun k hk => h.same k hk (fun e => e)⟩
theorem Mod.of_below {S : Nat → Prop} {w w' : World} (h : Below w.heap.size w w') : Mod S w w' := ⟨h.os, h.tape, h.output, h.size, fun k hk _ => h.block k hk⟩

theorem setCell_list (w : World) (g i : Nat) (cur : List Value) (t : Nat) (v : Value) (hg : w.heap[g]? = some (.cells cur.toArray t (0, 0))) : w.setCell ⟨g, i, none⟩ v = w.setRow g (cur.set i v).toArray := by
  rw [setCell_eq_setRow w g i _ t (0, 0) v hg]; simp
/-- v is a slice of one-cell things that reads xs: nil, or the head of block g -/
def Own (ty : Nat) (w : World) (v : Value) (xs : List Value) (bo : Option Nat) : Prop :=
  (v = .slice none 0 0 ∧ xs = [] ∧ bo = none) ∨
  (∃ g cap cur, bo = some g ∧ v = .slice (some ⟨g, 0, none⟩) xs.length cap ∧ w.heap[g]? = some (.cells cur ty (0, 0)) ∧ xs.length ≤ cap ∧ cap ≤ maxLen ∧ cur.size = cap ∧ cur.toList.take xs.length = xs)
/-- the block is the old one, or a new one -/
def NewOr (w : World) (bo bo' : Option Nat) : Prop := bo' = bo ∨ ∃ g, bo' = some g ∧ w.heap.size ≤ g

theorem Own.nil (ty : Nat) (w : World) : Own ty w (.slice none 0 0) [] none := Or.inl ⟨rfl, rfl, rfl⟩
theorem Own.len {ty : Nat} {w : World} {v : Value} {xs : List Value} {bo : Option Nat} (h : Own ty w v xs bo) : ∃ a c, v = .slice a xs.length c := by
  rcases h with ⟨rfl, rfl, rfl⟩ | ⟨g, cap, cur, rfl, rfl, _⟩
  · exact ⟨_, _, rfl⟩
  · exact ⟨_, _, rfl⟩
theorem Own.lt {ty : Nat} {w : World} {v : Value} {xs : List Value} {g : Nat} (h : Own ty w v xs (some g)) : g < w.heap.size := by
  rcases h with ⟨_, _, h⟩ | ⟨g', cap, cur, e, _, hg, _⟩
  · simp at h
  · cases e; exact (Array.getElem?_eq_some_iff.1 hg).1
theorem Own.keep {ty : Nat} {w w' : World} {v : Value} {xs : List Value} {bo : Option Nat} (h : Own ty w v xs bo) (hk : ∀ g, bo = some g → w'.heap[g]? = w.heap[g]?) : Own ty w' v xs bo := by
  rcases h with h | ⟨g, cap, cur, rfl, hv, hg, r⟩
  · exact Or.inl h
  · exact Or.inr ⟨g, cap, cur, rfl, hv, (hk g rfl).trans hg, r⟩
theorem Own.at_ {ty : Nat} {w : World} {v : Value} {xs : List Value} {bo : Option Nat} (h : Own ty w v xs bo) {j : Nat} (hj : j < xs.length) : ∃ g cap, bo = some g ∧ v = .slice (some ⟨g, 0, none⟩) xs.length cap ∧ w.cell? ⟨g, j, none⟩ = some xs[j] ∧ w.frozen? ⟨g, j, none⟩ = false ∧ xs.length ≤ cap := by
  rcases h with ⟨_, rfl, _⟩ | ⟨g, cap, cur, rfl, rfl, hg, hl, hm, hs, ht⟩
  · simp at hj
  · refine ⟨g, cap, rfl, rfl, ?_, frozen_of_blk hg j, hl⟩
    rw [cell_of_row w g j cur ty (0, 0) hg]
    have := take_get ht hj
    rw [List.getElem?_eq_getElem hj] at this
    simpa using this
theorem Own.take {ty : Nat} {w : World} {v : Value} {xs : List Value} {g : Nat} {n : Nat} {cap : Nat} (h : Own ty w v xs (some g)) (hv : v = .slice (some ⟨g, 0, none⟩) xs.length cap) (hn : n ≤ xs.length) : Own ty w (.slice (some ⟨g, 0, none⟩) n cap) (xs.take n) (some g) := by
  rcases h with ⟨_, _, h⟩ | ⟨g', cap', cur, e, hv', hg, hl, hm, hs, ht⟩
  · simp at h
  · cases e
    rw [hv] at hv'
    simp only [Value.slice.injEq, true_and] at hv'
    obtain rfl := hv'
    have e : (xs.take n).length = n := by simp; omega
    exact Or.inr ⟨g, cap, cur, rfl, by rw [e], hg, by omega, hm, hs, by rw [e, ← ht, List.take_take, Nat.min_eq_left hn]⟩
theorem Own.set {ty : Nat} {w : World} {v : Value} {xs : List Value} {g : Nat} (h : Own ty w v xs (some g)) (j : Nat) (x : Value) : Own ty (w.setCell ⟨g, j, none⟩ x) v (xs.set j x) (some g) := by
  rcases h with ⟨_, _, h⟩ | ⟨g', cap, cur, e, hv, hg, hl, hm, hs, ht⟩
  · simp at h
  · cases e
    refine Or.inr ⟨g, cap, cur.setIfInBounds j x, rfl, by simpa using hv, ?_, by simpa using hl, hm, by simpa using hs, ?_⟩
    · rw [setCell_eq_setRow w g j cur ty (0, 0) x hg, setRow_heap w g _ _ _ _ hg]
    · simp only [List.length_set, Array.toList_setIfInBounds]
      rw [List.take_set, ht]

section
variable {P : Program}
theorem run_append_at (w : World) (t ty e : TypeId) (i : TypeInfo) (z : Value) (bytes : Nat) (ht : P.underlying t = some (.slice e)) (hi : P.info? e = some i) (hz : i.zero = some z)
    (hsize : i.size = 1) (hby : i.bytes = bytes) (hzs : z.cells.size = 1)
    (v : Value) (xs : List Value) (bo : Option Nat) (hown : Own e w v xs bo)
    (a : Addr) (m c : Nat) (news : List Value) (hl : news.length = m) (hnews : ∀ j u, news[j]? = some u → w.cell? (a.add j) = some u) (h1 : ∀ u ∈ news, u.oneCell' = true)
    (h63 : xs.length + m ≤ maxLen) (hbytes : (xs.length + m) * bytes ≤ 140737488355328) :
    ∃ v' w' bo', (Builtin.append_ #[t, t] ty #[v, .slice (some a) m c]).run P w = .ok v' w' ∧ Own e w' v' (xs ++ news) bo' ∧ Mod (fun k => bo = some k) w w' ∧ NewOr w bo bo' := by
  have fresh : ∀ v' w', w'.ownsRow w.heap.size e 1 v' (xs.length + m) (xs ++ news) → ∃ bo', Own e w' v' (xs ++ news) bo' ∧ (bo' = none ∨ ∃ g, bo' = some g ∧ w.heap.size ≤ g) := by
    intro v' w' ho
    have hlen : (xs ++ news).length = xs.length + m := by simp [hl]
    rcases ho.2 with ⟨rfl, h0⟩ | ⟨g, cap, cur, rfl, hb, hg, h2, h3, h4, h5⟩
    · exact ⟨none, Or.inl ⟨rfl, List.eq_nil_of_length_eq_zero (by omega), rfl⟩, Or.inl rfl⟩
    · exact ⟨some g, Or.inr ⟨g, cap, cur, rfl, by rw [hlen], hg, by omega, h3, by omega, by rw [hlen]; simpa using h5⟩, Or.inr ⟨g, rfl, hb⟩⟩
  rcases hown with ⟨rfl, rfl, rfl⟩ | ⟨g, cap, cur, rfl, rfl, hg, hnc, hcm, hcs, htake⟩
  · obtain ⟨v', w', hr, h2, h3, _⟩ := run_append_own (P := P) w w.heap.size t ty e i z 1 bytes ht hi hz hsize hby hzs (by omega) (.slice none 0 0) 0 [] (World.ownsRow_nil w _ e 1) a m c news (by omega) hnews h1 (by simpa using h63) (by simpa using hbytes) (Nat.le_refl _)
    obtain ⟨bo', ho, hn⟩ := fresh v' w' (by simpa using h2)
    refine ⟨v', w', bo', hr, by simpa using ho, ⟨h3.os, h3.tape, h3.output, h3.size, fun k hk _ => h3.block k hk (by simp [Value.ownBlock])⟩, ?_⟩
    rcases hn with rfl | h
    · exact Or.inl rfl
    · exact Or.inr h
  · by_cases hroom : xs.length + m ≤ cap
    · have hr := run_append_room (P := P) w t ty e i ht hi g xs.length cap cur hg a m c news (by rw [hsize]; omega) hnews h1 hroom (by rw [hsize]; omega)
      refine ⟨_, _, some g, hr, Or.inr ⟨g, cap, _, rfl, by simp [hl], setRow_heap w g cur _ e _ hg, by simp; omega, hcm, ?_, ?_⟩, (Mod.refl _ w).setRow g _ (fun _ => rfl), Or.inl rfl⟩
      · simp [hsize]; omega
      · have hlen : (cur.toList.take xs.length ++ news).length = (xs ++ news).length := by rw [htake]
        simp only [hsize, Nat.mul_one]
        rw [htake]
        exact List.take_left
    · have holds : ∀ j u, xs[j]? = some u → w.cell? ((⟨g, 0, none⟩ : Addr).add j) = some u := by
        intro j u hj
        have hjl : j < xs.length := by
          by_cases h : j < xs.length
          · exact h
          · rw [List.getElem?_eq_none (by omega)] at hj; simp at hj
        have e : (⟨g, 0, none⟩ : Addr).add j = ⟨g, j, none⟩ := by unfold Addr.add; split <;> simp_all
        rw [e, cell_of_row w g j cur _ (0, 0) hg, ← hj, ← take_get htake hjl]
        simp
      obtain ⟨v', w', hr, h2, h3⟩ := run_append_arg_grows (P := P) w t ty e i z 1 bytes ht hi hz hsize hby hzs (by omega) ⟨g, 0, none⟩ xs.length cap xs (by omega) holds a m c news (by omega) hnews (by omega) h63 hbytes
      obtain ⟨bo', ho, hn⟩ := fresh v' w' h2
      refine ⟨v', w', bo', hr, ho, ⟨h3.os, h3.tape, h3.output, h3.size, fun k hk _ => h3.block k hk (by simp)⟩, ?_⟩
      rcases hn with rfl | h
      · rcases ho with ⟨_, h0, _⟩ | ⟨_, _, _, h0, _⟩
        · have : xs.length + news.length = 0 := by rw [← List.length_append, h0]; rfl
          omega
        · simp at h0
      · exact Or.inr h

theorem wpList_append_at {w : World} {ops : Array Oper} {rest : List Oper} {o : Oper} {a : Act} {Q : Exit → Act → World → Prop} (hgd : o.guard = none) (s x : Operand) (t : TypeId)
    (ho : o.op = .call { callee := .builtin .append, args := #[s, x], argTypes := #[t, t] }) (e : TypeId) (z : Value) (bytes : Nat) (ht : P.underlying t = some (.slice e)) (hinfo : (P.info? e).map (fun i => (i.zero, i.size, i.bytes)) = some (some z, 1, bytes)) (hzs : z.cells.size = 1)
    (v : Value) (hs : a.eval s = v) (xs : List Value) (bo : Option Nat) (hown : Own e w v xs bo)
    (ad : Addr) (m c : Nat) (news : List Value) (hx : a.eval x = .slice (some ad) m c) (hl : news.length = m) (hnews : ∀ j u, news[j]? = some u → w.cell? (ad.add j) = some u) (h1 : ∀ u ∈ news, u.oneCell' = true)
    (h63 : xs.length + m ≤ maxLen) (hbytes : (xs.length + m) * bytes ≤ 140737488355328)
    (h : ∀ v' w' bo', Hid (Own e w' v' (xs ++ news) bo') → Hid (Mod (fun k => bo = some k) w w') → Hid (NewOr w bo bo') → wpList P ops Q rest (a.put o.dst v') w') : wpList P ops Q (o :: rest) a w := by
  obtain ⟨i, hi, hz, hsize, hby⟩ := info_parts hinfo
  refine wpList_plain hgd fun K hK => ?_
  obtain ⟨v', w', bo', hr, h2, h3, h4⟩ := run_append_at (P := P) w t o.type e i z bytes ht hi hz hsize hby hzs v xs bo hown ad m c news hl hnews h1 h63 hbytes
  unfold Oper.wp execOp
  simp only [ho, resolve, invoke, builtin, Sem.run_bind, Sem.run_pure, Result.andThen_ok, List.map_toArray, List.map_cons, List.map_nil, hs, hx, hr]
  exact hK _ _ (h v' w' bo' h2 h3 h4)
theorem step_append_at {w : World} {ops : Array Oper} {o : Oper} {a : Act} {K : Act → World → Prop} {Q : Exit → Act → World → Prop} {E : Prop} (hgd : o.guard = none) (s x : Operand) (t : TypeId)
    (ho : o.op = .call { callee := .builtin .append, args := #[s, x], argTypes := #[t, t] }) (e : TypeId) (z : Value) (bytes : Nat) (ht : P.underlying t = some (.slice e)) (hinfo : (P.info? e).map (fun i => (i.zero, i.size, i.bytes)) = some (some z, 1, bytes)) (hzs : z.cells.size = 1)
    (v : Value) (hs : a.eval s = v) (xs : List Value) (bo : Option Nat) (hown : Own e w v xs bo)
    (ad : Addr) (m c : Nat) (news : List Value) (hx : a.eval x = .slice (some ad) m c) (hl : news.length = m) (hnews : ∀ j u, news[j]? = some u → w.cell? (ad.add j) = some u) (h1 : ∀ u ∈ news, u.oneCell' = true)
    (h63 : xs.length + m ≤ maxLen) (hbytes : (xs.length + m) * bytes ≤ 140737488355328)
    (h : ∀ v' w' bo', Hid (Own e w' v' (xs ++ news) bo') → Hid (Mod (fun k => bo = some k) w w') → Hid (NewOr w bo bo') → K (a.put o.dst v') w') :
    if Region.wanted o (yielded ops a.tmps) = true then Oper.wp P o a w K Q else E := by
  have hw : Region.wanted o (yielded ops a.tmps) = true := by simp [Region.wanted, hgd]
  rw [if_pos hw]
  obtain ⟨i, hi, hz, hsize, hby⟩ := info_parts hinfo
  obtain ⟨v', w', bo', hr, h2, h3, h4⟩ := run_append_at (P := P) w t o.type e i z bytes ht hi hz hsize hby hzs v xs bo hown ad m c news hl hnews h1 h63 hbytes
  unfold Oper.wp execOp
  simp only [ho, resolve, invoke, builtin, Sem.run_bind, Sem.run_pure, Result.andThen_ok, List.map_toArray, List.map_cons, List.map_nil, hs, hx, hr]
  exact h v' w' bo' h2 h3 h4
end
def clonePost (ty : Nat) (xs : List Value) (w : World) (e : Ending) (w' : World) : Prop := ∃ v' bo', e = .returned v' ∧ Own ty w' v' xs bo' ∧ Below w.heap.size w w' ∧ (bo' = none ∨ ∃ g, bo' = some g ∧ w.heap.size ≤ g)
theorem Own.read {ty : Nat} {w : World} {a : Addr} {n c : Nat} {xs : List Value} {bo : Option Nat} (h : Own ty w (.slice (some a) n c) xs bo) : xs.length = n ∧ ∀ j u, xs[j]? = some u → w.cell? (a.add j) = some u := by
  rcases h with ⟨h, _, _⟩ | ⟨g, cap, cur, rfl, hv, hg, hl, hm, hs, ht⟩
  · simp at h
  · simp only [Value.slice.injEq, Option.some.injEq] at hv
    obtain ⟨rfl, rfl, rfl⟩ := hv
    refine ⟨rfl, fun j u hj => ?_⟩
    have hjl : j < xs.length := by
      by_cases h : j < xs.length
      · exact h
      · rw [List.getElem?_eq_none (by omega)] at hj; simp at hj
    have e : (⟨g, 0, none⟩ : Addr).add j = ⟨g, j, none⟩ := by unfold Addr.add; split <;> simp_all
    rw [e, cell_of_row w g j cur _ (0, 0) hg, ← hj, ← take_get ht hjl]
    simp
theorem Own.fresh0 (ty : Nat) (w : World) : Own ty (w.alloc (.cells #[] ty)) (.slice (some ⟨w.heap.size, 0, none⟩) 0 0) [] (some w.heap.size) :=
  Or.inr ⟨w.heap.size, 0, #[], rfl, rfl, heap_alloc_new w _, by simp, by simp [maxLen], rfl, rfl⟩
theorem clone_end {ty : Nat} {xs : List Value} {w w1 : World} {v1 : Value} {bo1 : Option Nat} {o : Obj} (HO : Own ty w1 v1 ([] ++ xs) bo1) (HM : Mod (fun k => some w.heap.size = some k) (w.alloc o) w1) (HN : NewOr (w.alloc o) (some w.heap.size) bo1) : clonePost ty xs w (.returned v1) w1 := by
  refine ⟨v1, bo1, rfl, by simpa using HO, ?_, ?_⟩
  · have this : Mod (fun _ => False) w w1 := ((Mod.refl (fun _ => False) w).alloc o).then HM (fun i hi e => by have h := Option.some.inj e; omega)
    exact this.below
  · rcases HN with e | ⟨g, e, hg⟩
    · exact Or.inr ⟨_, e, Nat.le_refl _⟩
    · exact Or.inr ⟨g, e, by simp at hg; omega⟩
theorem below_drewN {B : Nat} {w0 w : World} (h : Below B w0 w) (n : Nat) : Below B w0 (w.drewN n) := ⟨h.os, h.tape, h.output, h.size, h.block⟩
theorem below_mod {w0 w w' : World} {S : Nat → Prop} (h : Below w0.heap.size w0 w) (hm : Mod S w w') (hS : ∀ j, S j → w0.heap.size ≤ j) : Below w0.heap.size w0 w' := by
  refine h.trans (?_ : Below w0.heap.size w w')
  have := h.size
  exact ⟨hm.os, hm.tape, hm.output, hm.size, fun j hj => hm.same j (by omega) (fun e => by have := hS j e; omega)⟩
/-- what a statement's walk ends with -/
def LawPost (w : World) (e : Ending) (w' : World) : Prop := e = .returned (.bool true) ∧ Below w.heap.size w w'
def BytesAt (w : World) (a : Option Addr) (bs : List Nat) : Prop := (∀ x ∈ bs, x < 256) ∧ ∀ i, i < bs.length → ∃ p : Addr, a = some p ∧ (p.add i).block < w.heap.size ∧ w.cell? (p.add i) = some (.int .u8 (bs.getD i 0 : Nat))
theorem BytesAt.read {w wr : World} {a : Option Addr} {bs : List Nat} (h : BytesAt w a bs) (hb : Below w.heap.size w wr) {i : Nat} (hi : i < bs.length) : ∃ p : Addr, a = some p ∧ wr.cell? (p.add i) = some (.int .u8 (bs.getD i 0 : Nat)) := by
  obtain ⟨p, rfl, h1, h2⟩ := h.2 i hi
  exact ⟨p, rfl, (hb.cell (p := p.add i) h1).trans h2⟩
theorem cell_lt {w : World} {a : Addr} {v : Value} (h : w.cell? a = some v) : a.block < w.heap.size := by
  by_cases hb : a.block < w.heap.size
  · exact hb
  · have : w.heap[a.block]? = none := by simpa using hb
    simp [World.cell?, this] at h
theorem wf_u8 {n : Int} (h : (Lit.int .u8 n).wf = true) : 0 ≤ n ∧ n ≤ 255 := by simpa [Lit.wf, IntKind.min, IntKind.max, IntKind.signed, IntKind.bits] using h
theorem wf_i64 {n : Int} (h : (Lit.int .i64 n).wf = true) : -9223372036854775808 ≤ n ∧ n ≤ 9223372036854775807 := by simpa [Lit.wf, IntKind.min, IntKind.max, IntKind.signed, IntKind.bits] using h
theorem wf_u64 {n : Int} (h : (Lit.int .u64 n).wf = true) : 0 ≤ n ∧ n ≤ 18446744073709551615 := by simpa [Lit.wf, IntKind.min, IntKind.max, IntKind.signed, IntKind.bits] using h
theorem bytes_of {w : World} {a : Option Addr} {len cap : Nat} {zs : List Int} (h : (a = none ∧ len = 0 ∧ cap = 0 ∧ zs = []) ∨ ∃ x, a = some x ∧ len ≤ cap ∧ cap ≤ maxLen ∧ zs.length = cap ∧ (∀ i, i < zs.length → w.cell? (x.add i) = some (.int .u8 (zs.getD i 0))) ∧ ∀ n ∈ zs, (Lit.int .u8 n).wf = true) (m : Nat) (hm : m ≤ len) :
    ∃ bs : List Nat, bs.length = m ∧ len ≤ cap ∧ cap ≤ maxLen ∧ BytesAt w a bs := by
  rcases h with ⟨rfl, rfl, rfl, rfl⟩ | ⟨x, rfl, h1, h2, h3, h4, h5⟩
  · obtain rfl : m = 0 := by omega
    exact ⟨[], rfl, Nat.le_refl _, Nat.zero_le _, by simp, by intro i hi; simp at hi⟩
  · refine ⟨(zs.take m).map Int.toNat, by simp; omega, h1, h2, ?_, ?_⟩
    · intro y hy
      obtain ⟨n, hn, rfl⟩ := List.mem_map.1 hy
      have := wf_u8 (h5 n (List.mem_of_mem_take hn))
      omega
    · intro i hi
      have hi' : i < m := by simp at hi; omega
      have hz : i < zs.length := by omega
      have hc := h4 i hz
      have hn := wf_u8 (h5 zs[i] (List.getElem_mem _))
      have e : zs.getD i 0 = ((((zs.take m).map Int.toNat).getD i 0 : Nat) : Int) := by
        simp [List.getD, List.getElem?_take, hi', hz]
        omega
      refine ⟨x, rfl, cell_lt hc, ?_⟩
      rw [hc, e]
def u8T : Nat := 5
def bV (bs : List Nat) : List Value := bs.map fun b => .int .u8 (b : Nat)
theorem bV_get (bs : List Nat) (j : Nat) : (bV bs)[j]? = bs[j]?.map fun b => Value.int .u8 (b : Nat) := by simp [bV]
theorem bV_one (bs : List Nat) : ∀ u ∈ bV bs, u.oneCell' = true := by
  intro u hu; simp only [bV, List.mem_map] at hu; obtain ⟨b, _, rfl⟩ := hu; rfl
theorem cloneB_under : Tryd.prog.underlying 25 = some (.slice 5) := by kernel_rfl
theorem cloneB_info : (Tryd.prog.info? 5).map (fun i => (i.zero, i.size, i.bytes)) = some (some (.int .u8 0), 1, 1) := by kernel_rfl
set_option maxRecDepth 100000 in
theorem cloneB_any (w : World) (a : Option Addr) (n c : Nat) (bs : List Nat) (hn : bs.length = n) (hb : BytesAt w a bs) (hl : n ≤ 140737488355328) (hnil : a = none → n = 0) : Calls Tryd.prog 26 #[.slice a n c] w (clonePost 5 (bV bs) w) := by
  have q1 : ∀ (w : World) (a : Option Addr) (n c n' c' : Nat), (binOp .eql 25 (.slice a n c) (.slice none n' c')).run Tryd.prog w = .ok (.bool a.isNone) w := fun w a n c n' c' => Lib.run_eql_slice_nil w _ _ a n c n' c' cloneB_under
  cases a with
  | none =>
    obtain rfl : n = 0 := hnil rfl
    obtain rfl : bs = [] := List.eq_nil_of_length_eq_zero hn
    have hR : clonePost 5 [] w (.returned (.slice none 0 0)) w := ⟨_, none, rfl, Own.nil _ _, Below.refl _ _, Or.inl rfl⟩
    clear hn hb hl hnil
    go_enter Tryd.func26, Tryd.ntmps26
    go_wp2_with fail
    go_ret
    exact hR
  | some p =>
    have Hr : Hid (∀ o, ∀ j u, (bV bs)[j]? = some u → (w.alloc o).cell? (p.add j) = some u) := fun o j u hj => by
      rw [bV_get] at hj
      have hj2 : j < bs.length := by
        by_cases h : j < bs.length
        · exact h
        · rw [List.getElem?_eq_none (by omega)] at hj; simp at hj
      rw [List.getElem?_eq_getElem hj2] at hj
      simp only [Option.map_some, Option.some.injEq] at hj
      subst hj
      obtain ⟨p', hp, h1, h2⟩ := hb.2 j hj2
      obtain rfl : p = p' := by simpa using hp
      rw [((Below.refl _ w).alloc (Nat.le_refl _) o).cell h1, h2]
      simp [List.getD, hj2]
    have H1 := Lib.hid (bV_one bs)
    have hlen : Hid ((bV bs).length = n) := by show _ = _; simp [bV, hn]
    have hb1 : Hid (([] : List Value).length + n ≤ maxLen) := by show _ ≤ _; simp only [maxLen, List.length_nil]; omega
    have hb2 : Hid ((([] : List Value).length + n) * 1 ≤ 140737488355328) := by show _ ≤ _; simp only [List.length_nil]; omega
    clear hn hb hl hnil
    go_enter Tryd.func26, Tryd.ntmps26
    go_wp2_with (at_builtin; go_loud (refine wpList_append_at rfl (.tmp 5) (.tmp 6) 25 rfl 5 (.int .u8 0) 1 cloneB_under cloneB_info rfl _ rfl [] (some w.heap.size) (Own.fresh0 _ _) p n c (bV bs) rfl hlen.out (Hr.out _) H1.out hb1.out hb2.out ?_); intro v1 w1 bo1 HO HM HN)
    go_ret
    exact clone_end HO.out HM.out HN.out
/-- how many bytes both begin with -/
def lcp : List Nat → List Nat → Nat
  | x :: xs, y :: ys => if x = y then lcp xs ys + 1 else 0
  | _, _ => 0
theorem lcp_le : ∀ (xs ys : List Nat), lcp xs ys ≤ xs.length ∧ lcp xs ys ≤ ys.length
  | [], _ => by simp [lcp]
  | _ :: _, [] => by simp [lcp]
  | x :: xs, y :: ys => by
    have := lcp_le xs ys
    unfold lcp
    split <;> simp <;> omega
theorem lcp_stop : ∀ (xs ys : List Nat) (n : Nat), (∀ j, j < n → xs.getD j 0 = ys.getD j 0) → n ≤ xs.length → n ≤ ys.length → (n = xs.length ∨ n = ys.length ∨ xs.getD n 0 ≠ ys.getD n 0) → lcp xs ys = n
  | [], ys, n, h1, h2, h3, h4 => by simp at h2; subst h2; rfl
  | x :: xs, [], n, h1, h2, h3, h4 => by simp at h3; subst h3; rfl
  | x :: xs, y :: ys, 0, h1, h2, h3, h4 => by
    have : x ≠ y := by
      rcases h4 with h | h | h
      · simp at h
      · simp at h
      · simpa using h
    simp [lcp, this]
  | x :: xs, y :: ys, n + 1, h1, h2, h3, h4 => by
    have e : x = y := by simpa using h1 0 (by omega)
    subst e
    have := lcp_stop xs ys n (fun j hj => by simpa using h1 (j + 1) (by omega)) (by simpa using h2) (by simpa using h3) (by simpa using h4)
    simp [lcp, this]
theorem lcp_same : ∀ (xs ys : List Nat), (lcp xs ys = xs.length ∧ lcp xs ys = ys.length) ↔ xs = ys
  | [], [] => by simp [lcp]
  | [], _ :: _ => by simp [lcp]
  | _ :: _, [] => by simp [lcp]
  | x :: xs, y :: ys => by
    have := lcp_same xs ys
    unfold lcp
    by_cases e : x = y
    · subst e; simp [this]
    · simp [e]
/-- the order of bytes -/
def bcmp (xs ys : List Nat) : Int :=
  if lcp xs ys = xs.length ∧ lcp xs ys = ys.length then 0 else if lcp xs ys = xs.length then -1 else if lcp xs ys = ys.length then 1 else if xs.getD (lcp xs ys) 0 < ys.getD (lcp xs ys) 0 then -1 else 1
theorem bcmp_zero (xs ys : List Nat) : bcmp xs ys = 0 ↔ xs = ys := by
  unfold bcmp
  rw [← lcp_same]
  split
  · rename_i h; exact ⟨fun _ => h, fun _ => rfl⟩
  · rename_i h
    constructor
    · intro e; exfalso; revert e; split <;> (try split) <;> (try split) <;> simp
    · intro e; exact absurd e h
/-- bytes at a slice, whatever was drawn -/
theorem BytesAt.cellN {w : World} {a : Option Addr} {bs : List Nat} (h : BytesAt w a bs) {i : Nat} (hi : i < bs.length) : ∃ p : Addr, a = some p ∧ ∀ k, (w.drewN k).cell? (p.add i) = some (.int .u8 (bs.getD i 0 : Nat)) := by
  obtain ⟨p, hp, _, h2⟩ := h.2 i hi
  exact ⟨p, hp, fun k => h2⟩
set_option maxRecDepth 100000 in
theorem ref_common (w : World) (a1 a2 : Option Addr) (n1 c1 n2 c2 : Nat) (xs ys : List Nat) (h1 : BytesAt w a1 xs) (h2 : BytesAt w a2 ys) (l1 : xs.length = n1) (l2 : ys.length = n2) (m1 : n1 ≤ maxLen) (m2 : n2 ≤ maxLen) : Calls Tryd.prog 33 #[.slice a1 n1 c1, .slice a2 n2 c2] w fun e w' => e = .returned (.int .i64 (lcp xs ys : Nat)) ∧ ∃ k, w' = w.drewN k := by
  have H1 := Lib.hid h1
  have H2 := Lib.hid h2
  have L1 := Lib.hid l1
  have L2 := Lib.hid l2
  have M1 : n1 ≤ 9223372036854775807 := m1
  have M2 : n2 ≤ 9223372036854775807 := m2
  obtain ⟨V, hV⟩ : ∃ V : Nat, Hid (lcp xs ys = V) := ⟨_, rfl⟩
  rw [hV.out]
  clear h1 h2 l1 l2 m1 m2
  go_enter Tryd.func33, Tryd.ntmps33
  go_wp2_with fail
  go_loopw [5] (fun vi wr => ∃ i k : Nat, vi = .int .i64 (i : Nat) ∧ i ≤ n1 ∧ i ≤ n2 ∧ Hid (∀ j, j < i → xs.getD j 0 = ys.getD j 0) ∧ wr = w.drewN k) (fun vi _ => (n1 - intOf vi).toNat)
  case atStart => exact ⟨0, 0, rfl, by omega, by omega, (fun j hj => absurd hj (Nat.not_lt_zero j)), rfl⟩
  case round =>
    obtain ⟨i, k, rfl, hi1, hi2, heq, rfl⟩ := hrel
    by_cases g1 : i < n1
    · by_cases g2 : i < n2
      · obtain ⟨p, rfl, hp⟩ := H1.out.cellN (i := i) (by rw [L1.out]; exact g1)
        obtain ⟨q, rfl, hq⟩ := H2.out.cellN (i := i) (by rw [L2.out]; exact g2)
        have j1 : (i : Int) < (n1 : Int) := by omega
        have j2 : (i : Int) < (n2 : Int) := by omega
        have hw9 : IntKind.i64.wrap (((i : Nat) : Int) + 1) = ((i : Nat) : Int) + 1 := IntWalk.i64_in _ (by omega)
        by_cases he : xs.getD i 0 = ys.getD i 0
        · have hn : Hid (∀ j, j < i + 1 → xs.getD j 0 = ys.getD j 0) := fun j hj => by
            by_cases e : j = i
            · subst e; exact he
            · exact heq.out j (by omega)
          rw [← he] at hq
          generalize xs.getD i 0 = u at *
          clear he
          go_wp2_with fail
          go_quiet (fail)
          go_wp2_with fail
          go_roundw
          case rel => exact ⟨i + 1, k + nq, (by first | rfl | go_num), by omega, by omega, hn, by simp⟩
          case measure => (simp [intOf]) <;> omega
        · have hR : Hid (i = V) := ((lcp_stop xs ys i heq.out (by rw [L1.out]; omega) (by rw [L2.out]; omega) (Or.inr (Or.inr he))).symm.trans hV.out : i = V)
          have he2 : ((xs.getD i 0 : Nat) : Int) ≠ ((ys.getD i 0 : Nat) : Int) := by omega
          have he3 : (((xs.getD i 0 : Nat) : Int) == ((ys.getD i 0 : Nat) : Int)) = false := by simpa using he2
          generalize xs.getD i 0 = u at *
          generalize ys.getD i 0 = v at *
          clear he he2
          go_wp2_with fail
          go_quiet (fail)
          go_wp2_with fail
          go_ret
          exact ⟨congrArg (fun n : Nat => Ending.returned (.int .i64 (n : Int))) hR.out, _, World.drewN_drewN _ _ _⟩
      · obtain ⟨p, rfl, hp⟩ := H1.out.cellN (i := i) (by rw [L1.out]; exact g1)
        obtain rfl : i = n2 := by omega
        have hR : Hid (i = V) := ((lcp_stop xs ys i heq.out (by rw [L1.out]; omega) (by rw [L2.out]; omega) (Or.inr (Or.inl (by rw [L2.out])))).symm.trans hV.out : i = V)
        have j1 : (i : Int) < (n1 : Int) := by omega
        go_wp2_with fail
        go_quiet (fail)
        go_wp2_with fail
        go_ret
        exact ⟨congrArg (fun n : Nat => Ending.returned (.int .i64 (n : Int))) hR.out, _, World.drewN_drewN _ _ _⟩
    · obtain rfl : i = n1 := by omega
      have hR : Hid (i = V) := ((lcp_stop xs ys i heq.out (by rw [L1.out]; omega) (by rw [L2.out]; omega) (Or.inl (by rw [L1.out]))).symm.trans hV.out : i = V)
      go_wp2_with fail
      go_quiet (fail)
      go_wp2_with fail
      go_ret
      exact ⟨congrArg (fun n : Nat => Ending.returned (.int .i64 (n : Int))) hR.out, _, World.drewN_drewN _ _ _⟩
set_option maxRecDepth 100000 in
theorem ref_cmp (w : World) (a1 a2 : Option Addr) (n1 c1 n2 c2 : Nat) (xs ys : List Nat) (h1 : BytesAt w a1 xs) (h2 : BytesAt w a2 ys) (l1 : xs.length = n1) (l2 : ys.length = n2) (m1 : n1 ≤ maxLen) (m2 : n2 ≤ maxLen) : Calls Tryd.prog 19 #[.slice a1 n1 c1, .slice a2 n2 c2] w fun e w' => e = .returned (.int .i64 (bcmp xs ys)) ∧ ∃ k, w' = w.drewN k := by
  have hC := Lib.hid (ref_common w a1 a2 n1 c1 n2 c2 xs ys h1 h2 l1 l2 m1 m2)
  have hle := lcp_le xs ys
  have H1 := Lib.hid h1
  have H2 := Lib.hid h2
  have L1 := Lib.hid l1
  have L2 := Lib.hid l2
  rw [l1, l2] at hle
  obtain ⟨hle1, hle2⟩ := hle
  have hB : Hid (bcmp xs ys = if lcp xs ys = n1 ∧ lcp xs ys = n2 then 0 else if lcp xs ys = n1 then -1 else if lcp xs ys = n2 then 1 else if xs.getD (lcp xs ys) 0 < ys.getD (lcp xs ys) 0 then -1 else 1) := by show _ = _; unfold bcmp; rw [l1, l2]
  clear h1 h2 l1 l2 m1 m2
  generalize hV : bcmp xs ys = V at *
  clear hV
  generalize lcp xs ys = i at *
  by_cases e1 : i = n1
  · by_cases e2 : i = n2
    · subst e1; subst e2
      have hR : Hid (V = 0) := by show _ = _; rw [hB.out]; simp
      rw [hR.out]
      clear hR
      go_enter Tryd.func19, Tryd.ntmps19
      go_wp2_with (go_at_call 33; refine hC.out.mono ?_; rintro e w' ⟨rfl, k, rfl⟩)
      go_ret
      exact ⟨rfl, _, rfl⟩
    · subst e1
      have hR : Hid (V = -1) := by show _ = _; rw [hB.out]; simp [e2]
      have j2 : (i : Int) ≠ (n2 : Int) := by omega
      rw [hR.out]
      clear hR e2
      go_enter Tryd.func19, Tryd.ntmps19
      go_wp2_with (go_at_call 33; refine hC.out.mono ?_; rintro e w' ⟨rfl, k, rfl⟩)
      go_ret
      exact ⟨rfl, _, rfl⟩
  · have j1 : (i : Int) ≠ (n1 : Int) := by omega
    by_cases e2 : i = n2
    · subst e2
      have hR : Hid (V = 1) := by show _ = _; rw [hB.out]; simp [e1]
      rw [hR.out]
      clear hR e1
      go_enter Tryd.func19, Tryd.ntmps19
      go_wp2_with (go_at_call 33; refine hC.out.mono ?_; rintro e w' ⟨rfl, k, rfl⟩)
      go_ret
      exact ⟨rfl, _, rfl⟩
    · have j2 : (i : Int) ≠ (n2 : Int) := by omega
      obtain ⟨p, rfl, hp⟩ := H1.out.cellN (i := i) (by rw [L1.out]; omega)
      obtain ⟨q, rfl, hq⟩ := H2.out.cellN (i := i) (by rw [L2.out]; omega)
      have k1 : (i : Int) < (n1 : Int) := by omega
      have k2 : (i : Int) < (n2 : Int) := by omega
      have hR : Hid (V = if xs.getD i 0 < ys.getD i 0 then -1 else 1) := by show _ = _; rw [hB.out]; simp [e1, e2]
      generalize xs.getD i 0 = u at *
      generalize ys.getD i 0 = v at *
      by_cases e3 : u < v
      · have j3 : (u : Int) < (v : Int) := by omega
        rw [hR.out, if_pos e3]
        clear hR e1 e2 e3 hB
        go_enter Tryd.func19, Tryd.ntmps19
        go_wp2_with (go_at_call 33; refine hC.out.mono ?_; rintro e w' ⟨rfl, k, rfl⟩)
        go_quiet (fail)
        go_wp2_with fail
        go_ret
        exact ⟨rfl, _, World.drewN_drewN _ _ _⟩
      · have j3 : ¬ (u : Int) < (v : Int) := by omega
        rw [hR.out, if_neg e3]
        clear hR e1 e2 e3 hB
        go_enter Tryd.func19, Tryd.ntmps19
        go_wp2_with (go_at_call 33; refine hC.out.mono ?_; rintro e w' ⟨rfl, k, rfl⟩)
        go_quiet (fail)
        go_wp2_with fail
        go_ret
        exact ⟨rfl, _, World.drewN_drewN _ _ _⟩
theorem ref_same (w : World) (a1 a2 : Option Addr) (n1 c1 n2 c2 : Nat) (xs ys : List Nat) (h1 : BytesAt w a1 xs) (h2 : BytesAt w a2 ys) (l1 : xs.length = n1) (l2 : ys.length = n2) (m1 : n1 ≤ maxLen) (m2 : n2 ≤ maxLen) : Calls Tryd.prog 10 #[.slice a1 n1 c1, .slice a2 n2 c2] w fun e w' => e = .returned (.bool (decide (xs = ys))) ∧ ∃ k, w' = w.drewN k := by
  have hC := Lib.hid (ref_cmp w a1 a2 n1 c1 n2 c2 xs ys h1 h2 l1 l2 m1 m2)
  have hz := bcmp_zero xs ys
  clear h1 h2 l1 l2 m1 m2
  by_cases e : xs = ys
  · have h0 : Hid (bcmp xs ys = 0) := hz.2 e
    have hR : Hid (decide (xs = ys) = true) := by show _ = _; simp [e]
    rw [hR.out]
    clear hz e hR
    go_enter Tryd.func10, Tryd.ntmps10
    go_wp2_with (go_at_call 19; refine hC.out.mono ?_; rintro e w' ⟨rfl, k, rfl⟩; rw [h0.out])
    go_ret
    exact ⟨rfl, _, rfl⟩
  · have h0 : bcmp xs ys ≠ 0 := fun q => e (hz.1 q)
    have h1 : (bcmp xs ys == 0) = false := by simpa using h0
    have hR : Hid (decide (xs = ys) = false) := by show _ = _; simp [e]
    rw [hR.out]
    clear hz e hR h0
    generalize bcmp xs ys = V at *
    go_enter Tryd.func10, Tryd.ntmps10
    go_wp2_with (go_at_call 19; refine hC.out.mono ?_; rintro e w' ⟨rfl, k, rfl⟩)
    go_ret
    exact ⟨rfl, _, rfl⟩
theorem add0 (g j : Nat) : (⟨g, 0, none⟩ : Addr).add j = ⟨g, j, none⟩ := by
  simp [Addr.add]; omega
theorem made_cells (n : Nat) (z : Value) (hz : z.cells = #[z]) : madeCells z.cells (n * 1) = (List.replicate n z).toArray := by
  rw [hz]
  unfold madeCells
  apply Array.ext
  · simp
  · intro i h1 h2; simp [Nat.mod_one]
theorem u8_info : ∃ i, Tryd.prog.info? 5 = some i ∧ i.zero = some (.int .u8 0) ∧ i.size = 1 ∧ i.bytes = 1 := by
  have h := cloneB_info
  cases hi : Tryd.prog.info? 5 with
  | none => rw [hi] at h; simp at h
  | some i => rw [hi] at h; simp at h; exact ⟨i, rfl, h.1, h.2.1, h.2.2⟩
/-- make([]byte, n) -/
theorem make_u8 (w : World) (n : Nat) (hn : n ≤ 140737488355328) : (Instr.makeSlice 25 (.int .i64 (n : Nat)) (.int .i64 (n : Nat))).run Tryd.prog w = .ok (.slice (some ⟨w.heap.size, 0, none⟩) n n) (w.alloc (.cells (List.replicate n (.int .u8 0)).toArray 5)) := by
  obtain ⟨i, h1, h2, h3, h4⟩ := u8_info
  have := run_make (P := Tryd.prog) w _ _ i _ cloneB_under h1 h2 .i64 .i64 (n : Nat) (n : Nat) (by omega) (by omega) (by rw [h4]; omega) (by omega)
  rw [this, h3]
  simp only [Int.toNat_natCast]
  rw [made_cells n _ rfl]
/-- bytes that were made -/
def gotPost (bs : List Nat) (w : World) (e : Ending) (w' : World) : Prop := ∃ a c, e = .returned (.slice a bs.length c) ∧ BytesAt w' a bs ∧ Below w.heap.size w w'
section
variable {w w' : World}
/-- bytes over the meter's turn -/
theorem bytes_keep {a : Option Addr} {bs : List Nat} (h : BytesAt w a bs) {T : Nat → Prop} (hm : Mod T w w') (hT : ∀ p : Addr, a = some p → ¬ T p.block) : BytesAt w' a bs :=
  ⟨h.1, fun i hi => by
    obtain ⟨p, rfl, h1, h2⟩ := h.2 i hi
    have hb : (p.add i).block = p.block := by unfold Addr.add; split <;> rfl
    have := hm.same p.block (by rw [← hb]; exact h1) (hT p rfl)
    refine ⟨p, rfl, Nat.lt_of_lt_of_le h1 hm.size, ?_⟩
    rw [← h2]
    unfold World.cell?
    rw [hb, this]⟩
end
/-- one byte that the walk has just laid -/
theorem byte_new (w : World) (b : Nat) (hb : b < 256) (t : TypeId) (fr : Nat × Nat) : BytesAt (w.alloc (.cells #[.int .u8 (b : Nat)] t fr)) (some ⟨w.heap.size, 0, none⟩) [b] := by
  refine ⟨by simp; exact hb, fun i hi => ⟨_, rfl, ?_, ?_⟩⟩
  · rw [add0]; simp
  · obtain rfl : i = 0 := by simpa using hi
    rw [add0]
    have := Joins.cell_of_block (heap_alloc_new w (.cells #[.int .u8 (b : Nat)] t fr)) 0
    rw [this]; rfl
theorem BytesAt.below {w w' : World} {a : Option Addr} {bs : List Nat} (h : BytesAt w a bs) (hb : Below w.heap.size w w') : BytesAt w' a bs := bytes_keep h (Mod.of_below (S := fun _ => False) hb) (fun _ _ e => e)
theorem BytesAt.drewN {w : World} {a : Option Addr} {bs : List Nat} (h : BytesAt w a bs) (n : Nat) : BytesAt (w.drewN n) a bs := ⟨h.1, h.2⟩
/-- a slice that came in: its bytes -/
structure In8 (w : World) (a : Option Addr) (n c : Nat) (bs : List Nat) : Prop where
  len : bs.length = n
  at_ : BytesAt w a bs
  cap : n ≤ 140737488355328
  nil : a = none → n = 0
section
variable {w w' : World} {a : Option Addr} {n c : Nat} {bs : List Nat}
theorem In8.below (h : In8 w a n c bs) (hb : Below w.heap.size w w') : In8 w' a n c bs := ⟨h.len, h.at_.below hb, h.cap, h.nil⟩
theorem In8.drewN (h : In8 w a n c bs) (k : Nat) : In8 (w.drewN k) a n c bs := ⟨h.len, h.at_.drewN k, h.cap, h.nil⟩
end
end Go.Proofs.YtbmefmfogdjecaaDoor
/- Numbers as bytes, the greatest first: uenc.Most, Put; the document's Most, Put. -/
namespace Go.Proofs.YtbmefmfogdjecaaDoor
open Go.RowKit
/-- a number's bytes, the greatest first -/
def be (W n : Nat) : List Nat := (List.range W).map fun i => n / 256 ^ (W - 1 - i) % 256
theorem be_len (W n : Nat) : (be W n).length = W := by simp [be]
theorem be_lt (W n : Nat) : ∀ x ∈ be W n, x < 256 := fun x hx => by
  obtain ⟨i, _, rfl⟩ := List.mem_map.1 hx
  omega
theorem be_get {W n i : Nat} (h : i < W) : (be W n)[i]? = some (n / 256 ^ (W - 1 - i) % 256) := by simp [be, h]
/-- bytes and whether they may be -/
def put2 (bs : List Nat) (r : Nat) (w : World) (e : Ending) (w' : World) : Prop := ∃ v bo, e = .returned (.tuple #[v, .int .i64 (r : Nat)]) ∧ Own 5 w' v (bV bs) bo ∧ Below w.heap.size w w' ∧ (bo = none ∨ ∃ g, bo = some g ∧ w.heap.size ≤ g)
def retIs (v : Value) (w : World) (e : Ending) (w' : World) : Prop := e = .returned v ∧ w' = w
theorem put2_no (r : Nat) (w : World) : put2 [] r w (.returned (.tuple #[.slice none 0 0, .int .i64 (r : Nat)])) w := ⟨_, none, rfl, Own.nil _ _, Below.refl _ _, Or.inl rfl⟩
set_option maxRecDepth 100000 in
theorem u_width_1 (w : World) : Calls Tryd.prog 60 #[.int .i64 1] w (retIs (.bool true) w) := by
  go_enter Tryd.func60, Tryd.ntmps60
  go_wp2_with fail
  go_ret
  exact ⟨rfl, rfl⟩
set_option maxRecDepth 100000 in
theorem u_most_1 (w : World) : Calls Tryd.prog 52 #[.int .i64 1] w (retIs (.tuple #[.int .u64 255, .int .i64 0]) w) := by
  go_enter Tryd.func52, Tryd.ntmps52
  go_wp2_with (go_at_call 60; refine (u_width_1 _).mono ?_; rintro e w1 ⟨rfl, rfl⟩)
  go_ret2
  exact ⟨rfl, rfl⟩
set_option maxRecDepth 100000 in
theorem d_most_1 (w : World) : Calls Tryd.prog 55 #[.int .i64 1] w (retIs (.tuple #[.int .u64 255, .int .i64 0]) w) := by
  go_enter Tryd.func55, Tryd.ntmps55
  go_wp2_with fail
  go_ret2
  exact ⟨rfl, rfl⟩

set_option maxRecDepth 100000 in
theorem u_width_2 (w : World) : Calls Tryd.prog 60 #[.int .i64 2] w (retIs (.bool true) w) := by
  go_enter Tryd.func60, Tryd.ntmps60
  go_wp2_with fail
  go_ret
  exact ⟨rfl, rfl⟩
set_option maxRecDepth 100000 in
theorem u_most_2 (w : World) : Calls Tryd.prog 52 #[.int .i64 2] w (retIs (.tuple #[.int .u64 65535, .int .i64 0]) w) := by
  go_enter Tryd.func52, Tryd.ntmps52
  go_wp2_with (go_at_call 60; refine (u_width_2 _).mono ?_; rintro e w1 ⟨rfl, rfl⟩)
  go_ret2
  exact ⟨rfl, rfl⟩
set_option maxRecDepth 100000 in
theorem d_most_2 (w : World) : Calls Tryd.prog 55 #[.int .i64 2] w (retIs (.tuple #[.int .u64 65535, .int .i64 0]) w) := by
  go_enter Tryd.func55, Tryd.ntmps55
  go_wp2_with fail
  go_ret2
  exact ⟨rfl, rfl⟩

set_option maxRecDepth 100000 in
theorem u_width_4 (w : World) : Calls Tryd.prog 60 #[.int .i64 4] w (retIs (.bool true) w) := by
  go_enter Tryd.func60, Tryd.ntmps60
  go_wp2_with fail
  go_ret
  exact ⟨rfl, rfl⟩
set_option maxRecDepth 100000 in
theorem u_most_4 (w : World) : Calls Tryd.prog 52 #[.int .i64 4] w (retIs (.tuple #[.int .u64 4294967295, .int .i64 0]) w) := by
  go_enter Tryd.func52, Tryd.ntmps52
  go_wp2_with (go_at_call 60; refine (u_width_4 _).mono ?_; rintro e w1 ⟨rfl, rfl⟩)
  go_ret2
  exact ⟨rfl, rfl⟩
set_option maxRecDepth 100000 in
theorem d_most_4 (w : World) : Calls Tryd.prog 55 #[.int .i64 4] w (retIs (.tuple #[.int .u64 4294967295, .int .i64 0]) w) := by
  go_enter Tryd.func55, Tryd.ntmps55
  go_wp2_with fail
  go_ret2
  exact ⟨rfl, rfl⟩

set_option maxRecDepth 100000 in
theorem u_width_8 (w : World) : Calls Tryd.prog 60 #[.int .i64 8] w (retIs (.bool true) w) := by
  go_enter Tryd.func60, Tryd.ntmps60
  go_wp2_with fail
  go_ret
  exact ⟨rfl, rfl⟩
set_option maxRecDepth 100000 in
theorem u_most_8 (w : World) : Calls Tryd.prog 52 #[.int .i64 8] w (retIs (.tuple #[.int .u64 18446744073709551615, .int .i64 0]) w) := by
  go_enter Tryd.func52, Tryd.ntmps52
  go_wp2_with (go_at_call 60; refine (u_width_8 _).mono ?_; rintro e w1 ⟨rfl, rfl⟩)
  go_ret2
  exact ⟨rfl, rfl⟩
set_option maxRecDepth 100000 in
theorem d_most_8 (w : World) : Calls Tryd.prog 55 #[.int .i64 8] w (retIs (.tuple #[.int .u64 18446744073709551615, .int .i64 0]) w) := by
  go_enter Tryd.func55, Tryd.ntmps55
  go_wp2_with fail
  go_ret2
  exact ⟨rfl, rfl⟩
/-- a slice of W bytes, of which i are written -/
def BeW (w : World) (g W : Nat) (L : List Nat) (wr : World) : Prop := L.length = W ∧ wr.heap[g]? = some (.cells (bV L).toArray 5 (0, 0)) ∧ Below w.heap.size w wr ∧ w.heap.size ≤ g
theorem BeW.new (w : World) (W : Nat) : BeW w w.heap.size W (List.replicate W 0) (w.alloc (.cells (List.replicate W (.int .u8 0)).toArray 5)) := ⟨by simp, by rw [heap_alloc_new]; simp [bV], (Below.refl _ w).alloc (Nat.le_refl _) _, Nat.le_refl _⟩
theorem bV_lenF (L : List Nat) : (bV L).length = L.length := by simp [bV]
theorem bV_setF (L : List Nat) (i x : Nat) : (bV L).set i (.int .u8 (x : Nat)) = bV (L.set i x) := by simp [bV, List.map_set]
theorem BeW.set {w : World} {g W : Nat} {L : List Nat} {wr : World} (h : BeW w g W L wr) (i x : Nat) : BeW w g W (L.set i x) (wr.setCell ⟨g, i, none⟩ (.int .u8 (x : Nat))) := by
  obtain ⟨h0, h1, h2, h3⟩ := h
  refine ⟨by simpa using h0, ?_, h2.setCell h3 _, h3⟩
  rw [setCell_list _ _ _ _ _ _ h1, setRow_heap _ _ _ _ _ _ h1, bV_setF]
theorem BeW.cell {w : World} {g W : Nat} {L : List Nat} {wr : World} (h : BeW w g W L wr) {i : Nat} (hi : i < W) : (∃ u, wr.cell? ⟨g, i, none⟩ = some u) := by
  obtain ⟨h0, h1, h2, h3⟩ := h
  exact ⟨_, (cell_of_blk h1 i).trans (List.getElem?_eq_getElem (by rw [bV_lenF, h0]; exact hi))⟩
theorem BeW.fin {w : World} {g W n : Nat} {wr : World} (h : BeW w g W (be W n) wr) (hW : W ≤ 8) : put2 (be W n) 0 w (.returned (.tuple #[.slice (some ⟨g, 0, none⟩) W W, .int .i64 0])) wr := by
  obtain ⟨h0, h1, h2, h3⟩ := h
  refine ⟨_, some g, rfl, Or.inr ⟨_, _, _, rfl, by rw [bV_lenF, h0], h1, by rw [bV_lenF, h0]; exact Nat.le_refl _, by have : maxLen = 9223372036854775807 := rfl; omega, by simp [bV_lenF, h0], by simp⟩, h2, Or.inr ⟨_, rfl, h3⟩⟩
/-- from the front -/
def beTo (W n i : Nat) : List Nat := (be W n).take i ++ List.replicate (W - i) 0
theorem beTo_zero (W n : Nat) : beTo W n 0 = List.replicate W 0 := by simp [beTo]
theorem beTo_all (W n : Nat) : beTo W n W = be W n := by
  have := List.take_length (l := be W n)
  rw [be_len] at this
  simp [beTo, this]
theorem beTo_step {W n i : Nat} (h : i < W) : (beTo W n i).set i (n / 256 ^ (W - 1 - i) % 256) = beTo W n (i + 1) := by
  apply List.ext_getElem?
  intro j
  simp only [beTo, List.getElem?_set, List.getElem?_append, List.length_take, List.length_append, be_len, List.length_replicate, List.getElem?_take, List.getElem?_replicate]
  by_cases e : i = j
  · subst e
    simp [be_get h, show i < W by omega, show i < min (i + 1) W by omega]
    omega
  · by_cases h1 : j < i
    · simp [e, show j < min i W by omega, show j < min (i + 1) W by omega, h1, show j < i + 1 by omega]
    · simp [e, show ¬ j < min i W by omega, show ¬ j < min (i + 1) W by omega]
      by_cases h2 : j < W
      · rw [if_pos (by omega), if_pos (by omega)]
      · rw [if_neg (by omega), if_neg (by omega)]
/-- from the back -/
def beFrom (W n i : Nat) : List Nat := List.replicate i 0 ++ (be W n).drop i
theorem beFrom_all (W n : Nat) : beFrom W n 0 = be W n := by simp [beFrom]
theorem beFrom_none (W n : Nat) : beFrom W n W = List.replicate W 0 := by simp [beFrom, be_len]
theorem beFrom_step {W n i : Nat} (h : i < W) : (beFrom W n (i + 1)).set i (n / 256 ^ (W - 1 - i) % 256) = beFrom W n i := by
  apply List.ext_getElem?
  intro j
  simp only [beFrom, List.getElem?_set, List.getElem?_append, List.length_append, List.length_drop, be_len, List.length_replicate, List.getElem?_drop, List.getElem?_replicate]
  by_cases e : i = j
  · subst e
    simp [be_get h]
    omega
  · by_cases h1 : j < i
    · simp [e, h1, show j < i + 1 by omega]
    · simp only [e, if_false, h1, show ¬ j < i + 1 by omega]
      congr 1; omega
theorem shr_byte (n j : Nat) : ((n : Int) / 2 ^ (8 * j)) = ((n / 256 ^ j : Nat) : Int) := by
  rw [Int.pow_mul]; norm_cast
set_option maxHeartbeats 1000000 in
set_option maxRecDepth 100000 in
theorem u_put (w : World) (W n M : Nat) (h1 : 1 ≤ W) (hW : W ≤ 8) (hn : n < 18446744073709551616) (hM : M < 18446744073709551616) (hMost : ∀ w, Calls Tryd.prog 52 #[.int .i64 (W : Nat)] w (retIs (.tuple #[.int .u64 (M : Nat), .int .i64 0]) w)) :
    Calls Tryd.prog 34 #[.int .i64 (W : Nat), .int .u64 (n : Nat)] w (put2 (if n > M then [] else be W n) (if n > M then 8 else 0) w) := by
  have hMo := Lib.hid hMost
  have hmk : ∀ w, (Instr.makeSlice 25 (.int .i64 (W : Nat)) (.int .i64 (W : Nat))).run Tryd.prog w = .ok (.slice (some ⟨w.heap.size, 0, none⟩) W W) (w.alloc (.cells (List.replicate W (.int .u8 0)).toArray 5)) := fun w => make_u8 w W (by omega)
  clear hMost
  by_cases hb : n > M
  · rw [if_pos hb, if_pos hb]
    have hb1 : (M : Int) < (n : Int) := by omega
    go_enter Tryd.func34, Tryd.ntmps34
    go_wp2_with (go_at_call 52; refine (hMo.out _).mono ?_; rintro e w1 ⟨rfl, rfl⟩)
    go_ret2
    exact put2_no 8 _
  · rw [if_neg hb, if_neg hb]
    have hb1 : ¬ (M : Int) < (n : Int) := by omega
    go_enter Tryd.func34, Tryd.ntmps34
    go_wp2_with (go_at_call 52; refine (hMo.out _).mono ?_; rintro e w1 ⟨rfl, rfl⟩)
    have hO : Hid (BeW w1 w1.heap.size W (beTo W n 0) (w1.alloc (.cells (List.replicate W (.int .u8 0)).toArray 5))) := by rw [beTo_zero]; exact BeW.new w1 W
    simp only [List.toArray_replicate] at hO
    generalize (w1.alloc (.cells (Array.replicate W (.int .u8 0)) 5)) = w2 at *
    go_loopw [27, 9] (fun vi v4 wr => ∃ i : Nat, vi = .int .i64 (i : Nat) ∧ i ≤ W ∧ Hid (BeW w1 w1.heap.size W (beTo W n i) wr)) (fun vi _ _ => (W - intOf vi).toNat)
    case atStart => exact ⟨0, rfl, by omega, hO⟩
    case round =>
      clear hO
      obtain ⟨i, rfl, hi, HO⟩ := hrel
      by_cases hlt : i < W
      · have hfr := frozen_of_blk HO.out.2.1 i
        obtain ⟨u, hcell2⟩ := HO.out.cell hlt
        obtain ⟨j, hj⟩ : ∃ j, j = W - 1 - i := ⟨_, rfl⟩
        obtain ⟨q, hq⟩ : ∃ q, q = n / 256 ^ j := ⟨_, rfl⟩
        obtain ⟨x, hx⟩ : ∃ x, x = q % 256 := ⟨_, rfl⟩
        have hst := HO.out.set i x
        rw [hx, hq, hj, beTo_step hlt, ← hj, ← hq, ← hx] at hst
        replace hst := Lib.hid hst
        have hlt2 : (i : Int) < (W : Int) := by omega
        have hW8 : (W : Int) ≤ 8 := by omega
        have hv : ((n : Int) / 2 ^ (8 * (W - 1 - i)) % 256) = ((x : Nat) : Int) := by rw [shr_byte, ← hj, ← hq, hx]; omega
        clear hj hx hq
        go_wp2_with fail
        refine ⟨⟨i + 1, rfl, hlt, ?_⟩, ?_⟩
        · exact hst
        · simp only [intOf]; omega
      · have hlt2 : ¬ (i : Int) < (W : Int) := by omega
        obtain rfl : i = W := by omega
        rw [beTo_all] at HO
        have hE := Lib.hid (HO.out.fin hW)
        clear HO hmk hMo
        go_wp2_with fail
        go_ret2
        exact hE.out
set_option maxHeartbeats 1000000 in
set_option maxRecDepth 100000 in
/-- the document's -/
theorem d_put (w : World) (W n M : Nat) (h1 : 1 ≤ W) (hW : W ≤ 8) (hn : n < 18446744073709551616) (hM : M < 18446744073709551616) (hMost : ∀ w, Calls Tryd.prog 55 #[.int .i64 (W : Nat)] w (retIs (.tuple #[.int .u64 (M : Nat), .int .i64 0]) w)) :
    Calls Tryd.prog 39 #[.int .i64 (W : Nat), .int .u64 (n : Nat)] w (put2 (if n > M then [] else be W n) (if n > M then 8 else 0) w) := by
  have hMo := Lib.hid hMost
  have hmk : ∀ w, (Instr.makeSlice 25 (.int .i64 (W : Nat)) (.int .i64 (W : Nat))).run Tryd.prog w = .ok (.slice (some ⟨w.heap.size, 0, none⟩) W W) (w.alloc (.cells (List.replicate W (.int .u8 0)).toArray 5)) := fun w => make_u8 w W (by omega)
  clear hMost
  by_cases hb : n > M
  · rw [if_pos hb, if_pos hb]
    have hb1 : (M : Int) < (n : Int) := by omega
    go_enter Tryd.func39, Tryd.ntmps39
    go_wp2_with (go_at_call 55; refine (hMo.out _).mono ?_; rintro e w1 ⟨rfl, rfl⟩)
    go_ret2
    exact put2_no 8 _
  · rw [if_neg hb, if_neg hb]
    have hb1 : ¬ (M : Int) < (n : Int) := by omega
    have hW8 : (W : Int) ≤ 8 := by omega
    obtain ⟨bs, hbs⟩ : ∃ bs, bs = be W n := ⟨_, rfl⟩
    rw [← hbs]
    obtain ⟨n0, hn0⟩ : ∃ n0, n0 = n := ⟨_, rfl⟩
    rw [← hn0] at hbs
    go_enter Tryd.func39, Tryd.ntmps39
    go_wp2_with (go_at_call 55; refine (hMo.out _).mono ?_; rintro e w1 ⟨rfl, rfl⟩)
    have hO : Hid (BeW w1 w1.heap.size W (beFrom W n0 W) (w1.alloc (.cells (List.replicate W (.int .u8 0)).toArray 5))) := by rw [beFrom_none]; exact BeW.new w1 W
    simp only [List.toArray_replicate] at hO
    generalize (w1.alloc (.cells (Array.replicate W (.int .u8 0)) 5)) = w2 at *
    go_loopw [1, 9] (fun vn vi wr => ∃ i k : Nat, vi = .int .i64 ((i : Nat) - 1) ∧ i ≤ W ∧ vn = .int .u64 (k : Nat) ∧ Hid (k = n0 / 256 ^ (W - i)) ∧ Hid (BeW w1 w1.heap.size W (beFrom W n0 i) wr)) (fun _ vi _ => (intOf vi + 1).toNat)
    case atStart => exact ⟨W, n, rfl, Nat.le_refl _, rfl, by show _ = _; rw [Nat.sub_self, Nat.pow_zero, Nat.div_one, hn0], hO⟩
    case round =>
      clear hO
      obtain ⟨i, k, rfl, hi, rfl, hk, HO⟩ := hrel
      cases i with
      | zero =>
        rw [beFrom_all] at HO
        have hE := Lib.hid (HO.out.fin hW)
        rw [← hbs] at hE
        clear HO hmk hMo
        have ez : ((0 : Nat) : Int) - 1 = -1 := rfl
        rw [ez]
        go_wp2_with fail
        go_ret2
        exact hE.out
      | succ i =>
        have e1 : ((i + 1 : Nat) : Int) - 1 = (i : Int) := by omega
        rw [e1]
        have hlt : i < W := by omega
        have hfr := frozen_of_blk HO.out.2.1 i
        obtain ⟨u, hcell2⟩ := HO.out.cell hlt
        obtain ⟨x, hx⟩ : ∃ x, x = k % 256 := ⟨_, rfl⟩
        obtain ⟨q, hq⟩ : ∃ q, q = k / 256 := ⟨_, rfl⟩
        have hst := HO.out.set i x
        rw [hx, hk.out, show W - (i + 1) = W - 1 - i by omega, beFrom_step hlt, show W - 1 - i = W - (i + 1) by omega, ← hk.out, ← hx] at hst
        replace hst := Lib.hid hst
        have hkq : Hid (q = n0 / 256 ^ (W - i)) := by
          show _ = _
          rw [hq, hk.out, Nat.div_div_eq_div_mul, ← Nat.pow_succ, show (W - (i + 1)).succ = W - i by omega]
        have hlt2 : (i : Int) < (W : Int) := by omega
        have hk64 : k < 18446744073709551616 := by
          have := Nat.div_le_self n0 (256 ^ (W - (i + 1)))
          rw [hk.out]; omega
        have hrem : (k : Int).tmod 256 = (x : Nat) := by rw [Int.tmod_eq_emod_of_nonneg (by omega)]; omega
        have hquo : (k : Int).tdiv 256 = (q : Nat) := by rw [Int.tdiv_eq_ediv_of_nonneg (by omega)]; omega
        have hmod : (k : Int) % 256 = (x : Nat) := by omega
        have hdiv : (k : Int) / 256 = (q : Nat) := by omega
        have hx8 : x < 256 := by omega
        have hq64 : q < 18446744073709551616 := by omega
        clear hk hx hq hn0 hbs
        go_wp2_with fail
        exact ⟨⟨i, q, rfl, by omega, rfl, hkq, hst⟩, by simp only [intOf]; omega⟩
end Go.Proofs.YtbmefmfogdjecaaDoor
/- Numbers with a sign as bytes: ienc.Most, Put; the document's Most, Least, Put. -/
namespace Go.Proofs.YtbmefmfogdjecaaDoor
open Go.RowKit
set_option maxRecDepth 100000 in
theorem di_most_1 (w : World) : Calls Tryd.prog 57 #[.int .i64 1] w (retIs (.tuple #[.int .i64 127, .int .i64 0]) w) := by
  go_enter Tryd.func57, Tryd.ntmps57
  go_wp2_with fail
  go_ret2
  exact ⟨rfl, rfl⟩
set_option maxRecDepth 100000 in
theorem di_least_1 (w : World) : Calls Tryd.prog 56 #[.int .i64 1] w (retIs (.tuple #[.int .i64 (-127 - 1), .int .i64 0]) w) := by
  go_enter Tryd.func56, Tryd.ntmps56
  go_wp2_with (go_at_call 57; refine (di_most_1 _).mono ?_; rintro e w1 ⟨rfl, rfl⟩)
  go_ret2
  exact ⟨rfl, rfl⟩

set_option maxRecDepth 100000 in
theorem di_most_2 (w : World) : Calls Tryd.prog 57 #[.int .i64 2] w (retIs (.tuple #[.int .i64 32767, .int .i64 0]) w) := by
  go_enter Tryd.func57, Tryd.ntmps57
  go_wp2_with fail
  go_ret2
  exact ⟨rfl, rfl⟩
set_option maxRecDepth 100000 in
theorem di_least_2 (w : World) : Calls Tryd.prog 56 #[.int .i64 2] w (retIs (.tuple #[.int .i64 (-32767 - 1), .int .i64 0]) w) := by
  go_enter Tryd.func56, Tryd.ntmps56
  go_wp2_with (go_at_call 57; refine (di_most_2 _).mono ?_; rintro e w1 ⟨rfl, rfl⟩)
  go_ret2
  exact ⟨rfl, rfl⟩

set_option maxRecDepth 100000 in
theorem di_most_4 (w : World) : Calls Tryd.prog 57 #[.int .i64 4] w (retIs (.tuple #[.int .i64 2147483647, .int .i64 0]) w) := by
  go_enter Tryd.func57, Tryd.ntmps57
  go_wp2_with fail
  go_ret2
  exact ⟨rfl, rfl⟩
set_option maxRecDepth 100000 in
theorem di_least_4 (w : World) : Calls Tryd.prog 56 #[.int .i64 4] w (retIs (.tuple #[.int .i64 (-2147483647 - 1), .int .i64 0]) w) := by
  go_enter Tryd.func56, Tryd.ntmps56
  go_wp2_with (go_at_call 57; refine (di_most_4 _).mono ?_; rintro e w1 ⟨rfl, rfl⟩)
  go_ret2
  exact ⟨rfl, rfl⟩

set_option maxRecDepth 100000 in
theorem di_most_8 (w : World) : Calls Tryd.prog 57 #[.int .i64 8] w (retIs (.tuple #[.int .i64 9223372036854775807, .int .i64 0]) w) := by
  go_enter Tryd.func57, Tryd.ntmps57
  go_wp2_with fail
  go_ret2
  exact ⟨rfl, rfl⟩
set_option maxRecDepth 100000 in
theorem di_least_8 (w : World) : Calls Tryd.prog 56 #[.int .i64 8] w (retIs (.tuple #[.int .i64 (-9223372036854775807 - 1), .int .i64 0]) w) := by
  go_enter Tryd.func56, Tryd.ntmps56
  go_wp2_with (go_at_call 57; refine (di_most_8 _).mono ?_; rintro e w1 ⟨rfl, rfl⟩)
  go_ret2
  exact ⟨rfl, rfl⟩
set_option maxRecDepth 100000 in
theorem i_widths (w : World) : Calls Tryd.prog 62 #[] w (fun e w' => e = .returned (.agg #[.int .i64 1, .int .i64 2, .int .i64 4, .int .i64 8]) ∧ Below w.heap.size w w') := by
  have hinf : (Tryd.prog.info? 88).map (·.size) = some 4 := by kernel_rfl
  go_enter Tryd.func62, Tryd.ntmps62
  go_wp2_with fail
  exact bodyPost_ret (v := (.agg #[.int .i64 1, .int .i64 2, .int .i64 4, .int .i64 8])) (results_cell_row Tryd.results62 _ _ w.heap.size 88 _ (0, 0) _ rfl (heap_alloc_new w _) Tryd.underlying88 rfl hinf) rfl ⟨rfl, (Below.refl _ w).alloc (Nat.le_refl _) _⟩

set_option maxRecDepth 100000 in
theorem i_limits (w : World) : Calls Tryd.prog 64 #[] w (fun e w' => e = .returned (.agg #[.int .i64 127, .int .i64 32767, .int .i64 2147483647, .int .i64 9223372036854775807]) ∧ Below w.heap.size w w') := by
  have hinf : (Tryd.prog.info? 91).map (·.size) = some 4 := by kernel_rfl
  go_enter Tryd.func64, Tryd.ntmps64
  go_wp2_with fail
  exact bodyPost_ret (v := (.agg #[.int .i64 127, .int .i64 32767, .int .i64 2147483647, .int .i64 9223372036854775807])) (results_cell_row Tryd.results64 _ _ w.heap.size 91 _ (0, 0) _ rfl (heap_alloc_new w _) Tryd.underlying91 rfl hinf) rfl ⟨rfl, (Below.refl _ w).alloc (Nat.le_refl _) _⟩
set_option maxHeartbeats 1000000 in
set_option maxRecDepth 100000 in
theorem i_index_1 (w : World) (g : Nat) (h0 : w.cell? ⟨g, 0, none⟩ = some (.int .i64 1)) (h1 : w.cell? ⟨g, 1, none⟩ = some (.int .i64 2)) (h2 : w.cell? ⟨g, 2, none⟩ = some (.int .i64 4)) (h3 : w.cell? ⟨g, 3, none⟩ = some (.int .i64 8)) : Calls Tryd.prog 63 #[.slice (some ⟨g, 0, none⟩) 4 4, .int .i64 1] w (retIs (.int .i64 0) w) := by
  go_enter Tryd.func63, Tryd.ntmps63
  go_wp2_with fail
  go_loopw [5, 8] (fun v5 v8 wr => ∃ i : Nat, v8 = .int .i64 (i : Nat) ∧ i ≤ 0 ∧ wr = w) (fun _ v8 _ => (4 - intOf v8).toNat)
  case atStart => exact ⟨0, rfl, by omega, rfl⟩
  case round =>
    obtain ⟨i, rfl, hi, rfl⟩ := hrel
    have hi : i = 0 ∨ i = 1 ∨ i = 2 ∨ i = 3 := by omega
    rcases hi with rfl | rfl | rfl | rfl
    all_goals first
      | omega
      | (simp only [Int.natCast_zero, Int.natCast_one, Int.cast_ofNat_Int]
         go_wp2_with fail
         first
         | (go_ret; exact ⟨rfl, rfl⟩)
         | (go_roundw
            · first | exact ⟨1, rfl, by omega, by first | rfl | trivial⟩ | exact ⟨2, rfl, by omega, by first | rfl | trivial⟩ | exact ⟨3, rfl, by omega, by first | rfl | trivial⟩
            · simp only [intOf]; omega))

set_option maxHeartbeats 1000000 in
set_option maxRecDepth 100000 in
theorem i_index_2 (w : World) (g : Nat) (h0 : w.cell? ⟨g, 0, none⟩ = some (.int .i64 1)) (h1 : w.cell? ⟨g, 1, none⟩ = some (.int .i64 2)) (h2 : w.cell? ⟨g, 2, none⟩ = some (.int .i64 4)) (h3 : w.cell? ⟨g, 3, none⟩ = some (.int .i64 8)) : Calls Tryd.prog 63 #[.slice (some ⟨g, 0, none⟩) 4 4, .int .i64 2] w (retIs (.int .i64 1) w) := by
  go_enter Tryd.func63, Tryd.ntmps63
  go_wp2_with fail
  go_loopw [5, 8] (fun v5 v8 wr => ∃ i : Nat, v8 = .int .i64 (i : Nat) ∧ i ≤ 1 ∧ wr = w) (fun _ v8 _ => (4 - intOf v8).toNat)
  case atStart => exact ⟨0, rfl, by omega, rfl⟩
  case round =>
    obtain ⟨i, rfl, hi, rfl⟩ := hrel
    have hi : i = 0 ∨ i = 1 ∨ i = 2 ∨ i = 3 := by omega
    rcases hi with rfl | rfl | rfl | rfl
    all_goals first
      | omega
      | (simp only [Int.natCast_zero, Int.natCast_one, Int.cast_ofNat_Int]
         go_wp2_with fail
         first
         | (go_ret; exact ⟨rfl, rfl⟩)
         | (go_roundw
            · first | exact ⟨1, rfl, by omega, by first | rfl | trivial⟩ | exact ⟨2, rfl, by omega, by first | rfl | trivial⟩ | exact ⟨3, rfl, by omega, by first | rfl | trivial⟩
            · simp only [intOf]; omega))

set_option maxHeartbeats 1000000 in
set_option maxRecDepth 100000 in
theorem i_index_4 (w : World) (g : Nat) (h0 : w.cell? ⟨g, 0, none⟩ = some (.int .i64 1)) (h1 : w.cell? ⟨g, 1, none⟩ = some (.int .i64 2)) (h2 : w.cell? ⟨g, 2, none⟩ = some (.int .i64 4)) (h3 : w.cell? ⟨g, 3, none⟩ = some (.int .i64 8)) : Calls Tryd.prog 63 #[.slice (some ⟨g, 0, none⟩) 4 4, .int .i64 4] w (retIs (.int .i64 2) w) := by
  go_enter Tryd.func63, Tryd.ntmps63
  go_wp2_with fail
  go_loopw [5, 8] (fun v5 v8 wr => ∃ i : Nat, v8 = .int .i64 (i : Nat) ∧ i ≤ 2 ∧ wr = w) (fun _ v8 _ => (4 - intOf v8).toNat)
  case atStart => exact ⟨0, rfl, by omega, rfl⟩
  case round =>
    obtain ⟨i, rfl, hi, rfl⟩ := hrel
    have hi : i = 0 ∨ i = 1 ∨ i = 2 ∨ i = 3 := by omega
    rcases hi with rfl | rfl | rfl | rfl
    all_goals first
      | omega
      | (simp only [Int.natCast_zero, Int.natCast_one, Int.cast_ofNat_Int]
         go_wp2_with fail
         first
         | (go_ret; exact ⟨rfl, rfl⟩)
         | (go_roundw
            · first | exact ⟨1, rfl, by omega, by first | rfl | trivial⟩ | exact ⟨2, rfl, by omega, by first | rfl | trivial⟩ | exact ⟨3, rfl, by omega, by first | rfl | trivial⟩
            · simp only [intOf]; omega))

set_option maxHeartbeats 1000000 in
set_option maxRecDepth 100000 in
theorem i_index_8 (w : World) (g : Nat) (h0 : w.cell? ⟨g, 0, none⟩ = some (.int .i64 1)) (h1 : w.cell? ⟨g, 1, none⟩ = some (.int .i64 2)) (h2 : w.cell? ⟨g, 2, none⟩ = some (.int .i64 4)) (h3 : w.cell? ⟨g, 3, none⟩ = some (.int .i64 8)) : Calls Tryd.prog 63 #[.slice (some ⟨g, 0, none⟩) 4 4, .int .i64 8] w (retIs (.int .i64 3) w) := by
  go_enter Tryd.func63, Tryd.ntmps63
  go_wp2_with fail
  go_loopw [5, 8] (fun v5 v8 wr => ∃ i : Nat, v8 = .int .i64 (i : Nat) ∧ i ≤ 3 ∧ wr = w) (fun _ v8 _ => (4 - intOf v8).toNat)
  case atStart => exact ⟨0, rfl, by omega, rfl⟩
  case round =>
    obtain ⟨i, rfl, hi, rfl⟩ := hrel
    have hi : i = 0 ∨ i = 1 ∨ i = 2 ∨ i = 3 := by omega
    rcases hi with rfl | rfl | rfl | rfl
    all_goals first
      | omega
      | (simp only [Int.natCast_zero, Int.natCast_one, Int.cast_ofNat_Int]
         go_wp2_with fail
         first
         | (go_ret; exact ⟨rfl, rfl⟩)
         | (go_roundw
            · first | exact ⟨1, rfl, by omega, by first | rfl | trivial⟩ | exact ⟨2, rfl, by omega, by first | rfl | trivial⟩ | exact ⟨3, rfl, by omega, by first | rfl | trivial⟩
            · simp only [intOf]; omega))
set_option maxHeartbeats 1000000 in
set_option maxRecDepth 100000 in
theorem i_most_1 (w : World) : Calls Tryd.prog 53 #[.int .i64 1] w (fun e w' => e = .returned (.tuple #[.int .i64 127, .int .i64 0]) ∧ Below w.heap.size w w') := by
  have hB0 := Lib.hid (Below.refl w.heap.size w)
  have iX : ∀ w, (Instr.index 91 (.agg #[.int .i64 127, .int .i64 32767, .int .i64 2147483647, .int .i64 9223372036854775807]) (.int .i64 0)).run Tryd.prog w = .ok (.int .i64 127) w := fun _ => by kernel_rfl
  go_enter Tryd.func53, Tryd.ntmps53
  go_wp2_with (first
    | (go_at_call 64; go_loud (refine (i_limits _).mono ?_); rintro e w2 ⟨rfl, q⟩; have hB2 := Lib.hid ((hB1.out.alloc hB1.out.size _).trans (q.mono (by have := hB1.out.size; simp; omega))); clear q)
    | (go_at_call 63; refine (i_index_1 _ _ (by simp) (by simp) (by simp) (by simp)).mono ?_; rintro e w3 ⟨rfl, rfl⟩)
    | (go_at_call 62; refine (i_widths _).mono ?_; rintro e w1 ⟨rfl, q⟩; have hB1 := Lib.hid (hB0.out.trans (q.mono hB0.out.size)); clear q))
  go_ret2
  exact ⟨rfl, hB2.out⟩

set_option maxHeartbeats 1000000 in
set_option maxRecDepth 100000 in
theorem i_most_2 (w : World) : Calls Tryd.prog 53 #[.int .i64 2] w (fun e w' => e = .returned (.tuple #[.int .i64 32767, .int .i64 0]) ∧ Below w.heap.size w w') := by
  have hB0 := Lib.hid (Below.refl w.heap.size w)
  have iX : ∀ w, (Instr.index 91 (.agg #[.int .i64 127, .int .i64 32767, .int .i64 2147483647, .int .i64 9223372036854775807]) (.int .i64 1)).run Tryd.prog w = .ok (.int .i64 32767) w := fun _ => by kernel_rfl
  go_enter Tryd.func53, Tryd.ntmps53
  go_wp2_with (first
    | (go_at_call 64; go_loud (refine (i_limits _).mono ?_); rintro e w2 ⟨rfl, q⟩; have hB2 := Lib.hid ((hB1.out.alloc hB1.out.size _).trans (q.mono (by have := hB1.out.size; simp; omega))); clear q)
    | (go_at_call 63; refine (i_index_2 _ _ (by simp) (by simp) (by simp) (by simp)).mono ?_; rintro e w3 ⟨rfl, rfl⟩)
    | (go_at_call 62; refine (i_widths _).mono ?_; rintro e w1 ⟨rfl, q⟩; have hB1 := Lib.hid (hB0.out.trans (q.mono hB0.out.size)); clear q))
  go_ret2
  exact ⟨rfl, hB2.out⟩

set_option maxHeartbeats 1000000 in
set_option maxRecDepth 100000 in
theorem i_most_4 (w : World) : Calls Tryd.prog 53 #[.int .i64 4] w (fun e w' => e = .returned (.tuple #[.int .i64 2147483647, .int .i64 0]) ∧ Below w.heap.size w w') := by
  have hB0 := Lib.hid (Below.refl w.heap.size w)
  have iX : ∀ w, (Instr.index 91 (.agg #[.int .i64 127, .int .i64 32767, .int .i64 2147483647, .int .i64 9223372036854775807]) (.int .i64 2)).run Tryd.prog w = .ok (.int .i64 2147483647) w := fun _ => by kernel_rfl
  go_enter Tryd.func53, Tryd.ntmps53
  go_wp2_with (first
    | (go_at_call 64; go_loud (refine (i_limits _).mono ?_); rintro e w2 ⟨rfl, q⟩; have hB2 := Lib.hid ((hB1.out.alloc hB1.out.size _).trans (q.mono (by have := hB1.out.size; simp; omega))); clear q)
    | (go_at_call 63; refine (i_index_4 _ _ (by simp) (by simp) (by simp) (by simp)).mono ?_; rintro e w3 ⟨rfl, rfl⟩)
    | (go_at_call 62; refine (i_widths _).mono ?_; rintro e w1 ⟨rfl, q⟩; have hB1 := Lib.hid (hB0.out.trans (q.mono hB0.out.size)); clear q))
  go_ret2
  exact ⟨rfl, hB2.out⟩

set_option maxHeartbeats 1000000 in
set_option maxRecDepth 100000 in
theorem i_most_8 (w : World) : Calls Tryd.prog 53 #[.int .i64 8] w (fun e w' => e = .returned (.tuple #[.int .i64 9223372036854775807, .int .i64 0]) ∧ Below w.heap.size w w') := by
  have hB0 := Lib.hid (Below.refl w.heap.size w)
  have iX : ∀ w, (Instr.index 91 (.agg #[.int .i64 127, .int .i64 32767, .int .i64 2147483647, .int .i64 9223372036854775807]) (.int .i64 3)).run Tryd.prog w = .ok (.int .i64 9223372036854775807) w := fun _ => by kernel_rfl
  go_enter Tryd.func53, Tryd.ntmps53
  go_wp2_with (first
    | (go_at_call 64; go_loud (refine (i_limits _).mono ?_); rintro e w2 ⟨rfl, q⟩; have hB2 := Lib.hid ((hB1.out.alloc hB1.out.size _).trans (q.mono (by have := hB1.out.size; simp; omega))); clear q)
    | (go_at_call 63; refine (i_index_8 _ _ (by simp) (by simp) (by simp) (by simp)).mono ?_; rintro e w3 ⟨rfl, rfl⟩)
    | (go_at_call 62; refine (i_widths _).mono ?_; rintro e w1 ⟨rfl, q⟩; have hB1 := Lib.hid (hB0.out.trans (q.mono hB0.out.size)); clear q))
  go_ret2
  exact ⟨rfl, hB2.out⟩
theorem wrap_uu (n : Nat) (h : n < 18446744073709551616) : IntKind.u64.wrap (wrap64 (n : Int)) = (n : Int) := by
  simp only [wrap64, IntKind.wrap]
  simp [IntKind.signed, IntKind.bits]
  omega
/-- a number with a sign as one without, the least being nought -/
def upBy (W M : Nat) (i : Int) : List Nat × Nat := if i > M ∨ i < -M - 1 then ([], 8) else (be W (i + M + 1).toNat, 0)
set_option maxHeartbeats 1000000 in
set_option maxRecDepth 100000 in
theorem i_put_1 (w : World) (i : Int) (h1 : -9223372036854775808 ≤ i) (h2 : i ≤ 9223372036854775807) : Calls Tryd.prog 36 #[.int .i64 1, .int .i64 i] w (put2 (upBy 1 127 i).1 (upBy 1 127 i).2 w) := by
  by_cases hb : i > 127 ∨ i < -127 - 1
  · have e : upBy 1 127 i = ([], 8) := if_pos hb
    rw [e]
    clear e
    by_cases hb1 : 127 < i
    · clear hb
      go_enter Tryd.func36, Tryd.ntmps36
      go_wp2_with (go_at_call 53; refine (i_most_1 _).mono ?_; rintro e w1 ⟨rfl, q⟩; have hB1 := Lib.hid q; clear q)
      go_ret2
      exact ⟨_, none, rfl, Own.nil _ _, hB1.out, Or.inl rfl⟩
    · have hb2 : i < -128 := by omega
      clear hb
      have hx : bits .xor .i64 (-1) 127 = -128 := by kernel_rfl
      have hsg : IntKind.i64.signed = true := rfl
      go_enter Tryd.func36, Tryd.ntmps36
      go_wp2_with (go_at_call 53; refine (i_most_1 _).mono ?_; rintro e w1 ⟨rfl, q⟩; have hB1 := Lib.hid q; clear q)
      go_ret2
      exact ⟨_, none, rfl, Own.nil _ _, hB1.out, Or.inl rfl⟩
  · have e : upBy 1 127 i = (be 1 (i + 127 + 1).toNat, 0) := if_neg hb
    rw [e]
    clear e
    have hb1 : i ≤ 127 := by omega
    have hb2 : -128 ≤ i := by omega
    obtain ⟨n, hn⟩ : ∃ n, n = (i + 127 + 1).toNat := ⟨_, rfl⟩
    rw [← hn]
    have hn2 : Hid ((n : Int) = i + 127 + 1) := by show _ = _; omega
    have hnB : n ≤ 255 := by omega
    have hx : bits .xor .i64 (-1) 127 = -128 := by kernel_rfl
    have hsg : IntKind.i64.signed = true := rfl
    have he : i + 128 = (n : Int) := by omega
    have hw2 : IntKind.u64.wrap (wrap64 (n : Int)) = (n : Int) := wrap_uu n (by omega)
    have hP := Lib.hid (fun w => u_put w 1 n 255 (by omega) (by omega) (by omega) (by omega) u_most_1)
    rw [if_neg (by omega), if_neg (by omega)] at hP
    clear hb hn
    go_enter Tryd.func36, Tryd.ntmps36
    go_wp2_with (first | (go_at_call 34; go_loud (refine (hP.out _).mono ?_); rintro e w2 ⟨v, bo, rfl, q1, q2, q3⟩; have Q1 := Lib.hid q1; have Q2 := Lib.hid (hB1.out.trans (q2.mono hB1.out.size)); have Q3 := Lib.hid q3; clear q1 q2 q3) | (go_at_call 53; refine (i_most_1 _).mono ?_; rintro e w1 ⟨rfl, q⟩; have hB1 := Lib.hid q; clear q))
    go_ret2
    exact ⟨v, bo, rfl, Q1.out, Q2.out, Q3.out.imp_right fun ⟨g, e, h⟩ => ⟨g, e, Nat.le_trans hB1.out.size h⟩⟩

set_option maxHeartbeats 1000000 in
set_option maxRecDepth 100000 in
theorem i_put_2 (w : World) (i : Int) (h1 : -9223372036854775808 ≤ i) (h2 : i ≤ 9223372036854775807) : Calls Tryd.prog 36 #[.int .i64 2, .int .i64 i] w (put2 (upBy 2 32767 i).1 (upBy 2 32767 i).2 w) := by
  by_cases hb : i > 32767 ∨ i < -32767 - 1
  · have e : upBy 2 32767 i = ([], 8) := if_pos hb
    rw [e]
    clear e
    by_cases hb1 : 32767 < i
    · clear hb
      go_enter Tryd.func36, Tryd.ntmps36
      go_wp2_with (go_at_call 53; refine (i_most_2 _).mono ?_; rintro e w1 ⟨rfl, q⟩; have hB1 := Lib.hid q; clear q)
      go_ret2
      exact ⟨_, none, rfl, Own.nil _ _, hB1.out, Or.inl rfl⟩
    · have hb2 : i < -32768 := by omega
      clear hb
      have hx : bits .xor .i64 (-1) 32767 = -32768 := by kernel_rfl
      have hsg : IntKind.i64.signed = true := rfl
      go_enter Tryd.func36, Tryd.ntmps36
      go_wp2_with (go_at_call 53; refine (i_most_2 _).mono ?_; rintro e w1 ⟨rfl, q⟩; have hB1 := Lib.hid q; clear q)
      go_ret2
      exact ⟨_, none, rfl, Own.nil _ _, hB1.out, Or.inl rfl⟩
  · have e : upBy 2 32767 i = (be 2 (i + 32767 + 1).toNat, 0) := if_neg hb
    rw [e]
    clear e
    have hb1 : i ≤ 32767 := by omega
    have hb2 : -32768 ≤ i := by omega
    obtain ⟨n, hn⟩ : ∃ n, n = (i + 32767 + 1).toNat := ⟨_, rfl⟩
    rw [← hn]
    have hn2 : Hid ((n : Int) = i + 32767 + 1) := by show _ = _; omega
    have hnB : n ≤ 65535 := by omega
    have hx : bits .xor .i64 (-1) 32767 = -32768 := by kernel_rfl
    have hsg : IntKind.i64.signed = true := rfl
    have he : i + 32768 = (n : Int) := by omega
    have hw2 : IntKind.u64.wrap (wrap64 (n : Int)) = (n : Int) := wrap_uu n (by omega)
    have hP := Lib.hid (fun w => u_put w 2 n 65535 (by omega) (by omega) (by omega) (by omega) u_most_2)
    rw [if_neg (by omega), if_neg (by omega)] at hP
    clear hb hn
    go_enter Tryd.func36, Tryd.ntmps36
    go_wp2_with (first | (go_at_call 34; go_loud (refine (hP.out _).mono ?_); rintro e w2 ⟨v, bo, rfl, q1, q2, q3⟩; have Q1 := Lib.hid q1; have Q2 := Lib.hid (hB1.out.trans (q2.mono hB1.out.size)); have Q3 := Lib.hid q3; clear q1 q2 q3) | (go_at_call 53; refine (i_most_2 _).mono ?_; rintro e w1 ⟨rfl, q⟩; have hB1 := Lib.hid q; clear q))
    go_ret2
    exact ⟨v, bo, rfl, Q1.out, Q2.out, Q3.out.imp_right fun ⟨g, e, h⟩ => ⟨g, e, Nat.le_trans hB1.out.size h⟩⟩

set_option maxHeartbeats 1000000 in
set_option maxRecDepth 100000 in
theorem i_put_4 (w : World) (i : Int) (h1 : -9223372036854775808 ≤ i) (h2 : i ≤ 9223372036854775807) : Calls Tryd.prog 36 #[.int .i64 4, .int .i64 i] w (put2 (upBy 4 2147483647 i).1 (upBy 4 2147483647 i).2 w) := by
  by_cases hb : i > 2147483647 ∨ i < -2147483647 - 1
  · have e : upBy 4 2147483647 i = ([], 8) := if_pos hb
    rw [e]
    clear e
    by_cases hb1 : 2147483647 < i
    · clear hb
      go_enter Tryd.func36, Tryd.ntmps36
      go_wp2_with (go_at_call 53; refine (i_most_4 _).mono ?_; rintro e w1 ⟨rfl, q⟩; have hB1 := Lib.hid q; clear q)
      go_ret2
      exact ⟨_, none, rfl, Own.nil _ _, hB1.out, Or.inl rfl⟩
    · have hb2 : i < -2147483648 := by omega
      clear hb
      have hx : bits .xor .i64 (-1) 2147483647 = -2147483648 := by kernel_rfl
      have hsg : IntKind.i64.signed = true := rfl
      go_enter Tryd.func36, Tryd.ntmps36
      go_wp2_with (go_at_call 53; refine (i_most_4 _).mono ?_; rintro e w1 ⟨rfl, q⟩; have hB1 := Lib.hid q; clear q)
      go_ret2
      exact ⟨_, none, rfl, Own.nil _ _, hB1.out, Or.inl rfl⟩
  · have e : upBy 4 2147483647 i = (be 4 (i + 2147483647 + 1).toNat, 0) := if_neg hb
    rw [e]
    clear e
    have hb1 : i ≤ 2147483647 := by omega
    have hb2 : -2147483648 ≤ i := by omega
    obtain ⟨n, hn⟩ : ∃ n, n = (i + 2147483647 + 1).toNat := ⟨_, rfl⟩
    rw [← hn]
    have hn2 : Hid ((n : Int) = i + 2147483647 + 1) := by show _ = _; omega
    have hnB : n ≤ 4294967295 := by omega
    have hx : bits .xor .i64 (-1) 2147483647 = -2147483648 := by kernel_rfl
    have hsg : IntKind.i64.signed = true := rfl
    have he : i + 2147483648 = (n : Int) := by omega
    have hw2 : IntKind.u64.wrap (wrap64 (n : Int)) = (n : Int) := wrap_uu n (by omega)
    have hP := Lib.hid (fun w => u_put w 4 n 4294967295 (by omega) (by omega) (by omega) (by omega) u_most_4)
    rw [if_neg (by omega), if_neg (by omega)] at hP
    clear hb hn
    go_enter Tryd.func36, Tryd.ntmps36
    go_wp2_with (first | (go_at_call 34; go_loud (refine (hP.out _).mono ?_); rintro e w2 ⟨v, bo, rfl, q1, q2, q3⟩; have Q1 := Lib.hid q1; have Q2 := Lib.hid (hB1.out.trans (q2.mono hB1.out.size)); have Q3 := Lib.hid q3; clear q1 q2 q3) | (go_at_call 53; refine (i_most_4 _).mono ?_; rintro e w1 ⟨rfl, q⟩; have hB1 := Lib.hid q; clear q))
    go_ret2
    exact ⟨v, bo, rfl, Q1.out, Q2.out, Q3.out.imp_right fun ⟨g, e, h⟩ => ⟨g, e, Nat.le_trans hB1.out.size h⟩⟩

set_option maxHeartbeats 1000000 in
set_option maxRecDepth 100000 in
theorem i_put_8 (w : World) (i : Int) (h1 : -9223372036854775808 ≤ i) (h2 : i ≤ 9223372036854775807) : Calls Tryd.prog 36 #[.int .i64 8, .int .i64 i] w (put2 (upBy 8 9223372036854775807 i).1 (upBy 8 9223372036854775807 i).2 w) := by
  by_cases hb : i > 9223372036854775807 ∨ i < -9223372036854775807 - 1
  · have e : upBy 8 9223372036854775807 i = ([], 8) := if_pos hb
    rw [e]
    clear e
    by_cases hb1 : 9223372036854775807 < i
    · clear hb
      go_enter Tryd.func36, Tryd.ntmps36
      go_wp2_with (go_at_call 53; refine (i_most_8 _).mono ?_; rintro e w1 ⟨rfl, q⟩; have hB1 := Lib.hid q; clear q)
      go_ret2
      exact ⟨_, none, rfl, Own.nil _ _, hB1.out, Or.inl rfl⟩
    · have hb2 : i < -9223372036854775808 := by omega
      clear hb
      have hx : bits .xor .i64 (-1) 9223372036854775807 = -9223372036854775808 := by kernel_rfl
      have hsg : IntKind.i64.signed = true := rfl
      go_enter Tryd.func36, Tryd.ntmps36
      go_wp2_with (go_at_call 53; refine (i_most_8 _).mono ?_; rintro e w1 ⟨rfl, q⟩; have hB1 := Lib.hid q; clear q)
      go_ret2
      exact ⟨_, none, rfl, Own.nil _ _, hB1.out, Or.inl rfl⟩
  · have e : upBy 8 9223372036854775807 i = (be 8 (i + 9223372036854775807 + 1).toNat, 0) := if_neg hb
    rw [e]
    clear e
    have hb1 : i ≤ 9223372036854775807 := by omega
    have hb2 : -9223372036854775808 ≤ i := by omega
    obtain ⟨n, hn⟩ : ∃ n, n = (i + 9223372036854775807 + 1).toNat := ⟨_, rfl⟩
    rw [← hn]
    have hn2 : Hid ((n : Int) = i + 9223372036854775807 + 1) := by show _ = _; omega
    have hnB : n ≤ 18446744073709551615 := by omega
    have hx : bits .xor .i64 (-1) 9223372036854775807 = -9223372036854775808 := by kernel_rfl
    have hsg : IntKind.i64.signed = true := rfl
    have he : i + 9223372036854775808 = (n : Int) := by omega
    have hw2 : IntKind.u64.wrap (wrap64 (n : Int)) = (n : Int) := wrap_uu n (by omega)
    have hP := Lib.hid (fun w => u_put w 8 n 18446744073709551615 (by omega) (by omega) (by omega) (by omega) u_most_8)
    rw [if_neg (by omega), if_neg (by omega)] at hP
    clear hb hn
    go_enter Tryd.func36, Tryd.ntmps36
    go_wp2_with (first | (go_at_call 34; go_loud (refine (hP.out _).mono ?_); rintro e w2 ⟨v, bo, rfl, q1, q2, q3⟩; have Q1 := Lib.hid q1; have Q2 := Lib.hid (hB1.out.trans (q2.mono hB1.out.size)); have Q3 := Lib.hid q3; clear q1 q2 q3) | (go_at_call 53; refine (i_most_8 _).mono ?_; rintro e w1 ⟨rfl, q⟩; have hB1 := Lib.hid q; clear q))
    go_ret2
    exact ⟨v, bo, rfl, Q1.out, Q2.out, Q3.out.imp_right fun ⟨g, e, h⟩ => ⟨g, e, Nat.le_trans hB1.out.size h⟩⟩
end Go.Proofs.YtbmefmfogdjecaaDoor
/- Numbers with a sign as bytes: the document's Put. -/
namespace Go.Proofs.YtbmefmfogdjecaaDoor
open Go.RowKit
theorem wrap_u (n : Nat) (h : n < 18446744073709551616) : IntKind.u64.wrap (n : Int) = (n : Int) := IntWalk.u64_in _ (by omega)
set_option maxHeartbeats 1000000 in
set_option maxRecDepth 100000 in
theorem di_put_1 (w : World) (i : Int) (h1 : -9223372036854775808 ≤ i) (h2 : i ≤ 9223372036854775807) : Calls Tryd.prog 41 #[.int .i64 1, .int .i64 i] w (put2 (upBy 1 127 i).1 (upBy 1 127 i).2 w) := by
  have hL : Hid (∀ w : World, Calls Tryd.prog 56 #[.int .i64 1] w (retIs (.tuple #[.int .i64 (-128), .int .i64 0]) w)) := fun w => di_least_1 w
  by_cases hb : i > 127 ∨ i < -127 - 1
  · have e : upBy 1 127 i = ([], 8) := if_pos hb
    rw [e]
    clear e
    by_cases hb1 : i < -128
    · clear hb
      go_enter Tryd.func41, Tryd.ntmps41
      go_wp2_with (first | (go_at_call 57; refine (di_most_1 _).mono ?_; rintro e w1 ⟨rfl, rfl⟩) | (go_at_call 56; refine (hL.out _).mono ?_; rintro e w1 ⟨rfl, rfl⟩))
      go_ret2
      exact put2_no 8 _
    · have hb2 : 127 < i := by omega
      clear hb
      go_enter Tryd.func41, Tryd.ntmps41
      go_wp2_with (first | (go_at_call 57; refine (di_most_1 _).mono ?_; rintro e w1 ⟨rfl, rfl⟩) | (go_at_call 56; refine (hL.out _).mono ?_; rintro e w1 ⟨rfl, rfl⟩))
      go_ret2
      exact put2_no 8 _
  · have e : upBy 1 127 i = (be 1 (i + 127 + 1).toNat, 0) := if_neg hb
    rw [e]
    clear e
    have hb1 : i ≤ 127 := by omega
    have hb2 : -128 ≤ i := by omega
    obtain ⟨n, hn⟩ : ∃ n, n = (i + 127 + 1).toNat := ⟨_, rfl⟩
    rw [← hn]
    have hP := Lib.hid (fun w => d_put w 1 n 255 (by omega) (by omega) (by omega) (by omega) d_most_1)
    rw [if_neg (by omega), if_neg (by omega)] at hP
    by_cases hs : 0 ≤ i
    · obtain ⟨k, rfl⟩ : ∃ k : Nat, i = (k : Int) := ⟨i.toNat, by omega⟩
      have he : (k : Int) + 127 + 1 = (n : Int) := by omega
      have he2 : (k : Int) + 128 = (n : Int) := by omega
      have hkM : k ≤ 127 := by omega
      have hnB : n ≤ 255 := by omega
      clear hb hn h1 h2 hb1 hb2 hs
      go_enter Tryd.func41, Tryd.ntmps41
      go_wp2_with (first | (go_at_call 39; go_loud (refine (hP.out _).mono ?_); rintro e w2 ⟨v, bo, rfl, q1, q2, q3⟩; have Q1 := Lib.hid q1; have Q2 := Lib.hid q2; have Q3 := Lib.hid q3; clear q1 q2 q3) | (go_at_call 57; refine (di_most_1 _).mono ?_; rintro e w1 ⟨rfl, rfl⟩) | (go_at_call 56; refine (hL.out _).mono ?_; rintro e w1 ⟨rfl, rfl⟩))
      go_ret2
      exact ⟨v, bo, rfl, Q1.out, Q2.out, Q3.out⟩
    · have he : i + 128 = (n : Int) := by omega
      have hnB : n ≤ 127 := by omega
      have hs2 : i < 0 := by omega
      clear hb hn
      go_enter Tryd.func41, Tryd.ntmps41
      go_wp2_with (first | (go_at_call 39; go_loud (refine (hP.out _).mono ?_); rintro e w2 ⟨v, bo, rfl, q1, q2, q3⟩; have Q1 := Lib.hid q1; have Q2 := Lib.hid q2; have Q3 := Lib.hid q3; clear q1 q2 q3) | (go_at_call 57; refine (di_most_1 _).mono ?_; rintro e w1 ⟨rfl, rfl⟩) | (go_at_call 56; refine (hL.out _).mono ?_; rintro e w1 ⟨rfl, rfl⟩))
      go_ret2
      exact ⟨v, bo, rfl, Q1.out, Q2.out, Q3.out⟩

set_option maxHeartbeats 1000000 in
set_option maxRecDepth 100000 in
theorem di_put_2 (w : World) (i : Int) (h1 : -9223372036854775808 ≤ i) (h2 : i ≤ 9223372036854775807) : Calls Tryd.prog 41 #[.int .i64 2, .int .i64 i] w (put2 (upBy 2 32767 i).1 (upBy 2 32767 i).2 w) := by
  have hL : Hid (∀ w : World, Calls Tryd.prog 56 #[.int .i64 2] w (retIs (.tuple #[.int .i64 (-32768), .int .i64 0]) w)) := fun w => di_least_2 w
  by_cases hb : i > 32767 ∨ i < -32767 - 1
  · have e : upBy 2 32767 i = ([], 8) := if_pos hb
    rw [e]
    clear e
    by_cases hb1 : i < -32768
    · clear hb
      go_enter Tryd.func41, Tryd.ntmps41
      go_wp2_with (first | (go_at_call 57; refine (di_most_2 _).mono ?_; rintro e w1 ⟨rfl, rfl⟩) | (go_at_call 56; refine (hL.out _).mono ?_; rintro e w1 ⟨rfl, rfl⟩))
      go_ret2
      exact put2_no 8 _
    · have hb2 : 32767 < i := by omega
      clear hb
      go_enter Tryd.func41, Tryd.ntmps41
      go_wp2_with (first | (go_at_call 57; refine (di_most_2 _).mono ?_; rintro e w1 ⟨rfl, rfl⟩) | (go_at_call 56; refine (hL.out _).mono ?_; rintro e w1 ⟨rfl, rfl⟩))
      go_ret2
      exact put2_no 8 _
  · have e : upBy 2 32767 i = (be 2 (i + 32767 + 1).toNat, 0) := if_neg hb
    rw [e]
    clear e
    have hb1 : i ≤ 32767 := by omega
    have hb2 : -32768 ≤ i := by omega
    obtain ⟨n, hn⟩ : ∃ n, n = (i + 32767 + 1).toNat := ⟨_, rfl⟩
    rw [← hn]
    have hP := Lib.hid (fun w => d_put w 2 n 65535 (by omega) (by omega) (by omega) (by omega) d_most_2)
    rw [if_neg (by omega), if_neg (by omega)] at hP
    by_cases hs : 0 ≤ i
    · obtain ⟨k, rfl⟩ : ∃ k : Nat, i = (k : Int) := ⟨i.toNat, by omega⟩
      have he : (k : Int) + 32767 + 1 = (n : Int) := by omega
      have he2 : (k : Int) + 32768 = (n : Int) := by omega
      have hkM : k ≤ 32767 := by omega
      have hnB : n ≤ 65535 := by omega
      clear hb hn h1 h2 hb1 hb2 hs
      go_enter Tryd.func41, Tryd.ntmps41
      go_wp2_with (first | (go_at_call 39; go_loud (refine (hP.out _).mono ?_); rintro e w2 ⟨v, bo, rfl, q1, q2, q3⟩; have Q1 := Lib.hid q1; have Q2 := Lib.hid q2; have Q3 := Lib.hid q3; clear q1 q2 q3) | (go_at_call 57; refine (di_most_2 _).mono ?_; rintro e w1 ⟨rfl, rfl⟩) | (go_at_call 56; refine (hL.out _).mono ?_; rintro e w1 ⟨rfl, rfl⟩))
      go_ret2
      exact ⟨v, bo, rfl, Q1.out, Q2.out, Q3.out⟩
    · have he : i + 32768 = (n : Int) := by omega
      have hnB : n ≤ 32767 := by omega
      have hs2 : i < 0 := by omega
      clear hb hn
      go_enter Tryd.func41, Tryd.ntmps41
      go_wp2_with (first | (go_at_call 39; go_loud (refine (hP.out _).mono ?_); rintro e w2 ⟨v, bo, rfl, q1, q2, q3⟩; have Q1 := Lib.hid q1; have Q2 := Lib.hid q2; have Q3 := Lib.hid q3; clear q1 q2 q3) | (go_at_call 57; refine (di_most_2 _).mono ?_; rintro e w1 ⟨rfl, rfl⟩) | (go_at_call 56; refine (hL.out _).mono ?_; rintro e w1 ⟨rfl, rfl⟩))
      go_ret2
      exact ⟨v, bo, rfl, Q1.out, Q2.out, Q3.out⟩

set_option maxHeartbeats 1000000 in
set_option maxRecDepth 100000 in
theorem di_put_4 (w : World) (i : Int) (h1 : -9223372036854775808 ≤ i) (h2 : i ≤ 9223372036854775807) : Calls Tryd.prog 41 #[.int .i64 4, .int .i64 i] w (put2 (upBy 4 2147483647 i).1 (upBy 4 2147483647 i).2 w) := by
  have hL : Hid (∀ w : World, Calls Tryd.prog 56 #[.int .i64 4] w (retIs (.tuple #[.int .i64 (-2147483648), .int .i64 0]) w)) := fun w => di_least_4 w
  by_cases hb : i > 2147483647 ∨ i < -2147483647 - 1
  · have e : upBy 4 2147483647 i = ([], 8) := if_pos hb
    rw [e]
    clear e
    by_cases hb1 : i < -2147483648
    · clear hb
      go_enter Tryd.func41, Tryd.ntmps41
      go_wp2_with (first | (go_at_call 57; refine (di_most_4 _).mono ?_; rintro e w1 ⟨rfl, rfl⟩) | (go_at_call 56; refine (hL.out _).mono ?_; rintro e w1 ⟨rfl, rfl⟩))
      go_ret2
      exact put2_no 8 _
    · have hb2 : 2147483647 < i := by omega
      clear hb
      go_enter Tryd.func41, Tryd.ntmps41
      go_wp2_with (first | (go_at_call 57; refine (di_most_4 _).mono ?_; rintro e w1 ⟨rfl, rfl⟩) | (go_at_call 56; refine (hL.out _).mono ?_; rintro e w1 ⟨rfl, rfl⟩))
      go_ret2
      exact put2_no 8 _
  · have e : upBy 4 2147483647 i = (be 4 (i + 2147483647 + 1).toNat, 0) := if_neg hb
    rw [e]
    clear e
    have hb1 : i ≤ 2147483647 := by omega
    have hb2 : -2147483648 ≤ i := by omega
    obtain ⟨n, hn⟩ : ∃ n, n = (i + 2147483647 + 1).toNat := ⟨_, rfl⟩
    rw [← hn]
    have hP := Lib.hid (fun w => d_put w 4 n 4294967295 (by omega) (by omega) (by omega) (by omega) d_most_4)
    rw [if_neg (by omega), if_neg (by omega)] at hP
    by_cases hs : 0 ≤ i
    · obtain ⟨k, rfl⟩ : ∃ k : Nat, i = (k : Int) := ⟨i.toNat, by omega⟩
      have he : (k : Int) + 2147483647 + 1 = (n : Int) := by omega
      have he2 : (k : Int) + 2147483648 = (n : Int) := by omega
      have hkM : k ≤ 2147483647 := by omega
      have hnB : n ≤ 4294967295 := by omega
      clear hb hn h1 h2 hb1 hb2 hs
      go_enter Tryd.func41, Tryd.ntmps41
      go_wp2_with (first | (go_at_call 39; go_loud (refine (hP.out _).mono ?_); rintro e w2 ⟨v, bo, rfl, q1, q2, q3⟩; have Q1 := Lib.hid q1; have Q2 := Lib.hid q2; have Q3 := Lib.hid q3; clear q1 q2 q3) | (go_at_call 57; refine (di_most_4 _).mono ?_; rintro e w1 ⟨rfl, rfl⟩) | (go_at_call 56; refine (hL.out _).mono ?_; rintro e w1 ⟨rfl, rfl⟩))
      go_ret2
      exact ⟨v, bo, rfl, Q1.out, Q2.out, Q3.out⟩
    · have he : i + 2147483648 = (n : Int) := by omega
      have hnB : n ≤ 2147483647 := by omega
      have hs2 : i < 0 := by omega
      clear hb hn
      go_enter Tryd.func41, Tryd.ntmps41
      go_wp2_with (first | (go_at_call 39; go_loud (refine (hP.out _).mono ?_); rintro e w2 ⟨v, bo, rfl, q1, q2, q3⟩; have Q1 := Lib.hid q1; have Q2 := Lib.hid q2; have Q3 := Lib.hid q3; clear q1 q2 q3) | (go_at_call 57; refine (di_most_4 _).mono ?_; rintro e w1 ⟨rfl, rfl⟩) | (go_at_call 56; refine (hL.out _).mono ?_; rintro e w1 ⟨rfl, rfl⟩))
      go_ret2
      exact ⟨v, bo, rfl, Q1.out, Q2.out, Q3.out⟩

set_option maxHeartbeats 1000000 in
set_option maxRecDepth 100000 in
theorem di_put_8 (w : World) (i : Int) (h1 : -9223372036854775808 ≤ i) (h2 : i ≤ 9223372036854775807) : Calls Tryd.prog 41 #[.int .i64 8, .int .i64 i] w (put2 (upBy 8 9223372036854775807 i).1 (upBy 8 9223372036854775807 i).2 w) := by
  have hL : Hid (∀ w : World, Calls Tryd.prog 56 #[.int .i64 8] w (retIs (.tuple #[.int .i64 (-9223372036854775808), .int .i64 0]) w)) := fun w => di_least_8 w
  by_cases hb : i > 9223372036854775807 ∨ i < -9223372036854775807 - 1
  · have e : upBy 8 9223372036854775807 i = ([], 8) := if_pos hb
    rw [e]
    clear e
    by_cases hb1 : i < -9223372036854775808
    · clear hb
      go_enter Tryd.func41, Tryd.ntmps41
      go_wp2_with (first | (go_at_call 57; refine (di_most_8 _).mono ?_; rintro e w1 ⟨rfl, rfl⟩) | (go_at_call 56; refine (hL.out _).mono ?_; rintro e w1 ⟨rfl, rfl⟩))
      go_ret2
      exact put2_no 8 _
    · have hb2 : 9223372036854775807 < i := by omega
      clear hb
      go_enter Tryd.func41, Tryd.ntmps41
      go_wp2_with (first | (go_at_call 57; refine (di_most_8 _).mono ?_; rintro e w1 ⟨rfl, rfl⟩) | (go_at_call 56; refine (hL.out _).mono ?_; rintro e w1 ⟨rfl, rfl⟩))
      go_ret2
      exact put2_no 8 _
  · have e : upBy 8 9223372036854775807 i = (be 8 (i + 9223372036854775807 + 1).toNat, 0) := if_neg hb
    rw [e]
    clear e
    have hb1 : i ≤ 9223372036854775807 := by omega
    have hb2 : -9223372036854775808 ≤ i := by omega
    obtain ⟨n, hn⟩ : ∃ n, n = (i + 9223372036854775807 + 1).toNat := ⟨_, rfl⟩
    rw [← hn]
    have hP := Lib.hid (fun w => d_put w 8 n 18446744073709551615 (by omega) (by omega) (by omega) (by omega) d_most_8)
    rw [if_neg (by omega), if_neg (by omega)] at hP
    by_cases hs : 0 ≤ i
    · obtain ⟨k, rfl⟩ : ∃ k : Nat, i = (k : Int) := ⟨i.toNat, by omega⟩
      have he : (k : Int) + 9223372036854775807 + 1 = (n : Int) := by omega
      have he2 : (k : Int) + 9223372036854775808 = (n : Int) := by omega
      have hkM : k ≤ 9223372036854775807 := by omega
      have hnB : n ≤ 18446744073709551615 := by omega
      clear hb hn h1 h2 hb1 hb2 hs
      go_enter Tryd.func41, Tryd.ntmps41
      go_wp2_with (first | (go_at_call 39; go_loud (refine (hP.out _).mono ?_); rintro e w2 ⟨v, bo, rfl, q1, q2, q3⟩; have Q1 := Lib.hid q1; have Q2 := Lib.hid q2; have Q3 := Lib.hid q3; clear q1 q2 q3) | (go_at_call 57; refine (di_most_8 _).mono ?_; rintro e w1 ⟨rfl, rfl⟩) | (go_at_call 56; refine (hL.out _).mono ?_; rintro e w1 ⟨rfl, rfl⟩))
      go_ret2
      exact ⟨v, bo, rfl, Q1.out, Q2.out, Q3.out⟩
    · have he : i + 9223372036854775808 = (n : Int) := by omega
      have hnB : n ≤ 9223372036854775807 := by omega
      have hs2 : i < 0 := by omega
      clear hb hn
      go_enter Tryd.func41, Tryd.ntmps41
      go_wp2_with (first | (go_at_call 39; go_loud (refine (hP.out _).mono ?_); rintro e w2 ⟨v, bo, rfl, q1, q2, q3⟩; have Q1 := Lib.hid q1; have Q2 := Lib.hid q2; have Q3 := Lib.hid q3; clear q1 q2 q3) | (go_at_call 57; refine (di_most_8 _).mono ?_; rintro e w1 ⟨rfl, rfl⟩) | (go_at_call 56; refine (hL.out _).mono ?_; rintro e w1 ⟨rfl, rfl⟩))
      go_ret2
      exact ⟨v, bo, rfl, Q1.out, Q2.out, Q3.out⟩
end Go.Proofs.YtbmefmfogdjecaaDoor
/- Texts' bytes, plain: escaped noughts, their order; replacing of bytes. No program. -/
namespace Go.Proofs.YtbmefmfogdjecaaDoor
/-- a byte as it is written -/
def esc (x : Nat) : List Nat := if x = 0 then [0, 255] else [x]
def escL (s : List Nat) : List Nat := s.flatMap esc
def putL (s : List Nat) : List Nat := escL s ++ [0, 0]
def othL (s : List Nat) : List Nat := s.map fun x => 255 - x
theorem escL_cons (x : Nat) (s : List Nat) : escL (x :: s) = esc x ++ escL s := by simp [escL]
theorem escL_app (s t : List Nat) : escL (s ++ t) = escL s ++ escL t := by simp [escL]
theorem escL_none {s : List Nat} (h : 0 ∉ s) : escL s = s := by
  induction s with
  | nil => rfl
  | cons x s ih =>
    have hx : x ≠ 0 := fun e => h (by simp [e])
    rw [escL_cons, ih (fun e => h (by simp [e]))]
    simp [esc, hx]
theorem esc_lt {x : Nat} (h : x < 256) : ∀ y ∈ esc x, y < 256 := by unfold esc; split <;> simp <;> omega
theorem escL_lt {s : List Nat} (h : ∀ x ∈ s, x < 256) : ∀ y ∈ escL s, y < 256 := fun y hy => by
  obtain ⟨x, hx, hy⟩ := List.mem_flatMap.1 hy
  exact esc_lt (h x hx) y hy
theorem putL_lt {s : List Nat} (h : ∀ x ∈ s, x < 256) : ∀ y ∈ putL s, y < 256 := fun y hy => by
  rcases List.mem_append.1 hy with e | e
  · exact escL_lt h y e
  · simp at e; omega
theorem escL_len (s : List Nat) : (escL s).length = s.length + s.count 0 := by
  induction s with
  | nil => rfl
  | cons x s ih =>
    rw [escL_cons, List.length_append, ih, List.length_cons, List.count_cons]
    unfold esc
    by_cases e : x = 0
    · subst e; simp; omega
    · simp [e]; omega
/-- the first nought -/
theorem split_nought : ∀ (s : List Nat), 0 ∉ s ∨ ∃ a b, s = a ++ 0 :: b ∧ 0 ∉ a
  | [] => Or.inl (by simp)
  | x :: s => by
    by_cases e : x = 0
    · subst e; exact Or.inr ⟨[], s, rfl, by simp⟩
    · have e' : ¬ 0 = x := fun q => e q.symm
      rcases split_nought s with h | ⟨a, b, rfl, h⟩
      · exact Or.inl (by simp [h, e'])
      · exact Or.inr ⟨x :: a, b, rfl, by simp [h, e']⟩
/-! The order. -/
theorem bcmp_nn : bcmp [] [] = 0 := rfl
theorem bcmp_nc (y : Nat) (ys : List Nat) : bcmp [] (y :: ys) = -1 := by simp [bcmp, lcp]
theorem bcmp_cn (x : Nat) (xs : List Nat) : bcmp (x :: xs) [] = 1 := by simp [bcmp, lcp]
theorem bcmp_same (x : Nat) (xs ys : List Nat) : bcmp (x :: xs) (x :: ys) = bcmp xs ys := by
  simp [bcmp, lcp]
theorem bcmp_lt {x y : Nat} (h : x < y) (xs ys : List Nat) : bcmp (x :: xs) (y :: ys) = -1 := by
  have : x ≠ y := by omega
  simp [bcmp, lcp, this, h]
theorem bcmp_gt {x y : Nat} (h : y < x) (xs ys : List Nat) : bcmp (x :: xs) (y :: ys) = 1 := by
  have h1 : x ≠ y := by omega
  have h2 : ¬ x < y := by omega
  simp [bcmp, lcp, h1, h2]
theorem bcmp_pre (p xs ys : List Nat) : bcmp (p ++ xs) (p ++ ys) = bcmp xs ys := by
  induction p with
  | nil => rfl
  | cons x p ih => simp only [List.cons_append, bcmp_same, ih]
/-- the order of what is put, whatever stands behind -/
theorem putL_cons (x : Nat) (s : List Nat) : putL (x :: s) = esc x ++ putL s := by simp [putL, escL_cons]
theorem put_cmp : ∀ (s t : List Nat), bcmp (putL s) (putL t) = bcmp s t
  | [], [] => rfl
  | [], y :: t => by
    rw [bcmp_nc, putL_cons]
    by_cases e : y = 0
    · subst e; exact (bcmp_same 0 _ _).trans (bcmp_lt (by omega) _ _)
    · simp only [esc, e, if_false, List.singleton_append]; exact bcmp_lt (by omega) _ _
  | x :: s, [] => by
    rw [bcmp_cn, putL_cons]
    by_cases e : x = 0
    · subst e; exact (bcmp_same 0 _ _).trans (bcmp_gt (by omega) _ _)
    · simp only [esc, e, if_false, List.singleton_append]; exact bcmp_gt (by omega) _ _
  | x :: s, y :: t => by
    rw [putL_cons, putL_cons]
    by_cases e : x = y
    · subst e; rw [bcmp_pre, bcmp_same, put_cmp s t]
    · by_cases h : x < y
      · rw [bcmp_lt h]
        by_cases e0 : x = 0
        · subst e0
          have : y ≠ 0 := by omega
          simp only [esc, this, if_true, if_false, List.cons_append, List.nil_append]; exact bcmp_lt (by omega) _ _
        · have : y ≠ 0 := by omega
          simp only [esc, e0, this, if_false, List.singleton_append]; exact bcmp_lt h _ _
      · rw [bcmp_gt (by omega)]
        by_cases e0 : y = 0
        · subst e0
          have : x ≠ 0 := by omega
          simp only [esc, this, if_true, if_false, List.cons_append, List.nil_append]; exact bcmp_gt (by omega) _ _
        · have : x ≠ 0 := by omega
          simp only [esc, e0, this, if_false, List.singleton_append]; exact bcmp_gt (by omega) _ _
/-- the other way round -/
theorem put_oth : ∀ (s t : List Nat), (∀ x ∈ s, x < 256) → (∀ x ∈ t, x < 256) → bcmp (othL (putL s)) (othL (putL t)) = - bcmp s t
  | [], [], _, _ => rfl
  | [], y :: t, _, ht => by
    rw [bcmp_nc, putL_cons]
    by_cases e : y = 0
    · subst e; exact (bcmp_same 255 _ _).trans (bcmp_gt (by (try dsimp only); omega) _ _)
    · have := ht y (by simp)
      simp only [esc, e, if_false, List.singleton_append]; exact bcmp_gt (by (try dsimp only); omega) _ _
  | x :: s, [], hs, _ => by
    rw [bcmp_cn, putL_cons]
    by_cases e : x = 0
    · subst e; exact (bcmp_same 255 _ _).trans (bcmp_lt (by (try dsimp only); omega) _ _)
    · have := hs x (by simp)
      simp only [esc, e, if_false, List.singleton_append]; exact bcmp_lt (by (try dsimp only); omega) _ _
  | x :: s, y :: t, hs, ht => by
    have h1 := hs x (by simp)
    have h2 := ht y (by simp)
    rw [putL_cons, putL_cons, show othL (esc x ++ putL s) = othL (esc x) ++ othL (putL s) from by simp [othL], show othL (esc y ++ putL t) = othL (esc y) ++ othL (putL t) from by simp [othL]]
    by_cases e : x = y
    · subst e; rw [bcmp_pre, bcmp_same, put_oth s t (fun z hz => hs z (by simp [hz])) (fun z hz => ht z (by simp [hz]))]
    · by_cases h : x < y
      · rw [bcmp_lt h]
        by_cases e0 : x = 0
        · subst e0
          have : y ≠ 0 := by omega
          simp only [esc, this, if_true, if_false, othL, List.map_cons, List.map_nil, List.cons_append, List.nil_append]; exact bcmp_gt (by (try dsimp only); omega) _ _
        · have : y ≠ 0 := by omega
          simp only [esc, e0, this, if_false, othL, List.map_cons, List.map_nil, List.singleton_append]; exact bcmp_gt (by (try dsimp only); omega) _ _
      · rw [bcmp_gt (by omega)]
        by_cases e0 : y = 0
        · subst e0
          have : x ≠ 0 := by omega
          simp only [esc, this, if_true, if_false, othL, List.map_cons, List.map_nil, List.cons_append, List.nil_append]; exact bcmp_lt (by (try dsimp only); omega) _ _
        · have : x ≠ 0 := by omega
          simp only [esc, e0, this, if_false, othL, List.map_cons, List.map_nil, List.singleton_append]; exact bcmp_lt (by (try dsimp only); omega) _ _
theorem lcp_pre (p xs ys : List Nat) : lcp (p ++ xs) (p ++ ys) = p.length + lcp xs ys := by
  induction p with
  | nil => simp
  | cons x p ih => simp [lcp, ih]; omega
/-- none are the beginning of another one's -/
theorem put_free : ∀ (s t : List Nat), lcp (putL s) (putL t) = (putL t).length → s = t
  | [], [], _ => rfl
  | [], y :: t, h => by
    rw [putL_cons] at h
    by_cases e : y = 0
    · subst e; simp [esc, putL, escL, lcp] at h
    · have e' : ¬ 0 = y := fun q => e q.symm
      simp [esc, e, putL, escL, lcp, e'] at h
  | x :: s, [], h => by
    rw [putL_cons] at h
    by_cases e : x = 0
    · subst e; simp [esc, putL, escL, lcp] at h
    · simp [esc, e, putL, escL, lcp] at h
  | x :: s, y :: t, h => by
    rw [putL_cons, putL_cons] at h
    by_cases e : x = y
    · subst e
      rw [lcp_pre, List.length_append] at h
      rw [put_free s t (by omega)]
    · exfalso
      by_cases e0 : x = 0
      · subst e0
        have : y ≠ 0 := fun q => e q.symm
        have e' : ¬ 0 = y := e
        simp [esc, this, lcp, e'] at h
      · by_cases e1 : y = 0
        · subst e1; simp [esc, e0, lcp] at h
        · simp [esc, e0, e1, lcp, e] at h
theorem oth_oth {s : List Nat} (h : ∀ x ∈ s, x < 256) : othL (othL s) = s := by
  unfold othL
  rw [List.map_map]
  refine (List.map_congr_left fun x hx => ?_).trans (List.map_id s)
  have := h x hx
  simp; omega
end Go.Proofs.YtbmefmfogdjecaaDoor
/- Replacing of bytes, plain: noughts escaped, and back. No program. -/
namespace Go.Proofs.YtbmefmfogdjecaaDoor
def U (s : List Nat) : List UInt8 := s.map UInt8.ofNat
theorem U_drop (s : List Nat) (n : Nat) : U (s.drop n) = (U s).drop n := by simp [U, List.map_drop]
theorem U_len (s : List Nat) : (U s).length = s.length := by simp [U]
def nidx (s old : List Nat) : Int := Lib.index (U s) (U old)
def ncnt (s old : List Nat) : Nat := Lib.count (U s) (U old)
/-- the first k instances of old, from the left, replaced -/
def nrep (old new : List Nat) : Nat → List Nat → List Nat
  | 0, s => s
  | k + 1, s => s.take (nidx s old).toNat ++ new ++ nrep old new k (s.drop ((nidx s old).toNat + old.length))
theorem ofNat_ne {x : Nat} (h : x < 256) (h0 : x ≠ 0) : UInt8.ofNat x ≠ 0 := fun e => by
  have := congrArg UInt8.toNat e
  simp at this
  omega
theorem nidx_skip {x : Nat} (hx : x < 256) (h0 : x ≠ 0) (s : List Nat) (o : List Nat) : nidx (x :: s) (0 :: o) = if nidx s (0 :: o) = -1 then -1 else nidx s (0 :: o) + 1 := by
  have h := ofNat_ne hx h0
  have h' : ¬ (0 : UInt8) = UInt8.ofNat x := fun e => h e.symm
  unfold nidx U
  rw [List.map_cons, Lib.index]
  have : (List.map UInt8.ofNat (0 :: o)).isPrefixOf (UInt8.ofNat x :: List.map UInt8.ofNat s) = false := by
    simp [List.isPrefixOf, h']
  rw [this]
  simp
theorem nidx_pre (o : List Nat) : ∀ (a s : List Nat), (∀ x ∈ a, x < 256) → 0 ∉ a → nidx (a ++ s) (0 :: o) = if nidx s (0 :: o) = -1 then -1 else nidx s (0 :: o) + a.length
  | [], s, _, _ => by
    by_cases e : nidx s (0 :: o) = -1
    · simp [e]
    · simp [e]
  | x :: a, s, h, h0 => by
    have ih := nidx_pre o a s (fun y hy => h y (by simp [hy])) (fun e => h0 (by simp [e]))
    rw [List.cons_append, nidx_skip (h x (by simp)) (fun e => h0 (by simp [e])), ih]
    have hge : -1 ≤ nidx s (0 :: o) := Lib.index_ge _ _
    by_cases e : nidx s (0 :: o) = -1
    · simp [e]
    · simp only [e, if_false, List.length_cons]
      rw [if_neg (by omega)]
      omega
theorem nidx_end (o : List Nat) : nidx [] (0 :: o) = -1 := rfl
theorem nidx_none (o : List Nat) {a : List Nat} (h : ∀ x ∈ a, x < 256) (h0 : 0 ∉ a) : nidx a (0 :: o) = -1 := by
  have := nidx_pre o a [] h h0
  rw [List.append_nil, nidx_end] at this
  simpa using this
theorem nidx_at (o s : List Nat) : nidx (0 :: (o ++ s)) (0 :: o) = 0 := by
  unfold nidx U
  rw [List.map_cons, Lib.index]
  have : (List.map UInt8.ofNat (0 :: o)).isPrefixOf (UInt8.ofNat 0 :: List.map UInt8.ofNat (o ++ s)) = true := by
    rw [← List.map_cons, ← List.cons_append, List.map_append]
    exact List.isPrefixOf_iff_prefix.2 (List.prefix_append _ _)
  rw [this]; rfl
theorem nidx_hit (o s : List Nat) {a : List Nat} (h : ∀ x ∈ a, x < 256) (h0 : 0 ∉ a) : nidx (a ++ 0 :: (o ++ s)) (0 :: o) = a.length := by
  rw [nidx_pre o a _ h h0, nidx_at]
  simp
theorem ncnt_miss {s old : List Nat} (h : nidx s old = -1) : ncnt s old = 0 := Lib.count_miss h
theorem ncnt_hit {s old : List Nat} {i : Nat} (ho : old ≠ []) (h : nidx s old = i) : ncnt s old = 1 + ncnt (s.drop (i + old.length)) old := by
  unfold ncnt
  rw [Lib.count_hit (fun e => ho (by simpa [U] using e)) h, U_drop, U_len]
theorem nrep_hit {old new s : List Nat} {i k : Nat} (h : nidx s old = i) : nrep old new (k + 1) s = s.take i ++ new ++ nrep old new k (s.drop (i + old.length)) := by
  rw [nrep, h]; simp
/-- while instances are left, one is found, and there is room for it -/
theorem nidx_of_cnt {s old : List Nat} (h : 0 < ncnt s old) : ∃ i : Nat, nidx s old = i ∧ i + old.length ≤ s.length := by
  have hge : -1 ≤ nidx s old := Lib.index_ge _ _
  by_cases hm : nidx s old = -1
  · rw [ncnt_miss hm] at h; omega
  · have := Lib.index_room (U s) (U old) (by unfold nidx at hge hm; omega)
    rw [U_len, U_len] at this
    exact ⟨(nidx s old).toNat, by omega, by unfold nidx; unfold nidx at hge hm; omega⟩
/-- how long what is replaced is -/
theorem nrep_len {old new : List Nat} (ho : old ≠ []) : ∀ (k : Nat) (s : List Nat), k ≤ ncnt s old → ((nrep old new k s).length : Int) = s.length + k * ((new.length : Int) - old.length)
  | 0, s, _ => by simp [nrep]
  | k + 1, s, h => by
    obtain ⟨i, hi, hr⟩ := nidx_of_cnt (s := s) (old := old) (by omega)
    have hc := ncnt_hit ho hi
    have ih := nrep_len (new := new) ho k (s.drop (i + old.length)) (by omega)
    rw [nrep_hit hi, List.length_append, List.length_append, List.length_take]
    have hm : min i s.length = i := by omega
    rw [List.length_drop] at ih
    rw [hm]
    have e : ((k + 1 : Nat) : Int) * ((new.length : Int) - old.length) = (k : Int) * ((new.length : Int) - old.length) + ((new.length : Int) - old.length) := by
      rw [Int.natCast_add, Int.add_mul]; simp
    rw [e]
    push_cast
    omega
theorem cnt_pos_app (a b : List Nat) (ha : 0 ∉ a) : (a ++ 0 :: b).count 0 = b.count 0 + 1 := by
  rw [List.count_append, List.count_cons_self, List.count_eq_zero.2 ha]; omega
theorem rep_esc : ∀ (n : Nat) (s : List Nat), s.length ≤ n → (∀ x ∈ s, x < 256) → ncnt s [0] = s.count 0 ∧ nrep [0] [0, 255] (s.count 0) s = escL s
  | 0, s, hn, _ => by
    obtain rfl : s = [] := List.eq_nil_of_length_eq_zero (by omega)
    exact ⟨ncnt_miss (nidx_end []), rfl⟩
  | n + 1, s, hn, h => by
    rcases split_nought s with h0 | ⟨a, b, rfl, ha⟩
    · have hc : s.count 0 = 0 := List.count_eq_zero.2 h0
      rw [hc, escL_none h0]
      exact ⟨ncnt_miss (nidx_none [] h h0), rfl⟩
    · have hb := fun x (hx : x ∈ b) => h x (by simp [hx])
      have ha2 := fun x (hx : x ∈ a) => h x (by simp [hx])
      have hi : nidx (a ++ 0 :: b) [0] = a.length := nidx_hit [] b ha2 ha
      have hd : (a ++ 0 :: b).drop (a.length + [0].length) = b := by simp [List.drop_append]
      have ih := rep_esc n b (by simp at hn; omega) hb
      rw [ncnt_hit (by simp) hi, hd, ih.1, cnt_pos_app a b ha, nrep_hit hi, hd, ih.2, escL_app, escL_cons, escL_none ha]
      refine ⟨by omega, ?_⟩
      simp [esc]
theorem rep_unesc : ∀ (n : Nat) (s : List Nat), s.length ≤ n → (∀ x ∈ s, x < 256) → ncnt (escL s) [0, 255] = s.count 0 ∧ nrep [0, 255] [0] (s.count 0) (escL s) = s
  | 0, s, hn, _ => by
    obtain rfl : s = [] := List.eq_nil_of_length_eq_zero (by omega)
    exact ⟨ncnt_miss (nidx_end [255]), rfl⟩
  | n + 1, s, hn, h => by
    rcases split_nought s with h0 | ⟨a, b, rfl, ha⟩
    · have hc : s.count 0 = 0 := List.count_eq_zero.2 h0
      rw [hc, escL_none h0]
      exact ⟨ncnt_miss (nidx_none [255] h h0), rfl⟩
    · have hb := fun x (hx : x ∈ b) => h x (by simp [hx])
      have ha2 := fun x (hx : x ∈ a) => h x (by simp [hx])
      have he : escL (a ++ 0 :: b) = a ++ 0 :: ([255] ++ escL b) := by rw [escL_app, escL_cons, escL_none ha]; simp [esc]
      have hi : nidx (escL (a ++ 0 :: b)) [0, 255] = a.length := by rw [he]; exact nidx_hit [255] (escL b) ha2 ha
      have hd : (escL (a ++ 0 :: b)).drop (a.length + [0, 255].length) = escL b := by rw [he]; simp [List.drop_append]
      have ht : (escL (a ++ 0 :: b)).take a.length = a := by rw [he]; simp
      have ih := rep_unesc n b (by simp at hn; omega) hb
      rw [ncnt_hit (by simp) hi, hd, ih.1, cnt_pos_app a b ha, nrep_hit hi, hd, ht, ih.2]
      exact ⟨by omega, by simp⟩
end Go.Proofs.YtbmefmfogdjecaaDoor
/- The library's searches at bytes that are told by natural numbers. -/
namespace Go.Proofs.YtbmefmfogdjecaaDoor
open Go.RowKit
def Zs (s : List Nat) : List Int := s.map fun b => ((b : Nat) : Int)
theorem bytesOf_nat (s : List Nat) : Lib.bytesOf (Zs s) = U s := by
  unfold Lib.bytesOf Zs U
  rw [List.map_map]
  rfl
theorem getD_nat (s : List Nat) (i : Nat) : (Zs s).getD i 0 = ((s.getD i 0 : Nat) : Int) := by
  unfold Zs
  simp only [List.getD, List.getElem?_map]
  cases s[i]? <;> rfl
theorem Zs_lt {s : List Nat} (h : ∀ x ∈ s, x < 256) : ∀ x ∈ Zs s, 0 ≤ x ∧ x < 256 := fun x hx => by
  obtain ⟨b, hb, rfl⟩ := List.mem_map.1 hx
  have := h b hb
  omega
theorem BytesAt.ints {w : World} {p : Addr} {s : List Nat} (h : BytesAt w (some p) s) : ∀ i, i < s.length → w.cell? (p.add i) = some (.int .u8 ((Zs s).getD i 0)) := fun i hi => by
  obtain ⟨q, hq, _, h2⟩ := h.2 i hi
  obtain rfl : p = q := by simpa using hq
  rw [h2, getD_nat]
/-- the library's variable MaxLen holds some number -/
def MaxAt (w : World) (m : Int) : Prop := w.cell? ⟨0, 0, none⟩ = some (.int .i64 m)
theorem MaxAt.below {w w' : World} {m : Int} (h : MaxAt w m) (hb : Below w.heap.size w w') : MaxAt w' m := (hb.cell (p := ⟨0, 0, none⟩) (cell_lt h)).trans h
theorem MaxAt.drewN {w : World} {m : Int} (h : MaxAt w m) (n : Nat) : MaxAt (w.drewN n) m := h
section
variable {w : World} {m : Int}
theorem lib_index (hM : MaxAt w m) (a1 a2 : Addr) (n c1 k c2 : Nat) (s o : List Nat) (h1 : BytesAt w (some a1) s) (h2 : BytesAt w (some a2) o) (l1 : s.length = n) (l2 : o.length = k) (hc : n ≤ c1) (hn : n < 4294967281) (hk : k ≤ 9223372036854775807) : Calls Tryd.prog 68 #[.slice (some a1) n c1, .slice (some a2) k c2] w fun e w' => e = .returned (.int .i64 (nidx s o)) ∧ ∃ q, w' = w.drewN q := by
  have := Any.bytes_Index_at Tryd.layIndex a1 a2 n c1 k c2 (Zs s) (Zs o) m w (by simp [Zs, l1]) (by simp [Zs, l2]) (Zs_lt h1.1) (Zs_lt h2.1) (fun i hi => h1.ints i (by omega)) (fun i hi => h2.ints i (by omega)) hc hn hk hM
  rw [bytesOf_nat, bytesOf_nat] at this
  exact this
theorem lib_count (hM : MaxAt w m) (a1 : Option Addr) (g2 : Nat) (n c1 k c2 : Nat) (s o : List Nat) (h1 : BytesAt w a1 s) (h2 : BytesAt w (some ⟨g2, 0, none⟩) o) (l1 : s.length = n) (l2 : o.length = k) (hc : n ≤ c1) (hn : n < 4294967281) (hk : k ≤ 9223372036854775807) (hk1 : 1 ≤ k) (hnil : a1 = none → n = 0 ∧ c1 = 0) : Calls Tryd.prog 67 #[.slice a1 n c1, .slice (some ⟨g2, 0, none⟩) k c2] w fun e w' => e = .returned (.int .i64 (ncnt s o : Nat)) ∧ ∃ q, w' = w.drewN q := by
  cases a1 with
  | some a1 =>
    have := Any.bytes_Count_any Tryd.layCount a1 ⟨g2, 0, none⟩ n c1 k c2 (Zs s) (Zs o) m w (by simp [Zs, l1]) (by simp [Zs, l2]) (Zs_lt h1.1) (Zs_lt h2.1) (fun i hi => h1.ints i (by omega)) (fun i hi => h2.ints i (by omega)) hc hn hk hk1 hM
    rw [bytesOf_nat, bytesOf_nat] at this
    exact this
  | none =>
    obtain ⟨rfl, rfl⟩ := hnil rfl
    obtain rfl : s = [] := List.eq_nil_of_length_eq_zero l1
    have e0 : ncnt [] o = 0 := by
      cases o with
      | nil => simp at l2; omega
      | cons x o => exact ncnt_miss rfl
    rw [e0]
    have hc := h2.ints 0 (by omega)
    have hc' : w.cell? ⟨g2, 0, none⟩ = some (.int .u8 ((Zs o).getD 0 0)) := by simpa [Addr.add] using hc
    exact (Any.bytes_Count_nil_any Tryd.layCount (some ⟨g2, 0, none⟩) k c2 w hk1 hk (fun _ => ⟨g2, 0, _, rfl, hc'⟩)).mono fun e w' q => ⟨q.1, 0, q.2⟩
end
end Go.Proofs.YtbmefmfogdjecaaDoor
/- bytes.Replace, all of them. -/
namespace Go.Proofs.YtbmefmfogdjecaaDoor
open Go.RowKit
theorem underB : Tryd.prog.underlying 25 = some (.slice 5) := by kernel_rfl
set_option maxRecDepth 100000 in
theorem rep_none {w : World} {m : Int} (hM : MaxAt w m) (a0 : Option Addr) (n c : Nat) (s : List Nat) (h1 : BytesAt w a0 s) (l1 : s.length = n) (hc : n ≤ c) (hn : n ≤ 4000) (hnil : a0 = none → n = 0 ∧ c = 0) (g1 k1 c1 : Nat) (v2 : Value) (o : List Nat) (h2 : BytesAt w (some ⟨g1, 0, none⟩) o) (l2 : o.length = k1) (hk1 : 1 ≤ k1) (hk2 : k1 ≤ 2) (h0 : ncnt s o = 0) :
    Calls Tryd.prog 65 #[.slice a0 n c, .slice (some ⟨g1, 0, none⟩) k1 c1, v2, .int .i64 (-1)] w (clonePost 5 (bV s) w) := by
  have hC := lib_count hM a0 g1 n c k1 c1 s o h1 h2 l1 l2 hc (by omega) (by omega) hk1 hnil
  rw [h0] at hC
  replace hC := Lib.hid hC
  cases a0 with
  | none =>
    obtain ⟨rfl, rfl⟩ := hnil rfl
    obtain rfl : s = [] := List.eq_nil_of_length_eq_zero l1
    have hR : ∀ w' q, w' = w.drewN q → clonePost 5 (bV []) w (.returned (.slice none 0 0)) w' := fun w' q e => by subst e; exact ⟨_, none, rfl, Own.nil _ _, below_drewN (Below.refl _ _) _, Or.inl rfl⟩
    clear h1 h2 hnil h0 l1
    go_enter Tryd.func65, Tryd.ntmps65
    go_wp2_with (go_at_call 67; refine hC.out.mono ?_; rintro e w' ⟨rfl, q, rfl⟩)

    go_ret
    exact hR _ _ rfl
  | some p =>
    have Hr : Hid (∀ q, ∀ j u, (bV s)[j]? = some u → (w.drewN q).cell? (p.add j) = some u) := fun q j u hj => by
      rw [bV_get] at hj
      have hj2 : j < s.length := by
        by_cases h : j < s.length
        · exact h
        · rw [List.getElem?_eq_none (by omega)] at hj; simp at hj
      rw [List.getElem?_eq_getElem hj2] at hj
      simp only [Option.map_some, Option.some.injEq] at hj
      subst hj
      obtain ⟨p', hp, _, h2⟩ := h1.2 j hj2
      obtain rfl : p = p' := by simpa using hp
      show w.cell? _ = _
      rw [h2]
      simp [List.getD, hj2]
    have H1 := Lib.hid (bV_one s)
    have hlen : Hid ((bV s).length = n) := by show _ = _; simp [bV, l1]
    have hb1 : Hid (([] : List Value).length + n ≤ maxLen) := by show _ ≤ _; simp only [maxLen, List.length_nil]; omega
    have hb2 : Hid ((([] : List Value).length + n) * 1 ≤ 140737488355328) := by show _ ≤ _; simp only [List.length_nil]; omega
    have hR : Hid (∀ q v' w' bo', Own 5 w' v' ([] ++ bV s) bo' → Mod (fun k => (none : Option Nat) = some k) (w.drewN q) w' → NewOr (w.drewN q) none bo' → clonePost 5 (bV s) w (.returned v') w') := fun q v' w' bo' h1 h2 h3 => by
      refine ⟨v', bo', rfl, by simpa using h1, ?_, ?_⟩
      · have : Mod (fun _ => False) (w.drewN q) w' := h2.mono (fun k _ e => by cases e)
        have := this.below
        exact ⟨this.os, this.tape, this.output, this.size, this.block⟩
      · rcases h3 with rfl | ⟨g, e, hg⟩
        · exact Or.inl rfl
        · exact Or.inr ⟨g, e, hg⟩
    clear h1 h2 hnil h0 l1 hM
    go_enter Tryd.func65, Tryd.ntmps65
    go_wp2_with (first | (go_at_call 67; refine hC.out.mono ?_; rintro e w' ⟨rfl, q, rfl⟩) | (at_builtin; go_loud (refine wpList_append_at rfl _ (.tmp 24) 25 rfl 5 (.int .u8 0) 1 cloneB_under cloneB_info rfl (.slice none 0 0) rfl [] none (Own.nil _ _) p n c (bV s) rfl hlen.out (Hr.out _) H1.out hb1.out hb2.out ?_); intro v1 w1 bo1 HO HM HN))
    go_ret
    exact hR.out _ _ _ _ HO.out HM.out HN.out
end Go.Proofs.YtbmefmfogdjecaaDoor
/- bytes.Replace, all of them, where there are some. -/
namespace Go.Proofs.YtbmefmfogdjecaaDoor
open Go.RowKit
theorem ncnt_le (s o : List Nat) : ncnt s o ≤ s.length + 1 := by unfold ncnt; have := Lib.count_le (U s) (U o); rw [U_len] at this; exact this
/-- the buffer: D lies ahead -/
def RpB (w : World) (g tot : Nat) (D : List Nat) (wr : World) : Prop := ∃ cur : List Value, wr.heap[g]? = some (.cells cur.toArray 5 (0, 0)) ∧ cur.length = tot ∧ cur.take D.length = bV D ∧ D.length ≤ tot ∧ Below w.heap.size w wr ∧ w.heap.size ≤ g
theorem RpB.drewN {w wr : World} {g tot : Nat} {D : List Nat} (h : RpB w g tot D wr) (q : Nat) : RpB w g tot D (wr.drewN q) := by
  obtain ⟨cur, h1, h2, h3, h4, h5, h6⟩ := h; exact ⟨cur, h1, h2, h3, h4, below_drewN h5 q, h6⟩
theorem RpB.old {w wr : World} {g tot : Nat} {D : List Nat} (h : RpB w g tot D wr) : Below w.heap.size w wr := by
  obtain ⟨cur, h1, h2, h3, h4, h5, h6⟩ := h; exact h5
theorem add_two (p : Addr) (i j : Nat) : (p.add i).add j = p.add (i + j) := by
  unfold Addr.add
  by_cases hi : i = 0
  · subst hi; simp
  · by_cases hj : j = 0
    · subst hj; simp
    · simp [hi, hj, Nat.add_assoc]
theorem bytes_drop {w : World} {p : Addr} {st : Nat} {s : List Nat} (h : BytesAt w (some p) s) (hs : st ≤ s.length) : BytesAt w (some (p.add st)) (s.drop st) := by
  refine ⟨fun x hx => h.1 x (List.mem_of_mem_drop hx), fun i hi => ?_⟩
  rw [List.length_drop] at hi
  obtain ⟨p', hp, h1, h2⟩ := h.2 (st + i) (by omega)
  obtain rfl : p = p' := by simpa using hp
  refine ⟨_, rfl, ?_, ?_⟩
  · rw [add_two]; exact h1
  · rw [add_two, h2]
    simp [List.getD, List.getElem?_drop]
theorem bV_app (a b : List Nat) : bV (a ++ b) = bV a ++ bV b := by simp [bV]
theorem bV_len (a : List Nat) : (bV a).length = a.length := by simp [bV]
/-- X is laid behind D -/
theorem rpb_step {w w4 : World} {g tot : Nat} {D X : List Nat} {cur : List Value} (b2 : cur.length = tot) (b3 : cur.take D.length = bV D) (hr : D.length + X.length ≤ tot) (hg : w4.heap[g]? = some (.cells (splice cur D.length (bV X)).toArray 5 (0, 0))) (hb : Below w.heap.size w w4) (h6 : w.heap.size ≤ g) : RpB w g tot (D ++ X) w4 := by
  refine ⟨_, hg, ?_, ?_, by simpa using hr, hb, h6⟩
  · rw [length_splice _ _ _ (by rw [bV_len, b2]; exact hr), b2]
  · unfold splice
    rw [b3, bV_app, List.length_append, ← List.append_assoc]
    rw [show D.length + X.length = (bV D ++ bV X).length from by simp [bV_len], List.take_left]
/-- the cells of a part of bytes -/
theorem bytes_part {w : World} {p : Addr} {st j : Nat} {s : List Nat} (h : BytesAt w (some p) s) (hj : st + j ≤ s.length) : ∀ i v, (bV ((s.drop st).take j))[i]? = some v → w.cell? ((p.add st).add i) = some v := fun i v hv => by
  rw [bV_get] at hv
  have hi : i < j := by
    by_cases q : i < j
    · exact q
    · rw [List.getElem?_eq_none (by simp; omega)] at hv; simp at hv
  obtain ⟨p', hp, h1, h2⟩ := h.2 (st + i) (by omega)
  obtain rfl : p = p' := by simpa using hp
  rw [add_two, h2, ← hv]
  simp [List.getElem?_take, hi, List.getElem?_drop, List.getD, List.getElem?_eq_getElem (show st + i < s.length by omega)]
theorem bytes_all {w : World} {g : Nat} {s : List Nat} (h : BytesAt w (some ⟨g, 0, none⟩) s) : ∀ i v, (bV s)[i]? = some v → w.cell? ((⟨g, 0, none⟩ : Addr).add i) = some v := fun i v hv => by
  have := bytes_part (st := 0) (j := s.length) h (by omega) i v (by simpa using hv)
  rw [add_two, Nat.zero_add] at this
  exact this
theorem szB : (Tryd.prog.info? 5).map (·.size) = some 1 := by kernel_rfl
theorem rpb_start (w : World) (q tot : Nat) : RpB w w.heap.size tot [] ((w.drewN q).alloc (.cells (List.replicate tot (.int .u8 0)).toArray 5)) :=
  ⟨List.replicate tot (.int .u8 0), heap_alloc_new (w.drewN q) _, by simp, by simp [bV], Nat.zero_le _, (below_drewN (Below.refl _ w) q).alloc (Nat.le_refl _) _, Nat.le_refl _⟩
/-- all is laid -/
theorem rpb_end {w wr : World} {g tot : Nat} {F : List Nat} (h : RpB w g tot F wr) (hF : F.length = tot) (hm : tot ≤ maxLen) : clonePost 5 (bV F) w (.returned (.slice (some ⟨g, 0, none⟩) tot tot)) wr := by
  obtain ⟨cur, h1, h2, h3, h4, h5, h6⟩ := h
  refine ⟨_, some g, rfl, Or.inr ⟨g, tot, cur.toArray, rfl, by rw [bV_len, hF], h1, by rw [bV_len, hF]; exact Nat.le_refl _, hm, by simpa using h2, ?_⟩, h5, Or.inr ⟨g, rfl, h6⟩⟩
  rw [bV_len]; simpa using h3
set_option maxHeartbeats 1000000 in
set_option maxRecDepth 100000 in
theorem rep_some_a {w : World} {m : Int} (hM : MaxAt w m) (p : Addr) (n c : Nat) (s : List Nat) (h1 : BytesAt w (some p) s) (l1 : s.length = n) (hc : n ≤ c) (hcm : c ≤ maxLen) (hn : n ≤ 4000) (g1 c1 g2 c2 : Nat) (o nw : List Nat) (h2 : BytesAt w (some ⟨g1, 0, none⟩) o) (h3 : BytesAt w (some ⟨g2, 0, none⟩) nw) (l2 : o.length = 1) (l3 : nw.length = 2) (h0 : 0 < ncnt s o) :
    Calls Tryd.prog 65 #[.slice (some p) n c, .slice (some ⟨g1, 0, none⟩) 1 c1, .slice (some ⟨g2, 0, none⟩) 2 c2, .int .i64 (-1)] w (clonePost 5 (bV (nrep o nw (ncnt s o) s)) w) := by
  have hC := Lib.hid (lib_count hM (some p) g1 n c 1 c1 s o h1 h2 l1 l2 hc (by omega) (by omega) (by omega) (fun e => by cases e))
  have hkn := ncnt_le s o
  have Hn4 : Hid (n ≤ 4000 ∧ s.length = n ∧ n ≤ c) := ⟨hn, l1, hc⟩
  have hlen := nrep_len (old := o) (new := nw) (by intro e; rw [e] at l2; simp at l2) (ncnt s o) s (Nat.le_refl _)
  obtain ⟨tot, htot⟩ : ∃ tot, tot = (nrep o nw (ncnt s o) s).length := ⟨_, rfl⟩
  rw [← htot, l1, l2, l3] at hlen
  have hkk := ncnt_le s o
  have htb : tot ≤ 9000 := by omega
  clear hkk
  have Ht := Lib.hid htot
  clear htot
  obtain ⟨k, hk⟩ : ∃ k, k = ncnt s o := ⟨_, rfl⟩
  have Hk := Lib.hid hk
  rw [← hk] at hC h0 hkn hlen
  clear hk
  have hk0 : ((k : Nat) : Int) ≠ 0 := by omega
  have Hkn := Lib.hid hkn
  go_enter Tryd.func65, Tryd.ntmps65
  have hmk : ∀ w, (Instr.makeSlice 25 (.int .i64 ((n:Int)+(k:Int))) (.int .i64 ((n:Int)+(k:Int)))).run Tryd.prog w = .ok (.slice (some ⟨w.heap.size, 0, none⟩) tot tot) (w.alloc (.cells (List.replicate tot (.int .u8 0)).toArray 5)) := fun w => by rw [show ((n:Int)+(k:Int)) = (tot : Nat) from by omega]; exact make_u8 w tot (by omega)
  go_wp2_with (go_at_call 67; refine hC.out.mono ?_; rintro e w' ⟨rfl, q, rfl⟩)
  clear hmk
  have hR := Lib.hid (rpb_start w q tot)
  change Code.wp _ _ _ _ ((w.drewN q).alloc (.cells (List.replicate tot (.int .u8 0)).toArray 5))
  generalize (w.drewN q).alloc (.cells (List.replicate tot (.int .u8 0)).toArray 5) = w1 at *
  generalize hg : w.heap.size = g at *
  have HB := Lib.hid (fun wr (q : RpB w g tot [] wr → False) => q)
  have H1 : Hid (∀ D wr, RpB w g tot D wr → BytesAt wr (some p) s) := fun D wr h => h1.below h.old
  have H2 : Hid (∀ D wr, RpB w g tot D wr → BytesAt wr (some ⟨g1, 0, none⟩) o) := fun D wr h => h2.below h.old
  have H3 : Hid (∀ D wr, RpB w g tot D wr → BytesAt wr (some ⟨g2, 0, none⟩) nw) := fun D wr h => h3.below h.old
  have HM : Hid (∀ D wr, RpB w g tot D wr → MaxAt wr m) := fun D wr h => hM.below h.old
  have hT := Lib.hid hlen
  clear h1 h2 h3 hM hC HB hlen
  go_loopw [49, 11, 12] (fun vi vw vs wr => ∃ (i st : Nat) (D : List Nat), vi = .int .i64 (i : Nat) ∧ vw = .int .i64 (D.length : Nat) ∧ vs = .int .i64 (st : Nat) ∧ i ≤ k ∧ st ≤ n ∧ Hid (ncnt (s.drop st) o = k - i ∧ D ++ nrep o nw (k - i) (s.drop st) = nrep o nw k s) ∧ Hid (RpB w g tot D wr)) (fun vi _ _ _ => (k - intOf vi).toNat)
  case atStart => exact ⟨0, 0, [], rfl, rfl, rfl, by omega, by omega, ⟨by rw [List.drop_zero, ← Hk.out]; rfl, by simp⟩, hR⟩
  case round =>
    obtain ⟨i, st, D, rfl, rfl, rfl, hi, hst, hcd, hs⟩ := hrel
    by_cases hlt : i < k
    · have hlt2 : (i : Int) < (k : Nat) := by omega
      obtain ⟨j, hj, hjr⟩ := nidx_of_cnt (s := s.drop st) (old := o) (by have := hcd.out.1; omega)
      rw [List.length_drop, l1, l2] at hjr
      have hIx := Lib.hid (lib_index (HM.out _ _ hs.out) (p.add st) ⟨g1, 0, none⟩ (n - st) (c - st) 1 c1 (s.drop st) o (bytes_drop (H1.out _ _ hs.out) (by omega)) (H2.out _ _ hs.out) (by rw [List.length_drop, l1]) l2 (by omega) (by omega) (by omega))
      rw [hj] at hIx
      have q1 : (st : Int) ≤ (n : Int) := by omega
      have q2 : (st : Int) < (n : Int) := by omega
      have q3 : (n : Int) ≤ (c : Int) := by omega
      clear hlt
      obtain ⟨en, hen⟩ : ∃ en : Nat, en = st + j := ⟨_, rfl⟩
      have hens : Hid ((st : Int) + (j : Int) = (en : Int)) := by show _ = _; omega
      go_upto_region 15 with (go_at_call 68; refine hIx.out.mono ?_; rintro e w' ⟨rfl, q4, rfl⟩; have hs2 := Lib.hid (hs.out.drewN q4))
      rw [hens.out]
      have hX : ((s.drop st).take j).length = j := by rw [List.length_take, List.length_drop, l1]; omega
      have hnx : Hid (ncnt (s.drop (en + 1)) o = k - (i + 1) ∧ (D ++ (s.drop st).take j) ++ nw ++ nrep o nw (k - (i + 1)) (s.drop (en + 1)) = nrep o nw k s) := by
        have e1 := ncnt_hit (by intro e; rw [e] at l2; simp at l2) hj
        have e2 := nrep_hit (new := nw) (k := k - (i + 1)) hj
        rw [List.drop_drop, l2] at e1 e2
        rw [show k - (i + 1) + 1 = k - i from by omega] at e2
        have e3 := hcd.out
        refine ⟨by rw [show en + 1 = st + (j + 1) from by omega]; omega, ?_⟩
        rw [show en + 1 = st + (j + 1) from by omega, ← e3.2, e2]
        simp
      have hroom : D.length + j + 2 ≤ tot := by
        have e := congrArg List.length hnx.out.2
        rw [List.length_append, List.length_append, List.length_append, hX, l3, Hk.out, ← Ht.out] at e
        omega
      clear hj hIx
      generalize wr.drewN q4 = w2 at *
      obtain ⟨cur, b1, b2, b3, b4, b5, b6⟩ := hs2.out
      have q5 : (D.length : Int) < (tot : Int) := by omega
      have q6 : (D.length : Int) ≤ (tot : Int) := by omega
      have q7 : (en : Int) ≤ (c : Int) := by omega
      have q8 : (st : Int) ≤ (en : Int) := by omega
      have q12 : ¬ tot = D.length := by omega
      have q13 : ¬ c = st := by omega
      have hn1 : Hid ((bV ((s.drop st).take j)).length = Nat.min (en - st) (tot - D.length)) := by
        show _ = _
        rw [bV_len, hX, show en - st = j from by omega]; exact (Nat.min_eq_left (by omega)).symm
      have hp1 : Hid (0 < (bV ((s.drop st).take j)).length → (some ⟨g, D.length, none⟩ : Option Addr) = some ⟨g, D.length, none⟩ ∧ ∃ ad, (some (p.add st) : Option Addr) = some ad ∧ ∀ i v, (bV ((s.drop st).take j))[i]? = some v → w2.drew.cell? (ad.add i) = some v) := fun _ =>
        ⟨rfl, _, rfl, bytes_part (H1.out _ _ (hs2.out.drewN 1)) (by omega)⟩
      have hf1 : Hid (D.length + (bV ((s.drop st).take j)).length ≤ cur.length) := by show _ ≤ _; rw [bV_len, hX, b2]; omega
      have ho1 := Lib.hid (bV_one ((s.drop st).take j))
      have B1d : Hid (w2.drew.heap[g]? = some (.cells cur.toArray 5 (0, 0))) := b1
      have B5d : Hid (Below w.heap.size w w2.drew) := below_drewN b5 1
      have hX2 : Hid ((bV ((s.drop st).take j)).length = j) := by show _ = _; rw [bV_len, hX]
      have KK := Lib.hid (And.intro b2 (And.intro b3 (And.intro hX (And.intro hroom (And.intro hen (And.intro hjr (And.intro hst (And.intro hi (And.intro l3 q3)))))))))
      clear b1 b2 b3 b4 b5 hX hroom hen hjr hst hi hkn hn hcm hc l1 l2 l3
      go_region_law (refine step_copy_splice rfl (.tmp 61) (.tmp 65) 25 25 rfl 5 underB szB (some ⟨g, D.length, none⟩) (some (p.add st)) (tot - D.length) (tot - D.length) (en - st) (c - st) (by simp [Act.eval, Act.put]) (by simp [Act.eval, Act.put]) g D.length cur 5 B1d.out (bV ((s.drop st).take j)) hn1.out hp1.out hf1.out ho1.out w.heap.size w B5d.out b6 ?_; intro w4 hg4 hb4; rw [hX2.out])
      obtain ⟨b2, b3, hX, hroom, hen, hjr, hst, hi, l3, q3⟩ := KK.out
      have r4 := Lib.hid (rpb_step (X := (s.drop st).take j) b2 b3 (by rw [hX]; omega) hg4.out hb4 b6)
      clear hn1 hp1 hf1 ho1 B1d B5d hg4 hb4 b2 b3
      obtain ⟨cur2, d1, d2, d3, d4, d5, d6⟩ := r4.out
      obtain ⟨E1, hE1⟩ : ∃ E1, E1 = D.length + j := ⟨_, rfl⟩
      have hDX : (D ++ (s.drop st).take j).length = E1 := by rw [List.length_append, hX, hE1]
      have q9 : (E1 : Int) ≤ (tot : Int) := by omega
      have q10 : (E1 : Int) < (tot : Int) := by omega
      have q11 : ¬ tot = E1 := by omega
      rw [hDX] at d3
      have Bd1 := Lib.hid d1
      have Bd5 := Lib.hid d5
      have hn2 : Hid ((bV nw).length = Nat.min 2 (tot - E1)) := by show _ = _; rw [bV_len, l3]; exact (Nat.min_eq_left (by omega)).symm
      have hp2 : Hid (0 < (bV nw).length → (some ⟨g, E1, none⟩ : Option Addr) = some ⟨g, E1, none⟩ ∧ ∃ ad, (some ⟨g2, 0, none⟩ : Option Addr) = some ad ∧ ∀ i v, (bV nw)[i]? = some v → w4.cell? (ad.add i) = some v) := fun _ => ⟨rfl, _, rfl, bytes_all (H3.out _ _ r4.out)⟩
      have hf2 : Hid (E1 + (bV nw).length ≤ cur2.length) := by show _ ≤ _; rw [bV_len, l3, d2]; omega
      have ho2 := Lib.hid (bV_one nw)
      have hB2 : Hid ((bV nw).length = 2) := by show _ = _; rw [bV_len, l3]
      have KS : Hid ((D.length : Int) + (j : Int) = ((E1 : Nat) : Int)) := by show _ = _; omega
      have hDb : (D.length : Int) ≤ 9000 := by omega
      have hjb : (j : Int) ≤ 9000 := by omega
      have K2 := Lib.hid (And.intro hDX (And.intro d2 (And.intro d3 (And.intro hE1 (And.intro hroom (And.intro hen (And.intro hjr (And.intro hst (And.intro hi (And.intro l3 q3))))))))))
      clear hE1 hDX hX d1 d2 d3 d4 d5 hroom hjr hen hst hi q1 q2 q3 q5 q6 q7 q8 q12 q13 l3 KK
      go_upto_region 16 with fail
      rw [KS.out]
      have q14 : (en : Int) ≤ 4000 := by obtain ⟨_, _, _, _, _, _, _, _, _, _, _⟩ := K2.out; have := Hn4.out.1; omega
      have q15 : (i : Int) ≤ 4001 := by have := Hn4.out; have := Hkn.out; omega
      have hen1 : Hid ((en : Int) + 1 = ((en + 1 : Nat) : Int)) := by show _ = _; omega
      have hE2 : Hid ((E1 : Int) + 2 = ((E1 + 2 : Nat) : Int)) := by show _ = _; omega
      go_wp2_with (with_reducible show wpList _ _ _ (⟨some 73, _, _, _, _, _⟩ :: _) _ _; refine wpList_copy_splice (o := ⟨some 73, _, _, _, _, _⟩) rfl (.tmp 71) (.tmp 72) 25 25 rfl 5 underB szB (some ⟨g, E1, none⟩) (some ⟨g2, 0, none⟩) (tot - E1) (tot - E1) 2 c2 rfl rfl g E1 cur2 5 Bd1.out (bV nw) hn2.out hp2.out hf2.out ho2.out w.heap.size w Bd5.out d6 ?_; intro w5 hg5 hb5; rw [hB2.out])
      obtain ⟨hDX, d2, d3, hE1, hroom, hen, hjr, hst, hi, l3, q3⟩ := K2.out
      have r5 := Lib.hid (rpb_step (X := nw) (D := D ++ (s.drop st).take j) d2 (by rw [hDX]; exact d3) (by rw [hDX, l3]; omega) (by rw [hDX]; exact hg5.out) hb5 d6)
      have hn4 := Hn4.out
      refine ⟨⟨_, _, _, _, ⟨i + 1, rfl, en + 1, (D ++ (s.drop st).take j) ++ nw, rfl, rfl, by omega, by omega, hnx, r5⟩, ?_, ?_, rfl, ?_⟩, ?_⟩
      · rw [hE2.out, List.length_append, hDX, l3]
      · rw [hen1.out]
      · rfl
      · show max _ _ < _
        simp only [intOf]; omega
    · have hnt := Hn4.out
      have hTD : tot = D.length + (n - st) ∧ nrep o nw k s = D ++ s.drop st := by
        have e1 := hcd.out
        rw [show k - i = 0 from by omega] at e1
        have e2 : D ++ s.drop st = nrep o nw k s := e1.2
        refine ⟨?_, e2.symm⟩
        have e3 := congrArg List.length e2
        rw [List.length_append, List.length_drop, Hk.out, ← Ht.out] at e3
        omega
      have hX : (s.drop st).length = n - st := by rw [List.length_drop]; omega
      have hX2 : Hid ((bV (s.drop st)).length = n - st) := by show _ = _; rw [bV_len, hX]
      have hlt2 : ¬ ((i : Int) < (k : Nat)) := by omega
      obtain ⟨cur, b1, b2, b3, b4, b5, b6⟩ := hs.out
      have B1d : Hid (wr.drew.heap[g]? = some (.cells cur.toArray 5 (0, 0))) := b1
      have B5d : Hid (Below w.heap.size w wr.drew) := below_drewN b5 1
      have hf1 : Hid (D.length + (bV (s.drop st)).length ≤ cur.length) := by show _ ≤ _; rw [bV_len, hX, b2]; omega
      have ho1 := Lib.hid (bV_one (s.drop st))
      have KS : Hid ((D.length : Int) + ((n - st : Nat) : Int) = (tot : Int)) := by show _ = _; omega
      have hR : Hid (∀ w4 : World, w4.heap[g]? = some (.cells (splice cur D.length (bV (s.drop st))).toArray 5 (0, 0)) → Below w.heap.size w w4 → clonePost 5 (bV (nrep o nw (ncnt s o) s)) w (.returned (.slice (some ⟨g, 0, none⟩) tot tot)) w4) := fun w4 hg4 hb4 => by
        rw [← Hk.out, hTD.2]
        exact rpb_end (rpb_step b2 b3 (by rw [hX]; omega) hg4 hb4 b6) (by rw [List.length_append, hX]; omega) (by have : maxLen = 9223372036854775807 := rfl; omega)
      have q5 : (D.length : Int) ≤ (tot : Int) := by omega
      have q6 : (st : Int) ≤ (n : Int) := by omega
      have q7 : (n : Int) ≤ (c : Int) := by omega
      have hDb : (D.length : Int) ≤ 9000 := by omega
      have hjb : ((n - st : Nat) : Int) ≤ 9000 := by omega
      clear b1 b2 b4 b5
      by_cases hsn : st < n
      · have q12 : ¬ tot = D.length := by omega
        have q13 : ¬ c = st := by omega
        clear hsn
        have hn1 : Hid ((bV (s.drop st)).length = Nat.min (n - st) (tot - D.length)) := by
          show _ = _
          rw [bV_len, hX, show tot - D.length = n - st from by omega]; exact (Nat.min_self _).symm
        have hp1 : Hid (0 < (bV (s.drop st)).length → (some ⟨g, D.length, none⟩ : Option Addr) = some ⟨g, D.length, none⟩ ∧ ∃ ad, (some (p.add st) : Option Addr) = some ad ∧ ∀ i v, (bV (s.drop st))[i]? = some v → wr.drew.cell? (ad.add i) = some v) := fun h0 => by
          rw [bV_len, hX] at h0
          exact ⟨rfl, _, rfl, fun i v hv => by have := bytes_part (st := st) (j := n - st) (H1.out _ _ (hs.out.drewN 1)) (by omega) i v (by rw [List.take_of_length_le (by omega)]; exact hv); exact this⟩
        clear hX hnt b3 hi hst hlt hTD
        go_upto_region 28 with fail
        go_region_law (refine step_copy_splice rfl (.tmp 123) (.tmp 126) 25 25 rfl 5 underB szB (some ⟨g, D.length, none⟩) (some (p.add st)) (tot - D.length) (tot - D.length) (n - st) (c - st) (by simp [Act.eval, Act.put]) (by simp [Act.eval, Act.put]) g D.length cur 5 B1d.out (bV (s.drop st)) hn1.out hp1.out hf1.out ho1.out w.heap.size w B5d.out b6 ?_; intro w4 hg4 hb4; rw [hX2.out])
        have hE := hR.out w4 hg4.out hb4
        go_upto_region 29 with fail
        rw [KS.out]
        go_wp2_with fail
        go_ret
        exact hE
      · obtain rfl : n = st := by omega
        have hnil : Hid (bV (s.drop n) = []) := by show _ = _; rw [List.eq_nil_of_length_eq_zero (show (s.drop n).length = 0 from by omega)]; rfl
        have eT : tot = D.length := by omega
        subst eT
        have hf2 : Hid (D.length + ([] : List Value).length ≤ cur.length) := by have h := hf1.out; show _ ≤ _; simp only [List.length_nil]; omega
        clear hX hnt b3 hi hst hlt hTD hsn hjb hX2 hf1 ho1 KS
        by_cases hcs : c = n
        · subst hcs
          go_upto_region 28 with fail
          go_region_law (refine step_copy_splice rfl (.tmp 123) (.tmp 126) 25 25 rfl 5 underB szB (some ⟨g, 0, none⟩) (some p) 0 0 0 (0) (by simp [Act.eval, Act.put]) (by simp [Act.eval, Act.put]) g D.length cur 5 B1d.out [] rfl (fun h => by cases h) hf2.out (fun u hu => by cases hu) w.heap.size w B5d.out b6 ?_; intro w4 hg4 hb4)
          have hE := hR.out w4 (by rw [hnil.out]; exact hg4.out) hb4
          go_wp2_with fail
          go_ret
          exact hE
        · have q13 : ¬ c = n := hcs
          go_upto_region 28 with fail
          go_region_law (refine step_copy_splice rfl (.tmp 123) (.tmp 126) 25 25 rfl 5 underB szB (some ⟨g, 0, none⟩) (some (p.add n)) 0 0 0 (c - n) (by simp [Act.eval, Act.put]) (by simp [Act.eval, Act.put]) g D.length cur 5 B1d.out [] rfl (fun h => by cases h) hf2.out (fun u hu => by cases hu) w.heap.size w B5d.out b6 ?_; intro w4 hg4 hb4)
          have hE := hR.out w4 (by rw [hnil.out]; exact hg4.out) hb4
          go_wp2_with fail
          go_ret
          exact hE

set_option maxHeartbeats 1000000 in
set_option maxRecDepth 100000 in
theorem rep_some_b {w : World} {m : Int} (hM : MaxAt w m) (p : Addr) (n c : Nat) (s : List Nat) (h1 : BytesAt w (some p) s) (l1 : s.length = n) (hc : n ≤ c) (hcm : c ≤ maxLen) (hn : n ≤ 4000) (g1 c1 g2 c2 : Nat) (o nw : List Nat) (h2 : BytesAt w (some ⟨g1, 0, none⟩) o) (h3 : BytesAt w (some ⟨g2, 0, none⟩) nw) (l2 : o.length = 2) (l3 : nw.length = 1) (h0 : 0 < ncnt s o) :
    Calls Tryd.prog 65 #[.slice (some p) n c, .slice (some ⟨g1, 0, none⟩) 2 c1, .slice (some ⟨g2, 0, none⟩) 1 c2, .int .i64 (-1)] w (clonePost 5 (bV (nrep o nw (ncnt s o) s)) w) := by
  have hC := Lib.hid (lib_count hM (some p) g1 n c 2 c1 s o h1 h2 l1 l2 hc (by omega) (by omega) (by omega) (fun e => by cases e))
  have hkn := ncnt_le s o
  have Hn4 : Hid (n ≤ 4000 ∧ s.length = n ∧ n ≤ c) := ⟨hn, l1, hc⟩
  have hlen := nrep_len (old := o) (new := nw) (by intro e; rw [e] at l2; simp at l2) (ncnt s o) s (Nat.le_refl _)
  obtain ⟨tot, htot⟩ : ∃ tot, tot = (nrep o nw (ncnt s o) s).length := ⟨_, rfl⟩
  rw [← htot, l1, l2, l3] at hlen
  have hkk := ncnt_le s o
  have htb : tot ≤ 9000 := by omega
  clear hkk
  have Ht := Lib.hid htot
  clear htot
  obtain ⟨k, hk⟩ : ∃ k, k = ncnt s o := ⟨_, rfl⟩
  have Hk := Lib.hid hk
  rw [← hk] at hC h0 hkn hlen
  clear hk
  have hk0 : ((k : Nat) : Int) ≠ 0 := by omega
  have Hkn := Lib.hid hkn
  go_enter Tryd.func65, Tryd.ntmps65
  have hmk : ∀ w, (Instr.makeSlice 25 (.int .i64 ((n:Int)+-(k:Int))) (.int .i64 ((n:Int)+-(k:Int)))).run Tryd.prog w = .ok (.slice (some ⟨w.heap.size, 0, none⟩) tot tot) (w.alloc (.cells (List.replicate tot (.int .u8 0)).toArray 5)) := fun w => by rw [show ((n:Int)+-(k:Int)) = (tot : Nat) from by omega]; exact make_u8 w tot (by omega)
  go_wp2_with (go_at_call 67; refine hC.out.mono ?_; rintro e w' ⟨rfl, q, rfl⟩)
  clear hmk
  have hR := Lib.hid (rpb_start w q tot)
  change Code.wp _ _ _ _ ((w.drewN q).alloc (.cells (List.replicate tot (.int .u8 0)).toArray 5))
  generalize (w.drewN q).alloc (.cells (List.replicate tot (.int .u8 0)).toArray 5) = w1 at *
  generalize hg : w.heap.size = g at *
  have HB := Lib.hid (fun wr (q : RpB w g tot [] wr → False) => q)
  have H1 : Hid (∀ D wr, RpB w g tot D wr → BytesAt wr (some p) s) := fun D wr h => h1.below h.old
  have H2 : Hid (∀ D wr, RpB w g tot D wr → BytesAt wr (some ⟨g1, 0, none⟩) o) := fun D wr h => h2.below h.old
  have H3 : Hid (∀ D wr, RpB w g tot D wr → BytesAt wr (some ⟨g2, 0, none⟩) nw) := fun D wr h => h3.below h.old
  have HM : Hid (∀ D wr, RpB w g tot D wr → MaxAt wr m) := fun D wr h => hM.below h.old
  have hT := Lib.hid hlen
  clear h1 h2 h3 hM hC HB hlen
  go_loopw [49, 11, 12] (fun vi vw vs wr => ∃ (i st : Nat) (D : List Nat), vi = .int .i64 (i : Nat) ∧ vw = .int .i64 (D.length : Nat) ∧ vs = .int .i64 (st : Nat) ∧ i ≤ k ∧ st ≤ n ∧ Hid (ncnt (s.drop st) o = k - i ∧ D ++ nrep o nw (k - i) (s.drop st) = nrep o nw k s) ∧ Hid (RpB w g tot D wr)) (fun vi _ _ _ => (k - intOf vi).toNat)
  case atStart => exact ⟨0, 0, [], rfl, rfl, rfl, by omega, by omega, ⟨by rw [List.drop_zero, ← Hk.out]; rfl, by simp⟩, hR⟩
  case round =>
    obtain ⟨i, st, D, rfl, rfl, rfl, hi, hst, hcd, hs⟩ := hrel
    by_cases hlt : i < k
    · have hlt2 : (i : Int) < (k : Nat) := by omega
      obtain ⟨j, hj, hjr⟩ := nidx_of_cnt (s := s.drop st) (old := o) (by have := hcd.out.1; omega)
      rw [List.length_drop, l1, l2] at hjr
      have hIx := Lib.hid (lib_index (HM.out _ _ hs.out) (p.add st) ⟨g1, 0, none⟩ (n - st) (c - st) 2 c1 (s.drop st) o (bytes_drop (H1.out _ _ hs.out) (by omega)) (H2.out _ _ hs.out) (by rw [List.length_drop, l1]) l2 (by omega) (by omega) (by omega))
      rw [hj] at hIx
      have q1 : (st : Int) ≤ (n : Int) := by omega
      have q2 : (st : Int) < (n : Int) := by omega
      have q3 : (n : Int) ≤ (c : Int) := by omega
      clear hlt
      obtain ⟨en, hen⟩ : ∃ en : Nat, en = st + j := ⟨_, rfl⟩
      have hens : Hid ((st : Int) + (j : Int) = (en : Int)) := by show _ = _; omega
      go_upto_region 15 with (go_at_call 68; refine hIx.out.mono ?_; rintro e w' ⟨rfl, q4, rfl⟩; have hs2 := Lib.hid (hs.out.drewN q4))
      rw [hens.out]
      have hX : ((s.drop st).take j).length = j := by rw [List.length_take, List.length_drop, l1]; omega
      have hnx : Hid (ncnt (s.drop (en + 2)) o = k - (i + 1) ∧ (D ++ (s.drop st).take j) ++ nw ++ nrep o nw (k - (i + 1)) (s.drop (en + 2)) = nrep o nw k s) := by
        have e1 := ncnt_hit (by intro e; rw [e] at l2; simp at l2) hj
        have e2 := nrep_hit (new := nw) (k := k - (i + 1)) hj
        rw [List.drop_drop, l2] at e1 e2
        rw [show k - (i + 1) + 1 = k - i from by omega] at e2
        have e3 := hcd.out
        refine ⟨by rw [show en + 2 = st + (j + 2) from by omega]; omega, ?_⟩
        rw [show en + 2 = st + (j + 2) from by omega, ← e3.2, e2]
        simp
      have hroom : D.length + j + 1 ≤ tot := by
        have e := congrArg List.length hnx.out.2
        rw [List.length_append, List.length_append, List.length_append, hX, l3, Hk.out, ← Ht.out] at e
        omega
      clear hj hIx
      generalize wr.drewN q4 = w2 at *
      obtain ⟨cur, b1, b2, b3, b4, b5, b6⟩ := hs2.out
      have q5 : (D.length : Int) < (tot : Int) := by omega
      have q6 : (D.length : Int) ≤ (tot : Int) := by omega
      have q7 : (en : Int) ≤ (c : Int) := by omega
      have q8 : (st : Int) ≤ (en : Int) := by omega
      have q12 : ¬ tot = D.length := by omega
      have q13 : ¬ c = st := by omega
      have hn1 : Hid ((bV ((s.drop st).take j)).length = Nat.min (en - st) (tot - D.length)) := by
        show _ = _
        rw [bV_len, hX, show en - st = j from by omega]; exact (Nat.min_eq_left (by omega)).symm
      have hp1 : Hid (0 < (bV ((s.drop st).take j)).length → (some ⟨g, D.length, none⟩ : Option Addr) = some ⟨g, D.length, none⟩ ∧ ∃ ad, (some (p.add st) : Option Addr) = some ad ∧ ∀ i v, (bV ((s.drop st).take j))[i]? = some v → w2.drew.cell? (ad.add i) = some v) := fun _ =>
        ⟨rfl, _, rfl, bytes_part (H1.out _ _ (hs2.out.drewN 1)) (by omega)⟩
      have hf1 : Hid (D.length + (bV ((s.drop st).take j)).length ≤ cur.length) := by show _ ≤ _; rw [bV_len, hX, b2]; omega
      have ho1 := Lib.hid (bV_one ((s.drop st).take j))
      have B1d : Hid (w2.drew.heap[g]? = some (.cells cur.toArray 5 (0, 0))) := b1
      have B5d : Hid (Below w.heap.size w w2.drew) := below_drewN b5 1
      have hX2 : Hid ((bV ((s.drop st).take j)).length = j) := by show _ = _; rw [bV_len, hX]
      have KK := Lib.hid (And.intro b2 (And.intro b3 (And.intro hX (And.intro hroom (And.intro hen (And.intro hjr (And.intro hst (And.intro hi (And.intro l3 q3)))))))))
      clear b1 b2 b3 b4 b5 hX hroom hen hjr hst hi hkn hn hcm hc l1 l2 l3
      go_region_law (refine step_copy_splice rfl (.tmp 61) (.tmp 65) 25 25 rfl 5 underB szB (some ⟨g, D.length, none⟩) (some (p.add st)) (tot - D.length) (tot - D.length) (en - st) (c - st) (by simp [Act.eval, Act.put]) (by simp [Act.eval, Act.put]) g D.length cur 5 B1d.out (bV ((s.drop st).take j)) hn1.out hp1.out hf1.out ho1.out w.heap.size w B5d.out b6 ?_; intro w4 hg4 hb4; rw [hX2.out])
      obtain ⟨b2, b3, hX, hroom, hen, hjr, hst, hi, l3, q3⟩ := KK.out
      have r4 := Lib.hid (rpb_step (X := (s.drop st).take j) b2 b3 (by rw [hX]; omega) hg4.out hb4 b6)
      clear hn1 hp1 hf1 ho1 B1d B5d hg4 hb4 b2 b3
      obtain ⟨cur2, d1, d2, d3, d4, d5, d6⟩ := r4.out
      obtain ⟨E1, hE1⟩ : ∃ E1, E1 = D.length + j := ⟨_, rfl⟩
      have hDX : (D ++ (s.drop st).take j).length = E1 := by rw [List.length_append, hX, hE1]
      have q9 : (E1 : Int) ≤ (tot : Int) := by omega
      have q10 : (E1 : Int) < (tot : Int) := by omega
      have q11 : ¬ tot = E1 := by omega
      rw [hDX] at d3
      have Bd1 := Lib.hid d1
      have Bd5 := Lib.hid d5
      have hn2 : Hid ((bV nw).length = Nat.min 1 (tot - E1)) := by show _ = _; rw [bV_len, l3]; exact (Nat.min_eq_left (by omega)).symm
      have hp2 : Hid (0 < (bV nw).length → (some ⟨g, E1, none⟩ : Option Addr) = some ⟨g, E1, none⟩ ∧ ∃ ad, (some ⟨g2, 0, none⟩ : Option Addr) = some ad ∧ ∀ i v, (bV nw)[i]? = some v → w4.cell? (ad.add i) = some v) := fun _ => ⟨rfl, _, rfl, bytes_all (H3.out _ _ r4.out)⟩
      have hf2 : Hid (E1 + (bV nw).length ≤ cur2.length) := by show _ ≤ _; rw [bV_len, l3, d2]; omega
      have ho2 := Lib.hid (bV_one nw)
      have hB2 : Hid ((bV nw).length = 1) := by show _ = _; rw [bV_len, l3]
      have KS : Hid ((D.length : Int) + (j : Int) = ((E1 : Nat) : Int)) := by show _ = _; omega
      have hDb : (D.length : Int) ≤ 9000 := by omega
      have hjb : (j : Int) ≤ 9000 := by omega
      have K2 := Lib.hid (And.intro hDX (And.intro d2 (And.intro d3 (And.intro hE1 (And.intro hroom (And.intro hen (And.intro hjr (And.intro hst (And.intro hi (And.intro l3 q3))))))))))
      clear hE1 hDX hX d1 d2 d3 d4 d5 hroom hjr hen hst hi q1 q2 q3 q5 q6 q7 q8 q12 q13 l3 KK
      go_upto_region 16 with fail
      rw [KS.out]
      have q14 : (en : Int) ≤ 4000 := by obtain ⟨_, _, _, _, _, _, _, _, _, _, _⟩ := K2.out; have := Hn4.out.1; omega
      have q15 : (i : Int) ≤ 4001 := by have := Hn4.out; have := Hkn.out; omega
      have hen1 : Hid ((en : Int) + 2 = ((en + 2 : Nat) : Int)) := by show _ = _; omega
      have hE2 : Hid ((E1 : Int) + 1 = ((E1 + 1 : Nat) : Int)) := by show _ = _; omega
      go_wp2_with (with_reducible show wpList _ _ _ (⟨some 73, _, _, _, _, _⟩ :: _) _ _; refine wpList_copy_splice (o := ⟨some 73, _, _, _, _, _⟩) rfl (.tmp 71) (.tmp 72) 25 25 rfl 5 underB szB (some ⟨g, E1, none⟩) (some ⟨g2, 0, none⟩) (tot - E1) (tot - E1) 1 c2 rfl rfl g E1 cur2 5 Bd1.out (bV nw) hn2.out hp2.out hf2.out ho2.out w.heap.size w Bd5.out d6 ?_; intro w5 hg5 hb5; rw [hB2.out])
      obtain ⟨hDX, d2, d3, hE1, hroom, hen, hjr, hst, hi, l3, q3⟩ := K2.out
      have r5 := Lib.hid (rpb_step (X := nw) (D := D ++ (s.drop st).take j) d2 (by rw [hDX]; exact d3) (by rw [hDX, l3]; omega) (by rw [hDX]; exact hg5.out) hb5 d6)
      have hn4 := Hn4.out
      refine ⟨⟨_, _, _, _, ⟨i + 1, rfl, en + 2, (D ++ (s.drop st).take j) ++ nw, rfl, rfl, by omega, by omega, hnx, r5⟩, ?_, ?_, rfl, ?_⟩, ?_⟩
      · rw [hE2.out, List.length_append, hDX, l3]
      · rw [hen1.out]
      · rfl
      · show max _ _ < _
        simp only [intOf]; omega
    · have hnt := Hn4.out
      have hTD : tot = D.length + (n - st) ∧ nrep o nw k s = D ++ s.drop st := by
        have e1 := hcd.out
        rw [show k - i = 0 from by omega] at e1
        have e2 : D ++ s.drop st = nrep o nw k s := e1.2
        refine ⟨?_, e2.symm⟩
        have e3 := congrArg List.length e2
        rw [List.length_append, List.length_drop, Hk.out, ← Ht.out] at e3
        omega
      have hX : (s.drop st).length = n - st := by rw [List.length_drop]; omega
      have hX2 : Hid ((bV (s.drop st)).length = n - st) := by show _ = _; rw [bV_len, hX]
      have hlt2 : ¬ ((i : Int) < (k : Nat)) := by omega
      obtain ⟨cur, b1, b2, b3, b4, b5, b6⟩ := hs.out
      have B1d : Hid (wr.drew.heap[g]? = some (.cells cur.toArray 5 (0, 0))) := b1
      have B5d : Hid (Below w.heap.size w wr.drew) := below_drewN b5 1
      have hf1 : Hid (D.length + (bV (s.drop st)).length ≤ cur.length) := by show _ ≤ _; rw [bV_len, hX, b2]; omega
      have ho1 := Lib.hid (bV_one (s.drop st))
      have KS : Hid ((D.length : Int) + ((n - st : Nat) : Int) = (tot : Int)) := by show _ = _; omega
      have hR : Hid (∀ w4 : World, w4.heap[g]? = some (.cells (splice cur D.length (bV (s.drop st))).toArray 5 (0, 0)) → Below w.heap.size w w4 → clonePost 5 (bV (nrep o nw (ncnt s o) s)) w (.returned (.slice (some ⟨g, 0, none⟩) tot tot)) w4) := fun w4 hg4 hb4 => by
        rw [← Hk.out, hTD.2]
        exact rpb_end (rpb_step b2 b3 (by rw [hX]; omega) hg4 hb4 b6) (by rw [List.length_append, hX]; omega) (by have : maxLen = 9223372036854775807 := rfl; omega)
      have q5 : (D.length : Int) ≤ (tot : Int) := by omega
      have q6 : (st : Int) ≤ (n : Int) := by omega
      have q7 : (n : Int) ≤ (c : Int) := by omega
      have hDb : (D.length : Int) ≤ 9000 := by omega
      have hjb : ((n - st : Nat) : Int) ≤ 9000 := by omega
      clear b1 b2 b4 b5
      by_cases hsn : st < n
      · have q12 : ¬ tot = D.length := by omega
        have q13 : ¬ c = st := by omega
        clear hsn
        have hn1 : Hid ((bV (s.drop st)).length = Nat.min (n - st) (tot - D.length)) := by
          show _ = _
          rw [bV_len, hX, show tot - D.length = n - st from by omega]; exact (Nat.min_self _).symm
        have hp1 : Hid (0 < (bV (s.drop st)).length → (some ⟨g, D.length, none⟩ : Option Addr) = some ⟨g, D.length, none⟩ ∧ ∃ ad, (some (p.add st) : Option Addr) = some ad ∧ ∀ i v, (bV (s.drop st))[i]? = some v → wr.drew.cell? (ad.add i) = some v) := fun h0 => by
          rw [bV_len, hX] at h0
          exact ⟨rfl, _, rfl, fun i v hv => by have := bytes_part (st := st) (j := n - st) (H1.out _ _ (hs.out.drewN 1)) (by omega) i v (by rw [List.take_of_length_le (by omega)]; exact hv); exact this⟩
        clear hX hnt b3 hi hst hlt hTD
        go_upto_region 28 with fail
        go_region_law (refine step_copy_splice rfl (.tmp 123) (.tmp 126) 25 25 rfl 5 underB szB (some ⟨g, D.length, none⟩) (some (p.add st)) (tot - D.length) (tot - D.length) (n - st) (c - st) (by simp [Act.eval, Act.put]) (by simp [Act.eval, Act.put]) g D.length cur 5 B1d.out (bV (s.drop st)) hn1.out hp1.out hf1.out ho1.out w.heap.size w B5d.out b6 ?_; intro w4 hg4 hb4; rw [hX2.out])
        have hE := hR.out w4 hg4.out hb4
        go_upto_region 29 with fail
        rw [KS.out]
        go_wp2_with fail
        go_ret
        exact hE
      · obtain rfl : n = st := by omega
        have hnil : Hid (bV (s.drop n) = []) := by show _ = _; rw [List.eq_nil_of_length_eq_zero (show (s.drop n).length = 0 from by omega)]; rfl
        have eT : tot = D.length := by omega
        subst eT
        have hf2 : Hid (D.length + ([] : List Value).length ≤ cur.length) := by have h := hf1.out; show _ ≤ _; simp only [List.length_nil]; omega
        clear hX hnt b3 hi hst hlt hTD hsn hjb hX2 hf1 ho1 KS
        by_cases hcs : c = n
        · subst hcs
          go_upto_region 28 with fail
          go_region_law (refine step_copy_splice rfl (.tmp 123) (.tmp 126) 25 25 rfl 5 underB szB (some ⟨g, 0, none⟩) (some p) 0 0 0 (0) (by simp [Act.eval, Act.put]) (by simp [Act.eval, Act.put]) g D.length cur 5 B1d.out [] rfl (fun h => by cases h) hf2.out (fun u hu => by cases hu) w.heap.size w B5d.out b6 ?_; intro w4 hg4 hb4)
          have hE := hR.out w4 (by rw [hnil.out]; exact hg4.out) hb4
          go_wp2_with fail
          go_ret
          exact hE
        · have q13 : ¬ c = n := hcs
          go_upto_region 28 with fail
          go_region_law (refine step_copy_splice rfl (.tmp 123) (.tmp 126) 25 25 rfl 5 underB szB (some ⟨g, 0, none⟩) (some (p.add n)) 0 0 0 (c - n) (by simp [Act.eval, Act.put]) (by simp [Act.eval, Act.put]) g D.length cur 5 B1d.out [] rfl (fun h => by cases h) hf2.out (fun u hu => by cases hu) w.heap.size w B5d.out b6 ?_; intro w4 hg4 hb4)
          have hE := hR.out w4 (by rw [hnil.out]; exact hg4.out) hb4
          go_wp2_with fail
          go_ret
          exact hE
end Go.Proofs.YtbmefmfogdjecaaDoor
/- bytes.ReplaceAll as senc calls it; senc.Put, senc.Len. -/
namespace Go.Proofs.YtbmefmfogdjecaaDoor
open Go.RowKit
/-- a slice of bytes, with what is known of its room -/
structure Sl (w : World) (a : Option Addr) (n c : Nat) (bs : List Nat) : Prop where
  len : bs.length = n
  at_ : BytesAt w a bs
  cap : n ≤ c
  capm : c ≤ maxLen
  nil : a = none → n = 0 ∧ c = 0
section
variable {w w' : World} {a : Option Addr} {n c : Nat} {bs : List Nat}
theorem Sl.below (h : Sl w a n c bs) (hb : Below w.heap.size w w') : Sl w' a n c bs := ⟨h.len, h.at_.below hb, h.cap, h.capm, h.nil⟩
theorem Sl.drewN (h : Sl w a n c bs) (k : Nat) : Sl (w.drewN k) a n c bs := ⟨h.len, h.at_.drewN k, h.cap, h.capm, h.nil⟩
end
theorem own_row {ty : Nat} {w : World} {v : Value} {xs : List Value} {bo : Option Nat} {base : Nat} (h : Own ty w v xs bo) (hb : bo = none ∨ ∃ g, bo = some g ∧ base ≤ g) : w.ownsRow base ty 1 v xs.length xs := by
  refine ⟨by omega, ?_⟩
  rcases h with ⟨rfl, rfl, rfl⟩ | ⟨g, cap, cur, rfl, rfl, h1, h2, h3, h4, h5⟩
  · exact Or.inl ⟨rfl, rfl⟩
  · have : base ≤ g := by
      rcases hb with e | ⟨g', e, h⟩
      · cases e
      · cases e; exact h
    exact Or.inr ⟨g, cap, cur, rfl, this, h1, h2, h3, by omega, by rw [Nat.mul_one]; exact h5⟩
theorem row_own {ty : Nat} {w : World} {v : Value} {xs : List Value} {n base : Nat} (h : w.ownsRow base ty 1 v n xs) : ∃ bo, Own ty w v xs bo ∧ (bo = none ∨ ∃ g, bo = some g ∧ base ≤ g) := by
  obtain ⟨hl, ⟨rfl, rfl⟩ | ⟨g, cap, cur, rfl, hb, h1, h2, h3, h4, h5⟩⟩ := h
  · exact ⟨none, Or.inl ⟨rfl, List.eq_nil_of_length_eq_zero (by omega), rfl⟩, Or.inl rfl⟩
  · have e : xs.length = n := by omega
    exact ⟨some g, Or.inr ⟨g, cap, cur, rfl, by rw [e], h1, by omega, h3, by omega, by rw [e]; rw [Nat.mul_one] at h5; exact h5⟩, Or.inr ⟨g, rfl, hb⟩⟩
/-- what is made is a slice of bytes -/
theorem own_sl {w : World} {v : Value} {bs : List Nat} {bo : Option Nat} (h : Own 5 w v (bV bs) bo) (hb : ∀ x ∈ bs, x < 256) : ∃ a c, v = .slice a bs.length c ∧ Sl w a bs.length c bs := by
  rcases h with ⟨rfl, e, rfl⟩ | ⟨g, cap, cur, rfl, rfl, h1, h2, h3, h4, h5⟩
  · have : bs = [] := by simpa [bV] using e
    subst this
    exact ⟨none, 0, rfl, rfl, ⟨hb, fun i hi => by simp at hi⟩, Nat.le_refl _, Nat.zero_le _, fun _ => ⟨rfl, rfl⟩⟩
  · rw [bV_len] at h2 h5
    refine ⟨some ⟨g, 0, none⟩, cap, by rw [bV_len], rfl, ⟨hb, fun i hi => ⟨_, rfl, ?_, ?_⟩⟩, h2, h3, fun e => by cases e⟩
    · rw [add0]; exact (Array.getElem?_eq_some_iff.1 h1).1
    · rw [add0, cell_of_blk (c := cur.toList) (t := 5) (by simpa using h1)]
      have e := take_get (j := i) h5 hi
      rw [e, bV_get, List.getD, List.getElem?_eq_getElem hi]
      rfl
def slPost (bs : List Nat) (w : World) (e : Ending) (w' : World) : Prop := ∃ a c, e = .returned (.slice a bs.length c) ∧ Sl w' a bs.length c bs ∧ Below w.heap.size w w'
theorem clone_sl {bs : List Nat} {w : World} {e : Ending} {w' : World} (h : clonePost 5 (bV bs) w e w') (hb : ∀ x ∈ bs, x < 256) : slPost bs w e w' := by
  obtain ⟨v, bo, rfl, h1, h2, h3⟩ := h
  obtain ⟨a, c, rfl, h4⟩ := own_sl h1 hb
  exact ⟨a, c, rfl, h4, h2⟩
theorem rep_any_a {w : World} {m : Int} (hM : MaxAt w m) (a0 : Option Addr) (n c : Nat) (s : List Nat) (h1 : Sl w a0 n c s) (hs : ∀ x ∈ s, x < 256) (hn : n ≤ 4000) (g1 c1 g2 c2 : Nat) (h2 : BytesAt w (some ⟨g1, 0, none⟩) [0]) (h3 : BytesAt w (some ⟨g2, 0, none⟩) [0,255]) :
    Calls Tryd.prog 65 #[.slice a0 n c, .slice (some ⟨g1, 0, none⟩) 1 c1, .slice (some ⟨g2, 0, none⟩) 2 c2, .int .i64 (-1)] w (clonePost 5 (bV (escL<|s)) w) := by
  obtain ⟨e1, e2⟩ := rep_esc s.length s (Nat.le_refl _) hs
  by_cases h0 : ncnt s [0] = 0
  · have := rep_none hM a0 n c s h1.at_ h1.len h1.cap hn h1.nil g1 1 c1 (.slice (some ⟨g2, 0, none⟩) 2 c2) [0] h2 rfl (by omega) (by omega) h0
    rw [← e1, h0] at e2
    rw [show s = (escL<|s) from e2] at this
    exact this
  · cases a0 with
    | none =>
      exfalso
      obtain ⟨rfl, rfl⟩ := h1.nil rfl
      have e : s = [] := List.eq_nil_of_length_eq_zero h1.len
      rw [e] at h0
      exact h0 rfl
    | some p =>
      have := rep_some_a hM p n c s h1.at_ h1.len h1.cap h1.capm hn g1 c1 g2 c2 [0] [0,255] h2 h3 rfl rfl (by omega)
      rw [e1, e2] at this
      exact this
set_option maxRecDepth 100000 in
theorem all_a {w : World} {m : Int} (hM : MaxAt w m) (a0 : Option Addr) (n c : Nat) (s : List Nat) (h1 : Sl w a0 n c s) (hs : ∀ x ∈ s, x < 256) (hn : n ≤ 4000) (g1 c1 g2 c2 : Nat) (h2 : BytesAt w (some ⟨g1, 0, none⟩) [0]) (h3 : BytesAt w (some ⟨g2, 0, none⟩) [0,255]) :
    Calls Tryd.prog 54 #[.slice a0 n c, .slice (some ⟨g1, 0, none⟩) 1 c1, .slice (some ⟨g2, 0, none⟩) 2 c2] w (clonePost 5 (bV (escL<|s)) w) := by
  have hR := Lib.hid (rep_any_a hM a0 n c s h1 hs hn g1 c1 g2 c2 h2 h3)
  clear h1 h2 h3 hs hM
  go_enter Tryd.func54, Tryd.ntmps54
  go_wp2_with (go_at_call 65; refine hR.out.mono ?_; rintro e w' ⟨v, bo, rfl, h1, h2, h3⟩; have H1 := Lib.hid h1; have H2 := Lib.hid h2; have H3 := Lib.hid h3; clear h1 h2 h3)
  go_ret
  exact ⟨v, bo, rfl, H1.out, H2.out, H3.out⟩

theorem rep_any_b {w : World} {m : Int} (hM : MaxAt w m) (a0 : Option Addr) (n c : Nat) (s : List Nat) (h1 : Sl w a0 n c (escL<|s)) (hs : ∀ x ∈ s, x < 256) (hn : n ≤ 4000) (g1 c1 g2 c2 : Nat) (h2 : BytesAt w (some ⟨g1, 0, none⟩) [0,255]) (h3 : BytesAt w (some ⟨g2, 0, none⟩) [0]) :
    Calls Tryd.prog 65 #[.slice a0 n c, .slice (some ⟨g1, 0, none⟩) 2 c1, .slice (some ⟨g2, 0, none⟩) 1 c2, .int .i64 (-1)] w (clonePost 5 (bV s) w) := by
  obtain ⟨e1, e2⟩ := rep_unesc s.length s (Nat.le_refl _) hs
  by_cases h0 : ncnt (escL<|s) [0,255] = 0
  · have := rep_none hM a0 n c (escL<|s) h1.at_ h1.len h1.cap hn h1.nil g1 2 c1 (.slice (some ⟨g2, 0, none⟩) 1 c2) [0,255] h2 rfl (by omega) (by omega) h0
    rw [← e1, h0] at e2
    rw [show (escL<|s) = s from e2] at this
    exact this
  · cases a0 with
    | none =>
      exfalso
      obtain ⟨rfl, rfl⟩ := h1.nil rfl
      have e : (escL<|s) = [] := List.eq_nil_of_length_eq_zero h1.len
      rw [e] at h0
      exact h0 rfl
    | some p =>
      have := rep_some_b hM p n c (escL<|s) h1.at_ h1.len h1.cap h1.capm hn g1 c1 g2 c2 [0,255] [0] h2 h3 rfl rfl (by omega)
      rw [e1, e2] at this
      exact this
set_option maxRecDepth 100000 in
theorem all_b {w : World} {m : Int} (hM : MaxAt w m) (a0 : Option Addr) (n c : Nat) (s : List Nat) (h1 : Sl w a0 n c (escL<|s)) (hs : ∀ x ∈ s, x < 256) (hn : n ≤ 4000) (g1 c1 g2 c2 : Nat) (h2 : BytesAt w (some ⟨g1, 0, none⟩) [0,255]) (h3 : BytesAt w (some ⟨g2, 0, none⟩) [0]) :
    Calls Tryd.prog 54 #[.slice a0 n c, .slice (some ⟨g1, 0, none⟩) 2 c1, .slice (some ⟨g2, 0, none⟩) 1 c2] w (clonePost 5 (bV s) w) := by
  have hR := Lib.hid (rep_any_b hM a0 n c s h1 hs hn g1 c1 g2 c2 h2 h3)
  clear h1 h2 h3 hs hM
  go_enter Tryd.func54, Tryd.ntmps54
  go_wp2_with (go_at_call 65; refine hR.out.mono ?_; rintro e w' ⟨v, bo, rfl, h1, h2, h3⟩; have H1 := Lib.hid h1; have H2 := Lib.hid h2; have H3 := Lib.hid h3; clear h1 h2 h3)
  go_ret
  exact ⟨v, bo, rfl, H1.out, H2.out, H3.out⟩
/-- a constant's bytes, marked -/
theorem bytes_mark (w : World) (L : List Nat) (h : ∀ x ∈ L, x < 256) (t : TypeId) (fr : Nat × Nat) : BytesAt (w.alloc (.cells (bV L).toArray t fr)) (some ⟨w.heap.size, 0, none⟩) L := by
  refine ⟨h, fun i hi => ⟨_, rfl, ?_, ?_⟩⟩
  · rw [add0]; show w.heap.size < _; simp
  · rw [add0, World.cell?_alloc_mark, List.getElem?_toArray, bV_get, List.getElem?_eq_getElem hi, List.getD, List.getElem?_eq_getElem hi]
    rfl
theorem kuB : Tryd.prog.underlying 5 = some (.int .u8) := by kernel_rfl
theorem bytes_alloc {w : World} {a : Option Addr} {bs : List Nat} (h : BytesAt w a bs) (o : Obj) : BytesAt (w.alloc o) a bs := h.below ((Below.refl _ w).alloc (Nat.le_refl _) _)
theorem Sl.alloc {w : World} {a : Option Addr} {n c : Nat} {bs : List Nat} (h : Sl w a n c bs) (o : Obj) : Sl (w.alloc o) a n c bs := h.below ((Below.refl _ w).alloc (Nat.le_refl _) _)
theorem MaxAt.alloc {w : World} {m : Int} (h : MaxAt w m) (o : Obj) : MaxAt (w.alloc o) m := h.below ((Below.refl _ w).alloc (Nat.le_refl _) _)
set_option maxHeartbeats 1000000 in
set_option maxRecDepth 100000 in
theorem senc_put {w : World} {m : Int} (hM : MaxAt w m) (a0 : Option Addr) (n c : Nat) (s : List Nat) (h1 : Sl w a0 n c s) (hn : n ≤ 4000) :
    Calls Tryd.prog 37 #[.slice a0 n c] w (clonePost 5 (bV (putL s)) w) := by
  have k1 : (Go.convert 25 25 (.slice (some ⟨w.heap.size, 0, none⟩) 1 1)).run Tryd.prog (w.alloc (.cells #[.int .u8 0] 5)) = .ok (.slice (some ⟨w.heap.size, 0, none⟩) 1 1) (w.alloc (.cells #[.int .u8 0] 5 (1, 2))) := Joins.run_convert_bytes_const_at _ _ _ _ _ _ _ rfl cloneB_under kuB
  have k2 : (Go.convert 25 25 (.slice (some ⟨w.heap.size + 1, 0, none⟩) 2 2)).run Tryd.prog ((w.alloc (.cells #[.int .u8 0] 5 (1, 2))).alloc (.cells #[.int .u8 0, .int .u8 255] 5)) = .ok (.slice (some ⟨w.heap.size + 1, 0, none⟩) 2 2) ((w.alloc (.cells #[.int .u8 0] 5 (1, 2))).alloc (.cells #[.int .u8 0, .int .u8 255] 5 (2, 3))) := Joins.run_convert_bytes_const_at _ _ _ _ _ _ _ (by simp) cloneB_under kuB
  have hA : Hid (Calls Tryd.prog 54 #[.slice a0 n c, .slice (some ⟨w.heap.size, 0, none⟩) 1 1, .slice (some ⟨w.heap.size + 1, 0, none⟩) 2 2] ((w.alloc (.cells #[.int .u8 0] 5 (1, 2))).alloc (.cells #[.int .u8 0, .int .u8 255] 5 (2, 3))) (clonePost 5 (bV (escL s)) ((w.alloc (.cells #[.int .u8 0] 5 (1, 2))).alloc (.cells #[.int .u8 0, .int .u8 255] 5 (2, 3))))) := by
    refine all_a ((hM.alloc _).alloc _) a0 n c s ((h1.alloc _).alloc _) h1.at_.1 hn _ 1 _ 2 ?_ ?_
    · exact bytes_alloc (bytes_mark w [0] (by simp) _ _) _
    · have := bytes_mark (w.alloc (.cells #[.int .u8 0] 5 (1, 2))) [0, 255] (by simp) 5 (2, 3)
      rw [show (w.alloc (.cells #[.int .u8 0] 5 (1, 2))).heap.size = w.heap.size + 1 from by simp] at this
      exact this
  have hl : (escL s).length ≤ 8000 := by have := escL_len s; have := List.count_le_length (a := 0) (l := s); have := h1.len; omega
  have hB : Hid (Below w.heap.size w ((w.alloc (.cells #[.int .u8 0] 5 (1, 2))).alloc (.cells #[.int .u8 0, .int .u8 255] 5 (2, 3)))) := ((Below.refl _ w).alloc (Nat.le_refl _) _).alloc (by simp) _
  have hL1 : Hid ((bV (escL s)).length + ByteArray.size { data := #[0, 0] } ≤ maxLen) := by show _ ≤ _; rw [bV_len]; have : maxLen = 9223372036854775807 := rfl; have : ByteArray.size { data := #[0, 0] } = 2 := rfl; omega
  have hL2 : Hid ((bV (escL s)).length + ByteArray.size { data := #[0, 0] } ≤ 140737488355328) := by show _ ≤ _; rw [bV_len]; have : ByteArray.size { data := #[0, 0] } = 2 := rfl; omega
  have hsz : Hid (((w.alloc (.cells #[.int .u8 0] 5 (1, 2))).alloc (.cells #[.int .u8 0, .int .u8 255] 5 (2, 3))).heap.size = w.heap.size + 2) := by show _ = _; simp
  have hput : Hid (bV (escL s) ++ Lib.strCells { data := #[0, 0] } = bV (putL s)) := by show _ = _; rw [putL, bV_app]; rfl
  obtain ⟨uI, hu1, hu2, hu3, hu4⟩ := u8_info
  have hstr : Tryd.prog.underlying 9 = some .string := by kernel_rfl
  clear h1 hM
  have hE : Hid (∀ (w1 w2 : World) (v1 v2 : Value), Below w.heap.size w w1 → w1.ownsRow w.heap.size 5 1 v1 (bV (escL s)).length (bV (escL s)) → w2.ownsRow w.heap.size 5 1 v2 ((bV (escL s)).length + ByteArray.size { data := #[0, 0] }) (bV (escL s) ++ Lib.strCells { data := #[0, 0] }) → w1.grownBy w2 v1.ownBlock → clonePost 5 (bV (putL s)) w (.returned v2) w2) := fun w1 w2 v1 v2 h1 h0 h2 h3 => by
    obtain ⟨bo, q1, q2⟩ := row_own h2
    rw [hput.out] at q1
    refine ⟨v2, bo, rfl, q1, h1.grown h3 h1.size fun k hk => ?_, q2⟩
    rcases h0.2 with ⟨rfl, _⟩ | ⟨g, cap, cur, rfl, hb, _⟩
    · cases hk
    · cases hk; exact hb
  go_enter Tryd.func37, Tryd.ntmps37
  go_wp2_with (first | (go_at_call 54; refine hA.out.mono ?_; rintro e w1 ⟨v1, bo1, rfl, h1, h2, h3⟩; have H2 := Lib.hid (hB.out.trans (h2.mono (by rw [hsz.out]; omega))); have H4 := Lib.hid (own_row h1 (base := w.heap.size) (h3.imp_right fun ⟨g, e, h⟩ => ⟨g, e, by rw [hsz.out] at h; omega⟩)); clear h1 h2 h3) | (at_builtin; go_loud (refine Lib.wpList_append_own_string _ rfl (.tmp 8) (.const (.string { data := #[0, 0] })) 25 9 rfl w.heap.size 5 uI cloneB_under hstr hu1 hu2 hu3 hu4 v1 (bV (escL s)).length (bV (escL s)) rfl H4.out { data := #[0, 0] } rfl hL1.out hL2.out H2.out.size ?_); intro v2 w2 h5 h6 h7; have H5 := Lib.hid h5; have H6 := Lib.hid h6; clear h5 h6 h7))
  go_ret
  exact hE.out _ _ _ _ H2.out H4.out H5.out H6.out
end Go.Proofs.YtbmefmfogdjecaaDoor
/- senc.Other, and the document's Other and Put. -/
namespace Go.Proofs.YtbmefmfogdjecaaDoor
open Go.RowKit
theorem xor_all : (List.range 256).all (fun x => decide (bits .xor .u8 (x : Int) 255 = 255 - (x : Int))) = true := by kernel_rfl
theorem xor_255 {x : Nat} (h : x < 256) : bits .xor .u8 (x : Int) 255 = ((255 - x : Nat) : Int) := by
  have := of_decide_eq_true (List.all_eq_true.1 xor_all x (List.mem_range.2 h))
  omega
theorem othL_len (s : List Nat) : (othL s).length = s.length := by simp [othL]
theorem othL_lt (s : List Nat) : ∀ x ∈ othL s, x < 256 := fun x hx => by
  obtain ⟨y, _, rfl⟩ := List.mem_map.1 hx
  omega
/-- so far i bytes are turned -/
def othTo (s : List Nat) (i : Nat) : List Nat := othL (s.take i) ++ s.drop i
theorem othTo_zero (s : List Nat) : othTo s 0 = s := by simp [othTo, othL]
theorem othTo_all (s : List Nat) : othTo s s.length = othL s := by simp [othTo]
theorem othTo_len (s : List Nat) (i : Nat) : (othTo s i).length = s.length := by simp [othTo, othL]; omega
theorem othTo_at (s : List Nat) {i : Nat} (h : i < s.length) : (othTo s i)[i]? = some (s.getD i 0) := by
  rw [othTo, List.getElem?_append_right (by simp [othL]; omega), List.getElem?_drop, List.getD, List.getElem?_eq_getElem (by simp [othL]; omega)]
  simp [othL, Nat.min_eq_left (Nat.le_of_lt h), h]
theorem othTo_step (s : List Nat) {i : Nat} (h : i < s.length) : (othTo s i).set i (255 - s.getD i 0) = othTo s (i + 1) := by
  apply List.ext_getElem?
  intro j
  rw [List.getElem?_set, othTo_len]
  simp only [othTo, List.getElem?_append, othL, List.length_map, List.length_take, List.getElem?_map, List.getElem?_take, List.getElem?_drop]
  by_cases e : i = j
  · subst e
    simp [h, List.getD, show i < min (i + 1) s.length by omega]
  · by_cases h1 : j < i
    · simp [e, show j < min i s.length by omega, show j < min (i + 1) s.length by omega, h1, show j < i + 1 by omega]
    · by_cases h2 : j < s.length
      · simp [e, show ¬ j < min i s.length by omega, show ¬ j < min (i + 1) s.length by omega]
        congr 1; omega
      · simp [e, show ¬ j < min i s.length by omega, show ¬ j < min (i + 1) s.length by omega]
        rw [List.getElem?_eq_none (by omega), List.getElem?_eq_none (by omega)]
/-- the loop over the bytes -/
def OthW (w : World) (v : Value) (s : List Nat) (bo : Option Nat) (i : Nat) (wr : World) : Prop := Own 5 wr v (bV (othTo s i)) bo ∧ Below w.heap.size w wr ∧ (bo = none ∨ ∃ g, bo = some g ∧ w.heap.size ≤ g)
theorem bV_set (L : List Nat) (i x : Nat) : (bV L).set i (.int .u8 (x : Nat)) = bV (L.set i x) := by simp [bV, List.map_set]
theorem OthW.step {w : World} {v : Value} {s : List Nat} {bo : Option Nat} {i g : Nat} {wr : World} (h : OthW w v s bo i wr) (hi : i < s.length) (hg : bo = some g) : OthW w v s bo (i + 1) (wr.setCell ⟨g, i, none⟩ (.int .u8 ((255 - s.getD i 0 : Nat) : Int))) := by
  obtain ⟨h1, h2, h3⟩ := h
  subst hg
  have := h1.set i (.int .u8 ((255 - s.getD i 0 : Nat) : Int))
  rw [bV_set, othTo_step s hi] at this
  refine ⟨this, h2.setCell ?_ _, h3⟩
  rcases h3 with e | ⟨g', e, h⟩
  · cases e
  · cases e; exact h
set_option maxHeartbeats 1000000 in
set_option maxRecDepth 100000 in
theorem senc_other {w : World} (a0 : Option Addr) (n c : Nat) (s : List Nat) (h1 : Sl w a0 n c s) (hn : n ≤ 9000) :
    Calls Tryd.prog 38 #[.slice a0 n c] w (clonePost 5 (bV (othL s)) w) := by
  have hC := Lib.hid (cloneB_any w a0 n c s h1.len h1.at_ (by omega) (fun e => (h1.nil e).1))
  have hs := Lib.hid h1.at_.1
  have hl := h1.len
  clear h1
  go_enter Tryd.func38, Tryd.ntmps38
  go_wp2_with (go_at_call 26; refine hC.out.mono ?_; rintro e w1 ⟨v, bo, rfl, k1, k2, k3⟩; obtain ⟨a1, c1, rfl⟩ := k1.len; rw [bV_len, hl] at k1 ⊢; have hO : Hid (OthW w (.slice a1 n c1) s bo 0 w1) := ⟨by rw [othTo_zero]; exact k1, k2, k3⟩; clear k1 k2 k3)
  go_loopw [9, 4] (fun vi v4 wr => ∃ i : Nat, vi = .int .i64 (i : Nat) ∧ i ≤ n ∧ Hid (OthW w (.slice a1 n c1) s bo i wr)) (fun vi _ _ => (n - intOf vi).toNat)
  case atStart => exact ⟨0, rfl, by omega, hO⟩
  case round =>
    obtain ⟨i, rfl, hi, HO⟩ := hrel
    by_cases hlt : i < n
    · obtain ⟨g, cap, rfl, hv, hcell, hfr, hcap⟩ := HO.out.1.at_ (j := i) (by rw [bV_len, othTo_len]; omega)
      rw [bV_len, othTo_len, hl] at hv
      simp only [Value.slice.injEq, true_and] at hv
      obtain ⟨rfl, rfl⟩ := hv
      obtain ⟨x, hx⟩ : ∃ x, x = s.getD i 0 := ⟨_, rfl⟩
      have hcell2 : wr.cell? ⟨g, i, none⟩ = some (.int .u8 (x : Nat)) := by
        rw [hcell]
        have := othTo_at s (i := i) (by omega)
        have h2 : (bV (othTo s i))[i]? = some (.int .u8 (x : Nat)) := by rw [bV_get, this, hx]; rfl
        rw [List.getElem?_eq_getElem (by rw [bV_len, othTo_len]; omega)] at h2
        exact h2
      have hx256 : x < 256 := hs.out x (by rw [hx, List.getD, List.getElem?_eq_getElem (by omega)]; exact List.getElem_mem _)
      obtain ⟨y, hy⟩ : ∃ y, y = 255 - x := ⟨_, rfl⟩
      have hxor : bits .xor .u8 (x : Int) 255 = (y : Int) := by rw [hy]; exact xor_255 hx256
      have hst := HO.out.step (by omega) rfl
      rw [← hx, ← hy] at hst
      replace hst := Lib.hid hst
      have hlt2 : (i : Int) < (n : Int) := by omega
      have hi9 : (i : Int) ≤ 9000 := by omega
      clear hx hy hcell hC hO
      go_wp2_with fail
      go_roundw
      · exact ⟨i + 1, rfl, by omega, hst⟩
      · simp only [intOf]; omega
    · have hlt2 : ¬ (i : Int) < (n : Int) := by omega
      obtain rfl : i = n := by omega
      have hE : Hid (clonePost 5 (bV (othL s)) w (.returned (.slice a1 i c1)) wr) := by
        obtain ⟨k1, k2, k3⟩ := HO.out
        rw [← hl, othTo_all] at k1
        rw [hl] at k1
        exact ⟨_, _, rfl, k1, k2, k3⟩
      clear hC hO HO
      go_wp2_with fail
      go_ret
      exact hE.out
/-- the document's Other, so far -/
def OthR (w : World) (g : Nat) (s : List Nat) (i : Nat) (wr : World) : Prop := wr.heap[g]? = some (.cells (bV (othL (s.take i) ++ List.replicate (s.length - i) 0)).toArray 5 (0, 0)) ∧ Below w.heap.size w wr ∧ w.heap.size ≤ g
theorem othR_len (s : List Nat) {i : Nat} (h : i ≤ s.length) : (othL (s.take i) ++ List.replicate (s.length - i) 0).length = s.length := by simp [othL]; omega
theorem othR_step (s : List Nat) {i : Nat} (h : i < s.length) : (othL (s.take i) ++ List.replicate (s.length - i) 0).set i (255 - s.getD i 0) = othL (s.take (i + 1)) ++ List.replicate (s.length - (i + 1)) 0 := by
  apply List.ext_getElem?
  intro j
  rw [List.getElem?_set, othR_len s (Nat.le_of_lt h)]
  simp only [List.getElem?_append, othL, List.length_map, List.length_take, List.getElem?_map, List.getElem?_take, List.getElem?_replicate]
  by_cases e : i = j
  · subst e
    simp [h, List.getD, show i < min (i + 1) s.length by omega]
  · by_cases h1 : j < i
    · simp [e, show j < min i s.length by omega, show j < min (i + 1) s.length by omega, h1, show j < i + 1 by omega]
    · simp [e, show ¬ j < min i s.length by omega, show ¬ j < min (i + 1) s.length by omega]
      by_cases h2 : j < s.length
      · rw [if_pos (by omega), if_pos (by omega)]
      · rw [if_neg (by omega), if_neg (by omega)]
theorem OthR.step {w : World} {g : Nat} {s : List Nat} {i : Nat} {wr : World} (h : OthR w g s i wr) (hi : i < s.length) : OthR w g s (i + 1) (wr.setCell ⟨g, i, none⟩ (.int .u8 ((255 - s.getD i 0 : Nat) : Int))) := by
  obtain ⟨h1, h2, h3⟩ := h
  refine ⟨?_, h2.setCell h3 _, h3⟩
  rw [setCell_list _ _ _ _ _ _ h1, setRow_heap _ _ _ _ _ _ h1, bV_set, othR_step s hi]
set_option maxHeartbeats 1000000 in
set_option maxRecDepth 100000 in
theorem ref_other {w : World} (a0 : Option Addr) (n c : Nat) (s : List Nat) (h1 : Sl w a0 n c s) (hn : n ≤ 9000) :
    Calls Tryd.prog 23 #[.slice a0 n c] w (clonePost 5 (bV (othL s)) w) := by
  have hmk : ∀ w, (Instr.makeSlice 25 (.int .i64 (n : Nat)) (.int .i64 (n : Nat))).run Tryd.prog w = .ok (.slice (some ⟨w.heap.size, 0, none⟩) n n) (w.alloc (.cells (List.replicate n (.int .u8 0)).toArray 5)) := fun w => make_u8 w n (by omega)
  have hO : OthR w w.heap.size s 0 (w.alloc (.cells (List.replicate n (.int .u8 0)).toArray 5)) := ⟨by rw [heap_alloc_new]; simp [othL, bV, h1.len], (Below.refl _ w).alloc (Nat.le_refl _) _, Nat.le_refl _⟩
  replace hO := Lib.hid hO
  have H1 : Hid (∀ wr i, OthR w w.heap.size s i wr → i < n → ∃ p : Addr, a0 = some p ∧ wr.cell? (p.add i) = some (.int .u8 (s.getD i 0 : Nat))) := fun wr i h hi => by
    have h2 : Below w.heap.size w wr := h.2.1
    exact h1.at_.read h2 (by rw [h1.len]; exact hi)
  have hs := Lib.hid h1.at_.1
  have hl := h1.len
  clear h1
  go_enter Tryd.func23, Tryd.ntmps23
  go_wp2_with fail
  clear hmk
  change Code.wp _ _ _ _ (w.alloc (.cells (List.replicate n (.int .u8 0)).toArray 5))
  generalize (w.alloc (.cells (List.replicate n (.int .u8 0)).toArray 5)) = w1 at *
  go_loopw [4] (fun vi wr => ∃ i : Nat, vi = .int .i64 (i : Nat) ∧ i ≤ n ∧ Hid (OthR w w.heap.size s i wr)) (fun vi _ => (n - intOf vi).toNat)
  case atStart => exact ⟨0, rfl, by omega, hO⟩
  case round =>
    obtain ⟨i, rfl, hi, HO⟩ := hrel
    by_cases hlt : i < n
    · obtain ⟨p, rfl, hcell⟩ := H1.out _ _ HO.out hlt
      obtain ⟨x, hx⟩ : ∃ x, x = s.getD i 0 := ⟨_, rfl⟩
      rw [← hx] at hcell
      have hx256 : x < 256 := hs.out x (by rw [hx, List.getD, List.getElem?_eq_getElem (by omega)]; exact List.getElem_mem _)
      have hfr := frozen_of_blk HO.out.1 i
      obtain ⟨u, hcell2⟩ : ∃ u, wr.cell? ⟨w.heap.size, i, none⟩ = some u := by
        refine ⟨_, (cell_of_blk HO.out.1 i).trans (List.getElem?_eq_getElem (by rw [bV_len, othR_len s (by omega)]; omega))⟩
      obtain ⟨y, hy⟩ : ∃ y, y = 255 - x := ⟨_, rfl⟩
      have hsub : (255 : Int) - (x : Int) = (y : Int) := by omega
      have hst := HO.out.step (by omega)
      rw [← hx, ← hy] at hst
      replace hst := Lib.hid hst
      have hlt2 : (i : Int) < (n : Int) := by omega
      have hi9 : (i : Int) ≤ 9000 := by omega
      have hx9 : (x : Int) ≤ 255 := by omega
      have hsub2 := Lib.hid hsub
      clear hx hy hO H1 hsub
      go_upto_region 4 with fail
      rw [hsub2.out]
      go_wp2_with fail
      go_roundw
      · exact ⟨i + 1, rfl, by omega, hst⟩
      · simp only [intOf]; omega
    · have hlt2 : ¬ (i : Int) < (n : Int) := by omega
      obtain rfl : i = n := by omega
      have hE : Hid (clonePost 5 (bV (othL s)) w (.returned (.slice (some ⟨w.heap.size, 0, none⟩) i i)) wr) := by
        obtain ⟨k1, k2, k3⟩ := HO.out
        rw [← hl, List.take_length, Nat.sub_self, List.replicate_zero, List.append_nil] at k1
        refine ⟨_, _, rfl, Or.inr ⟨_, _, _, rfl, by rw [bV_len, othL_len, hl], k1, by rw [bV_len, othL_len, hl]; exact Nat.le_refl _, by have : maxLen = 9223372036854775807 := rfl; omega, by simp [bV_len, othL_len, hl], by simp⟩, k2, Or.inr ⟨_, rfl, k3⟩⟩
      clear hO HO H1
      go_wp2_with fail
      go_ret
      exact hE.out
/-- what is grown of one's own -/
def OwnR (w : World) (L : List Nat) (v : Value) (bo : Option Nat) (wr : World) : Prop := Own 5 wr v (bV L) bo ∧ Below w.heap.size w wr ∧ (bo = none ∨ ∃ g, bo = some g ∧ w.heap.size ≤ g)
theorem OwnR.app {w wr w1 : World} {L X : List Nat} {v v1 : Value} {bo bo1 : Option Nat} {o : Obj} (h : OwnR w L v bo wr) (h1 : Own 5 w1 v1 (bV L ++ bV X) bo1) (h2 : Mod (fun k => bo = some k) (wr.alloc o) w1) (h3 : NewOr (wr.alloc o) bo bo1) : OwnR w (L ++ X) v1 bo1 w1 := by
  obtain ⟨k1, k2, k3⟩ := h
  have hsz := k2.size
  refine ⟨by rw [bV_app]; exact h1, ?_, ?_⟩
  · have hb : Below w.heap.size w (wr.alloc o) := k2.alloc hsz _
    refine below_mod hb h2 fun j e => ?_
    rcases k3 with rfl | ⟨g, rfl, hg⟩
    · cases e
    · cases e; exact hg
  · rcases h3 with rfl | ⟨g, rfl, hg⟩
    · exact k3
    · exact Or.inr ⟨g, rfl, by simp at hg; omega⟩
theorem Own.alloc {ty : Nat} {w : World} {v : Value} {xs : List Value} {bo : Option Nat} (h : Own ty w v xs bo) (o : Obj) : Own ty (w.alloc o) v xs bo := h.keep fun g e => by
  subst e; exact Below.heap_alloc _ _ _ h.lt
theorem news_alloc (w : World) (vs : List Value) (t : TypeId) (fr : Nat × Nat) : ∀ j u, vs[j]? = some u → (w.alloc (.cells vs.toArray t fr)).cell? ((⟨w.heap.size, 0, none⟩ : Addr).add j) = some u := fun j u h => by
  rw [add0, World.cell?_alloc_mark, List.getElem?_toArray, h]
theorem take_snoc (s : List Nat) {i : Nat} (h : i < s.length) : s.take (i + 1) = s.take i ++ [s.getD i 0] := by
  rw [List.take_add_one, List.getElem?_eq_getElem h, List.getD, List.getElem?_eq_getElem h]; rfl
theorem escL_take_le (s : List Nat) (i : Nat) : (escL (s.take i)).length ≤ 2 * s.length := by
  rw [escL_len]
  have := List.count_le_length (a := 0) (l := s.take i)
  have h2 := List.length_take_le i s
  have h3 : (s.take i).length ≤ s.length := by rw [List.length_take]; omega
  omega
set_option maxHeartbeats 1000000 in
set_option maxRecDepth 100000 in
theorem ref_put {w : World} (a0 : Option Addr) (n c : Nat) (s : List Nat) (h1 : Sl w a0 n c s) (hn : n ≤ 4000) :
    Calls Tryd.prog 42 #[.slice a0 n c] w (clonePost 5 (bV (putL s)) w) := by
  have hO : Hid (OwnR w (escL (s.take 0)) (.slice none 0 0) none w) := ⟨Own.nil _ _, Below.refl _ _, Or.inl rfl⟩
  have H1 : Hid (∀ wr, Below w.heap.size w wr → ∀ i, i < n → ∃ p : Addr, a0 = some p ∧ wr.cell? (p.add i) = some (.int .u8 (s.getD i 0 : Nat))) := fun wr h i hi => h1.at_.read h (by rw [h1.len]; exact hi)
  have hs := Lib.hid h1.at_.1
  have hl := h1.len
  have hml : maxLen = 9223372036854775807 := rfl
  clear h1
  go_enter Tryd.func42, Tryd.ntmps42
  go_wp2_with fail
  go_loopw [3, 4] (fun v3 vi wr => ∃ (i : Nat) (bo : Option Nat), vi = .int .i64 (i : Nat) ∧ i ≤ n ∧ Hid (OwnR w (escL (s.take i)) v3 bo wr)) (fun _ vi _ => (n - intOf vi).toNat)
  case atStart => exact ⟨0, none, rfl, by omega, hO⟩
  case round =>
    obtain ⟨i, bo, rfl, hi, HO⟩ := hrel
    obtain ⟨a3, c3, rfl⟩ := HO.out.1.len
    have hle := escL_take_le s i
    rw [bV_len] at HO ⊢
    obtain ⟨L, hL⟩ : ∃ L, L = escL (s.take i) := ⟨_, rfl⟩
    rw [← hL] at hle HO ⊢
    by_cases hlt : i < n
    · obtain ⟨p, rfl, hcell⟩ := H1.out _ HO.out.2.1 i hlt
      have hstep := take_snoc s (i := i) (by omega)
      obtain ⟨x, hx⟩ : ∃ x, x = s.getD i 0 := ⟨_, rfl⟩
      rw [← hx] at hcell hstep
      have hnx : Hid (escL (s.take (i + 1)) = L ++ esc x) := by show _ = _; rw [hstep, escL_app, ← hL, escL_cons]; simp [escL]
      have hown := Lib.hid (HO.out.1.alloc (.cells #[.int .u8 (x : Nat)] 5))
      have hnew := Lib.hid (news_alloc wr [.int .u8 (x : Nat)] 5 (0, 0))
      have hon : Hid (∀ u ∈ [Value.int .u8 (x : Nat)], u.oneCell' = true) := Lib.hid (bV_one [x])
      have hb1 : Hid ((bV L).length + 1 ≤ maxLen) := by show _ ≤ _; rw [bV_len]; omega
      have hb2 : Hid (((bV L).length + 1) * 1 ≤ 140737488355328) := by show _ ≤ _; rw [bV_len]; omega
      have H2 : Hid (∀ v1 w1 bo1, Own 5 w1 v1 (bV L ++ [.int .u8 (x : Nat)]) bo1 → Mod (fun k => bo = some k) (wr.alloc (.cells #[.int .u8 (x : Nat)] 5)) w1 → NewOr (wr.alloc (.cells #[.int .u8 (x : Nat)] 5)) bo bo1 → OwnR w (L ++ [x]) v1 bo1 w1 ∧ w1.cell? (p.add i) = some (.int .u8 (x : Nat)) ∧ ∃ a1 c1, v1 = .slice a1 (L.length + 1) c1) := fun v1 w1 bo1 q1 q2 q3 => by
        have q := HO.out.app (X := [x]) q1 q2 q3
        refine ⟨q, ?_, ?_⟩
        · obtain ⟨p', e, h⟩ := H1.out _ q.2.1 i hlt
          cases e
          rw [← hx] at h; exact h
        · obtain ⟨a1, c1, h⟩ := q.1.len
          exact ⟨a1, c1, by rw [h, bV_len, List.length_append]; rfl⟩
      have hlt2 : (i : Int) < (n : Int) := by omega
      have hi9 : (i : Int) ≤ 4000 := by omega
      have Hlt := Lib.hid hlt
      have hb3 : Hid ((bV (L ++ [x])).length + 1 ≤ maxLen) := by show _ ≤ _; rw [bV_len, List.length_append]; simp only [List.length_cons, List.length_nil]; omega
      have hb4 : Hid (((bV (L ++ [x])).length + 1) * 1 ≤ 140737488355328) := by show _ ≤ _; rw [bV_len, List.length_append]; simp only [List.length_cons, List.length_nil]; omega
      have hon2 : Hid (∀ u ∈ [Value.int .u8 255], u.oneCell' = true) := Lib.hid (bV_one [255])
      clear hx hO hstep hL hlt hi hle
      by_cases hx0 : x = 0
      · have hx1 : ((x : Int) == 0) = true := by rw [hx0]; rfl
        have hnx2 : Hid (escL (s.take (i + 1)) = (L ++ [x]) ++ [255]) := by show _ = _; rw [hnx.out, esc, if_pos hx0, hx0]; simp
        clear hx0
        go_wp2_with (first | (at_builtin; refine wpList_append_at rfl (.tmp 23) (.tmp 24) 25 rfl 5 (.int .u8 0) 1 cloneB_under cloneB_info rfl (.slice a1 (L.length + 1) c1) rfl (bV (L ++ [x])) bo1 hown1.out ⟨w1.heap.size, 0, none⟩ 1 1 [.int .u8 255] rfl rfl hnew1.out hon2.out hb3.out hb4.out ?_; intro v2 w2 bo2 HO2 HM2 HN2) | (at_builtin; go_loud (refine wpList_append_at rfl (.tmp 11) (.tmp 16) 25 rfl 5 (.int .u8 0) 1 cloneB_under cloneB_info rfl (.slice a3 L.length c3) rfl (bV L) bo hown.out ⟨wr.heap.size, 0, none⟩ 1 1 [.int .u8 (x : Nat)] rfl rfl hnew.out hon.out hb1.out hb2.out ?_); intro v1 w1 bo1 HO1 HM HN; obtain ⟨k1, hcell1, a1, c1, rfl⟩ := H2.out _ _ _ HO1.out HM.out HN.out; have K1 := Lib.hid k1; have hown1 := Lib.hid (k1.1.alloc (.cells #[.int .u8 255] 5)); have hnew1 := Lib.hid (news_alloc w1 [.int .u8 255] 5 (0, 0)); clear k1 HO1 HM HN))
        go_roundw
        · refine ⟨i + 1, bo2, rfl, Hlt.out, ?_⟩
          rw [hnx2.out]
          exact K1.out.app (X := [255]) HO2.out HM2.out HN2.out
        · have := Hlt.out; simp only [intOf]; omega
      · have hx1 : ((x : Int) == 0) = false := beq_eq_false_iff_ne.2 (by omega)
        have hnx2 : Hid (escL (s.take (i + 1)) = (L ++ [x])) := by show _ = _; rw [hnx.out, esc, if_neg hx0]
        clear hx0
        go_wp2_with (at_builtin; go_loud (refine wpList_append_at rfl (.tmp 11) (.tmp 16) 25 rfl 5 (.int .u8 0) 1 cloneB_under cloneB_info rfl (.slice a3 L.length c3) rfl (bV L) bo hown.out ⟨wr.heap.size, 0, none⟩ 1 1 [.int .u8 (x : Nat)] rfl rfl hnew.out hon.out hb1.out hb2.out ?_); intro v1 w1 bo1 HO1 HM HN; obtain ⟨k1, hcell1, a1, c1, rfl⟩ := H2.out _ _ _ HO1.out HM.out HN.out; have K1 := Lib.hid k1; have hown1 := Lib.hid (k1.1.alloc (.cells #[.int .u8 255] 5)); have hnew1 := Lib.hid (news_alloc w1 [.int .u8 255] 5 (0, 0)); clear k1 HO1 HM HN)
        go_roundw
        · refine ⟨i + 1, bo1, rfl, Hlt.out, ?_⟩
          rw [hnx2.out]
          exact K1.out
        · have := Hlt.out; simp only [intOf]; omega
    · have hlt2 : ¬ (i : Int) < (n : Int) := by omega
      obtain rfl : i = n := by omega
      rw [← hl, List.take_length] at hL
      have hown := Lib.hid (HO.out.1.alloc (.cells #[.int .u8 0, .int .u8 0] 5))
      have hnew := Lib.hid (news_alloc wr [.int .u8 0, .int .u8 0] 5 (0, 0))
      have hon : Hid (∀ u ∈ [Value.int .u8 0, .int .u8 0], u.oneCell' = true) := Lib.hid (bV_one [0, 0])
      have hb1 : Hid ((bV L).length + 2 ≤ maxLen) := by show _ ≤ _; rw [bV_len]; omega
      have hb2 : Hid (((bV L).length + 2) * 1 ≤ 140737488355328) := by show _ ≤ _; rw [bV_len]; omega
      have hE : Hid (∀ v1 w1 bo1, OwnR w (L ++ [0, 0]) v1 bo1 w1 → clonePost 5 (bV (putL s)) w (.returned v1) w1) := fun v1 w1 bo1 q => by
        rw [hL] at q
        exact ⟨v1, bo1, rfl, q.1, q.2.1, q.2.2⟩
      clear hO H1 hL hle
      go_wp2_with (at_builtin; go_loud (refine wpList_append_at rfl (.tmp 26) (.tmp 27) 25 rfl 5 (.int .u8 0) 1 cloneB_under cloneB_info rfl (.slice a3 L.length c3) rfl (bV L) bo hown.out ⟨wr.heap.size, 0, none⟩ 2 2 [.int .u8 0, .int .u8 0] rfl rfl hnew.out hon.out hb1.out hb2.out ?_); intro v1 w1 bo1 HO1 HM HN)
      go_ret
      exact hE.out _ _ _ (HO.out.app (X := [0, 0]) HO1.out HM.out HN.out)
end Go.Proofs.YtbmefmfogdjecaaDoor
/- field.Put: a value's bytes by a field. -/
namespace Go.Proofs.YtbmefmfogdjecaaDoor
open Go.RowKit
def upU (W M u : Nat) : List Nat × Nat := if u > M then ([], 8) else (be W u, 0)
/-- a value's bytes by a kind that rises, and whether that may be -/
def rawP (k : Int) (u : Nat) (i : Int) (bs : List Nat) (t : Bool) : List Nat × Nat :=
  if k = 1 then upU 1 255 u else if k = 2 then upU 2 65535 u else if k = 3 then upU 4 4294967295 u else if k = 4 then upU 8 18446744073709551615 u
  else if k = 5 then upBy 1 127 i else if k = 6 then upBy 2 32767 i else if k = 7 then upBy 4 2147483647 i else if k = 8 then upBy 8 9223372036854775807 i
  else if k = 9 then ([if t then 1 else 0], 0) else if k = 10 then (putL bs, 0) else ([], 9)
/-- by a field -/
def putP (k : Int) (fl : Bool) (u : Nat) (i : Int) (bs : List Nat) (t : Bool) : List Nat × Nat :=
  ((if fl then othL (rawP k u i bs t).1 else (rawP k u i bs t).1), (rawP k u i bs t).2)
theorem put2.up {bs : List Nat} {r : Nat} {w x : World} {e : Ending} {w' : World} (h : put2 bs r x e w') (hb : Below w.heap.size w x) : put2 bs r w e w' := by
  obtain ⟨v, bo, e1, h1, h2, h3⟩ := h
  exact ⟨v, bo, e1, h1, hb.trans (h2.mono hb.size), h3.imp_right fun ⟨g, e, h⟩ => ⟨g, e, Nat.le_trans hb.size h⟩⟩
theorem put2.cells {bs : List Nat} {r : Nat} {x : World} {e : Ending} {w' : World} (h : put2 bs r x e w') {p : Addr} {v : Value} (hc : x.cell? p = some v) : w'.cell? p = some v := by
  obtain ⟨_, _, _, _, h2, _⟩ := h
  exact (h2.cell (p := p) (cell_lt hc)).trans hc
theorem clone_put {bs : List Nat} {w x : World} {e : Ending} {w' : World} (h : clonePost 5 (bV bs) x e w') (hb : Below w.heap.size w x) : ∃ v bo, e = .returned v ∧ Own 5 w' v (bV bs) bo ∧ Below w.heap.size w w' ∧ (bo = none ∨ ∃ g, bo = some g ∧ w.heap.size ≤ g) := by
  obtain ⟨v, bo, e1, h1, h2, h3⟩ := h
  exact ⟨v, bo, e1, h1, hb.trans (h2.mono hb.size), h3.imp_right fun ⟨g, e, h⟩ => ⟨g, e, Nat.le_trans hb.size h⟩⟩
theorem own_one (w : World) (x : Nat) : Own 5 (w.alloc (.cells #[.int .u8 (x : Nat)] 5)) (.slice (some ⟨w.heap.size, 0, none⟩) 1 1) (bV [x]) (some w.heap.size) := Or.inr ⟨_, 1, #[.int .u8 (x : Nat)], rfl, rfl, heap_alloc_new _ _, Nat.le_refl _, by decide, rfl, by simp [bV]⟩
theorem below_al (w : World) (o : Obj) : Below w.heap.size w (w.alloc o) := (Below.refl _ w).alloc (Nat.le_refl _) _
theorem below_al2 (w : World) (o o2 : Obj) : Below w.heap.size w ((w.alloc o).alloc o2) := (below_al w o).alloc (by simp) _
set_option maxRecDepth 100000 in
theorem put_bool (w : World) (t : Bool) : Calls Tryd.prog 30 #[.bool t] w (clonePost 5 (bV [if t then 1 else 0]) w) := by
  cases t
  · go_enter Tryd.func30, Tryd.ntmps30
    go_wp2_with fail
    go_ret
    exact ⟨_, _, rfl, own_one _ 0, below_al _ _, Or.inr ⟨_, rfl, Nat.le_refl _⟩⟩
  · go_enter Tryd.func30, Tryd.ntmps30
    go_wp2_with fail
    go_ret
    exact ⟨_, _, rfl, own_one _ 1, below_al _ _, Or.inr ⟨_, rfl, Nat.le_refl _⟩⟩
set_option maxRecDepth 100000 in
theorem f_whole (w : World) (k : Int) (h : 1 ≤ k ∧ k ≤ 4) : Calls Tryd.prog 24 #[.int .i64 k] w (retIs (.bool true) w) := by
  obtain ⟨h1, h2⟩ := h
  go_enter Tryd.func24, Tryd.ntmps24
  go_wp2_with fail
  go_ret
  exact ⟨by simp [h1, h2], rfl⟩
set_option maxRecDepth 100000 in
theorem f_whole_no (w : World) (k : Int) (h : k < 1 ∨ 4 < k) : Calls Tryd.prog 24 #[.int .i64 k] w (retIs (.bool false) w) := by
  by_cases h1 : 1 ≤ k
  · have h2 : ¬ k ≤ 4 := by omega
    go_enter Tryd.func24, Tryd.ntmps24
    go_wp2_with fail
    go_ret
    exact ⟨by first | (simp [h1]; done) | (simp [h1]; omega), rfl⟩
  · go_enter Tryd.func24, Tryd.ntmps24
    go_wp2_with fail
    go_ret
    exact ⟨by first | (simp; done) | (simp; omega), rfl⟩

set_option maxRecDepth 100000 in
theorem f_signed (w : World) (k : Int) (h : 5 ≤ k ∧ k ≤ 8) : Calls Tryd.prog 25 #[.int .i64 k] w (retIs (.bool true) w) := by
  obtain ⟨h1, h2⟩ := h
  go_enter Tryd.func25, Tryd.ntmps25
  go_wp2_with fail
  go_ret
  exact ⟨by simp [h1, h2], rfl⟩
set_option maxRecDepth 100000 in
theorem f_signed_no (w : World) (k : Int) (h : k < 5 ∨ 8 < k) : Calls Tryd.prog 25 #[.int .i64 k] w (retIs (.bool false) w) := by
  by_cases h1 : 5 ≤ k
  · have h2 : ¬ k ≤ 8 := by omega
    go_enter Tryd.func25, Tryd.ntmps25
    go_wp2_with fail
    go_ret
    exact ⟨by first | (simp [h1]; done) | (simp [h1]; omega), rfl⟩
  · go_enter Tryd.func25, Tryd.ntmps25
    go_wp2_with fail
    go_ret
    exact ⟨by first | (simp; done) | (simp; omega), rfl⟩
set_option maxRecDepth 100000 in
theorem f_width_1 (w : World) : Calls Tryd.prog 35 #[.int .i64 1] w (retIs (.int .i64 1) w) := by
  go_enter Tryd.func35, Tryd.ntmps35
  go_wp2_with (go_at_call 25; refine (f_signed_no _ 1 (by omega)).mono ?_; rintro e w1 ⟨rfl, rfl⟩)
  go_ret
  exact ⟨rfl, rfl⟩

set_option maxRecDepth 100000 in
theorem f_width_2 (w : World) : Calls Tryd.prog 35 #[.int .i64 2] w (retIs (.int .i64 2) w) := by
  go_enter Tryd.func35, Tryd.ntmps35
  go_wp2_with (go_at_call 25; refine (f_signed_no _ 2 (by omega)).mono ?_; rintro e w1 ⟨rfl, rfl⟩)
  go_ret
  exact ⟨rfl, rfl⟩

set_option maxRecDepth 100000 in
theorem f_width_3 (w : World) : Calls Tryd.prog 35 #[.int .i64 3] w (retIs (.int .i64 4) w) := by
  go_enter Tryd.func35, Tryd.ntmps35
  go_wp2_with (go_at_call 25; refine (f_signed_no _ 3 (by omega)).mono ?_; rintro e w1 ⟨rfl, rfl⟩)
  go_ret
  exact ⟨rfl, rfl⟩

set_option maxRecDepth 100000 in
theorem f_width_4 (w : World) : Calls Tryd.prog 35 #[.int .i64 4] w (retIs (.int .i64 8) w) := by
  go_enter Tryd.func35, Tryd.ntmps35
  go_wp2_with (go_at_call 25; refine (f_signed_no _ 4 (by omega)).mono ?_; rintro e w1 ⟨rfl, rfl⟩)
  go_ret
  exact ⟨rfl, rfl⟩
set_option maxRecDepth 100000 in
theorem f_width_5 (w : World) : Calls Tryd.prog 35 #[.int .i64 5] w (retIs (.int .i64 1) w) := by
  go_enter Tryd.func35, Tryd.ntmps35
  go_wp2_with (go_at_call 25; refine (f_signed _ 5 (by omega)).mono ?_; rintro e w1 ⟨rfl, rfl⟩)
  go_ret
  exact ⟨rfl, rfl⟩

set_option maxRecDepth 100000 in
theorem f_width_6 (w : World) : Calls Tryd.prog 35 #[.int .i64 6] w (retIs (.int .i64 2) w) := by
  go_enter Tryd.func35, Tryd.ntmps35
  go_wp2_with (go_at_call 25; refine (f_signed _ 6 (by omega)).mono ?_; rintro e w1 ⟨rfl, rfl⟩)
  go_ret
  exact ⟨rfl, rfl⟩

set_option maxRecDepth 100000 in
theorem f_width_7 (w : World) : Calls Tryd.prog 35 #[.int .i64 7] w (retIs (.int .i64 4) w) := by
  go_enter Tryd.func35, Tryd.ntmps35
  go_wp2_with (go_at_call 25; refine (f_signed _ 7 (by omega)).mono ?_; rintro e w1 ⟨rfl, rfl⟩)
  go_ret
  exact ⟨rfl, rfl⟩

set_option maxRecDepth 100000 in
theorem f_width_8 (w : World) : Calls Tryd.prog 35 #[.int .i64 8] w (retIs (.int .i64 8) w) := by
  go_enter Tryd.func35, Tryd.ntmps35
  go_wp2_with (go_at_call 25; refine (f_signed _ 8 (by omega)).mono ?_; rintro e w1 ⟨rfl, rfl⟩)
  go_ret
  exact ⟨rfl, rfl⟩
/-- a value, as it lies in memory -/
abbrev FA (k : Int) (fl : Bool) : Value := .agg #[.int .i64 k, .bool fl]
set_option maxHeartbeats 1000000 in
set_option maxRecDepth 100000 in
theorem f_put_1 (w : World) (fl : Bool) (u : Nat) (hu : u < 18446744073709551616) (i : Int) (a : Option Addr) (n c : Nat) (t : Bool) : Calls Tryd.prog 20 #[.agg #[.int .i64 1, .bool fl], .agg #[.int .u64 (u : Nat), .int .i64 i, .slice a n c, .bool t]] w (put2 (upU 1 255 u).1 (upU 1 255 u).2 w) := by
  have hP : Hid (∀ x, Calls Tryd.prog 34 #[.int .i64 1, .int .u64 (u : Nat)] x (put2 (upU 1 255 u).1 (upU 1 255 u).2 x)) := fun x => by
    have := u_put x 1 u 255 (by omega) (by omega) hu (by omega) u_most_1
    unfold upU
    split <;> rename_i h <;> simp only [h, if_true, if_false] at this ⊢ <;> exact this
  generalize upU 1 255 u = R at *
  obtain ⟨R, r⟩ := R
  have hB := Lib.hid (below_al2 w (.cells #[.int .i64 1, .bool fl] 32) (.cells #[.int .u64 (u : Nat), .int .i64 i, .slice a n c, .bool t] 33))
  go_enter Tryd.func20, Tryd.ntmps20
  go_wp2_with (go_at_call 24; refine (f_whole _ _ (by omega)).mono ?_; rintro e w1 ⟨rfl, rfl⟩)
  go_region_held3 (fun w' => w'.cell? ⟨w.heap.size, 0, none⟩ = some (.int .i64 1) ∧ w'.cell? ⟨w.heap.size + 1, 0, none⟩ = some (.int .u64 (u : Nat))) (first | go_keep)
    (first
    | (have g0 := G1; go_at_call 34; refine (hP.out _).mono ?_; intro e w2 q; have z1 := q.cells (p := ⟨w.heap.size, 0, none⟩) (v := .int .i64 1) (by simp); have z2 := q.cells (p := ⟨w.heap.size + 1, 0, none⟩) (v := .int .u64 (u : Nat)) (by simp); obtain ⟨v, bo, rfl, q1, q2, q3⟩ := q.up (by first | exact hB.out | exact below_drewN hB.out _ | exact hB.out.drew); have Q1 := Lib.hid q1; have Q2 := Lib.hid q2; have Q3 := Lib.hid q3; clear q q1 q2 q3)
    | (go_at_call 35; refine (f_width_1 _).mono ?_; rintro e w1 ⟨rfl, rfl⟩; have G1 : Hid True := trivial))
  (try simp only [Exit.then, Exit.inBlock])
  go_wp2_with fail
  go_ret2
  exact ⟨v, bo, rfl, Q1.out, Q2.out, Q3.out⟩

set_option maxHeartbeats 1000000 in
set_option maxRecDepth 100000 in
theorem f_put_2 (w : World) (fl : Bool) (u : Nat) (hu : u < 18446744073709551616) (i : Int) (a : Option Addr) (n c : Nat) (t : Bool) : Calls Tryd.prog 20 #[.agg #[.int .i64 2, .bool fl], .agg #[.int .u64 (u : Nat), .int .i64 i, .slice a n c, .bool t]] w (put2 (upU 2 65535 u).1 (upU 2 65535 u).2 w) := by
  have hP : Hid (∀ x, Calls Tryd.prog 34 #[.int .i64 2, .int .u64 (u : Nat)] x (put2 (upU 2 65535 u).1 (upU 2 65535 u).2 x)) := fun x => by
    have := u_put x 2 u 65535 (by omega) (by omega) hu (by omega) u_most_2
    unfold upU
    split <;> rename_i h <;> simp only [h, if_true, if_false] at this ⊢ <;> exact this
  generalize upU 2 65535 u = R at *
  obtain ⟨R, r⟩ := R
  have hB := Lib.hid (below_al2 w (.cells #[.int .i64 2, .bool fl] 32) (.cells #[.int .u64 (u : Nat), .int .i64 i, .slice a n c, .bool t] 33))
  go_enter Tryd.func20, Tryd.ntmps20
  go_wp2_with (go_at_call 24; refine (f_whole _ _ (by omega)).mono ?_; rintro e w1 ⟨rfl, rfl⟩)
  go_region_held3 (fun w' => w'.cell? ⟨w.heap.size, 0, none⟩ = some (.int .i64 2) ∧ w'.cell? ⟨w.heap.size + 1, 0, none⟩ = some (.int .u64 (u : Nat))) (first | go_keep)
    (first
    | (have g0 := G1; go_at_call 34; refine (hP.out _).mono ?_; intro e w2 q; have z1 := q.cells (p := ⟨w.heap.size, 0, none⟩) (v := .int .i64 2) (by simp); have z2 := q.cells (p := ⟨w.heap.size + 1, 0, none⟩) (v := .int .u64 (u : Nat)) (by simp); obtain ⟨v, bo, rfl, q1, q2, q3⟩ := q.up (by first | exact hB.out | exact below_drewN hB.out _ | exact hB.out.drew); have Q1 := Lib.hid q1; have Q2 := Lib.hid q2; have Q3 := Lib.hid q3; clear q q1 q2 q3)
    | (go_at_call 35; refine (f_width_2 _).mono ?_; rintro e w1 ⟨rfl, rfl⟩; have G1 : Hid True := trivial))
  (try simp only [Exit.then, Exit.inBlock])
  go_wp2_with fail
  go_ret2
  exact ⟨v, bo, rfl, Q1.out, Q2.out, Q3.out⟩

set_option maxHeartbeats 1000000 in
set_option maxRecDepth 100000 in
theorem f_put_3 (w : World) (fl : Bool) (u : Nat) (hu : u < 18446744073709551616) (i : Int) (a : Option Addr) (n c : Nat) (t : Bool) : Calls Tryd.prog 20 #[.agg #[.int .i64 3, .bool fl], .agg #[.int .u64 (u : Nat), .int .i64 i, .slice a n c, .bool t]] w (put2 (upU 4 4294967295 u).1 (upU 4 4294967295 u).2 w) := by
  have hP : Hid (∀ x, Calls Tryd.prog 34 #[.int .i64 4, .int .u64 (u : Nat)] x (put2 (upU 4 4294967295 u).1 (upU 4 4294967295 u).2 x)) := fun x => by
    have := u_put x 4 u 4294967295 (by omega) (by omega) hu (by omega) u_most_4
    unfold upU
    split <;> rename_i h <;> simp only [h, if_true, if_false] at this ⊢ <;> exact this
  generalize upU 4 4294967295 u = R at *
  obtain ⟨R, r⟩ := R
  have hB := Lib.hid (below_al2 w (.cells #[.int .i64 3, .bool fl] 32) (.cells #[.int .u64 (u : Nat), .int .i64 i, .slice a n c, .bool t] 33))
  go_enter Tryd.func20, Tryd.ntmps20
  go_wp2_with (go_at_call 24; refine (f_whole _ _ (by omega)).mono ?_; rintro e w1 ⟨rfl, rfl⟩)
  go_region_held3 (fun w' => w'.cell? ⟨w.heap.size, 0, none⟩ = some (.int .i64 3) ∧ w'.cell? ⟨w.heap.size + 1, 0, none⟩ = some (.int .u64 (u : Nat))) (first | go_keep)
    (first
    | (have g0 := G1; go_at_call 34; refine (hP.out _).mono ?_; intro e w2 q; have z1 := q.cells (p := ⟨w.heap.size, 0, none⟩) (v := .int .i64 3) (by simp); have z2 := q.cells (p := ⟨w.heap.size + 1, 0, none⟩) (v := .int .u64 (u : Nat)) (by simp); obtain ⟨v, bo, rfl, q1, q2, q3⟩ := q.up (by first | exact hB.out | exact below_drewN hB.out _ | exact hB.out.drew); have Q1 := Lib.hid q1; have Q2 := Lib.hid q2; have Q3 := Lib.hid q3; clear q q1 q2 q3)
    | (go_at_call 35; refine (f_width_3 _).mono ?_; rintro e w1 ⟨rfl, rfl⟩; have G1 : Hid True := trivial))
  (try simp only [Exit.then, Exit.inBlock])
  go_wp2_with fail
  go_ret2
  exact ⟨v, bo, rfl, Q1.out, Q2.out, Q3.out⟩

set_option maxHeartbeats 1000000 in
set_option maxRecDepth 100000 in
theorem f_put_4 (w : World) (fl : Bool) (u : Nat) (hu : u < 18446744073709551616) (i : Int) (a : Option Addr) (n c : Nat) (t : Bool) : Calls Tryd.prog 20 #[.agg #[.int .i64 4, .bool fl], .agg #[.int .u64 (u : Nat), .int .i64 i, .slice a n c, .bool t]] w (put2 (upU 8 18446744073709551615 u).1 (upU 8 18446744073709551615 u).2 w) := by
  have hP : Hid (∀ x, Calls Tryd.prog 34 #[.int .i64 8, .int .u64 (u : Nat)] x (put2 (upU 8 18446744073709551615 u).1 (upU 8 18446744073709551615 u).2 x)) := fun x => by
    have := u_put x 8 u 18446744073709551615 (by omega) (by omega) hu (by omega) u_most_8
    unfold upU
    split <;> rename_i h <;> simp only [h, if_true, if_false] at this ⊢ <;> exact this
  generalize upU 8 18446744073709551615 u = R at *
  obtain ⟨R, r⟩ := R
  have hB := Lib.hid (below_al2 w (.cells #[.int .i64 4, .bool fl] 32) (.cells #[.int .u64 (u : Nat), .int .i64 i, .slice a n c, .bool t] 33))
  go_enter Tryd.func20, Tryd.ntmps20
  go_wp2_with (go_at_call 24; refine (f_whole _ _ (by omega)).mono ?_; rintro e w1 ⟨rfl, rfl⟩)
  go_region_held3 (fun w' => w'.cell? ⟨w.heap.size, 0, none⟩ = some (.int .i64 4) ∧ w'.cell? ⟨w.heap.size + 1, 0, none⟩ = some (.int .u64 (u : Nat))) (first | go_keep)
    (first
    | (have g0 := G1; go_at_call 34; refine (hP.out _).mono ?_; intro e w2 q; have z1 := q.cells (p := ⟨w.heap.size, 0, none⟩) (v := .int .i64 4) (by simp); have z2 := q.cells (p := ⟨w.heap.size + 1, 0, none⟩) (v := .int .u64 (u : Nat)) (by simp); obtain ⟨v, bo, rfl, q1, q2, q3⟩ := q.up (by first | exact hB.out | exact below_drewN hB.out _ | exact hB.out.drew); have Q1 := Lib.hid q1; have Q2 := Lib.hid q2; have Q3 := Lib.hid q3; clear q q1 q2 q3)
    | (go_at_call 35; refine (f_width_4 _).mono ?_; rintro e w1 ⟨rfl, rfl⟩; have G1 : Hid True := trivial))
  (try simp only [Exit.then, Exit.inBlock])
  go_wp2_with fail
  go_ret2
  exact ⟨v, bo, rfl, Q1.out, Q2.out, Q3.out⟩
end Go.Proofs.YtbmefmfogdjecaaDoor
/- field.Put: numbers with a sign, bools, texts; any kind. -/
namespace Go.Proofs.YtbmefmfogdjecaaDoor
open Go.RowKit
set_option maxHeartbeats 1000000 in
set_option maxRecDepth 100000 in
theorem f_put_5 (w : World) (fl : Bool) (u : Nat) (i : Int) (hi1 : -9223372036854775808 ≤ i) (hi2 : i ≤ 9223372036854775807) (a : Option Addr) (n c : Nat) (t : Bool) : Calls Tryd.prog 20 #[.agg #[.int .i64 5, .bool fl], .agg #[.int .u64 (u : Nat), .int .i64 i, .slice a n c, .bool t]] w (put2 (upBy 1 127 i).1 (upBy 1 127 i).2 w) := by
  have hP := Lib.hid (fun x => i_put_1 x i hi1 hi2)
  generalize upBy 1 127 i = R at *
  obtain ⟨R, r⟩ := R
  have hB := Lib.hid (below_al2 w (.cells #[.int .i64 5, .bool fl] 32) (.cells #[.int .u64 (u : Nat), .int .i64 i, .slice a n c, .bool t] 33))
  go_enter Tryd.func20, Tryd.ntmps20
  go_wp2_with (first | (go_at_call 25; refine (f_signed _ _ (by omega)).mono ?_; rintro e w1 ⟨rfl, rfl⟩) | (go_at_call 24; refine (f_whole_no _ _ (by omega)).mono ?_; rintro e w1 ⟨rfl, rfl⟩))
  go_region_held3 (fun w' => w'.cell? ⟨w.heap.size, 0, none⟩ = some (.int .i64 5) ∧ w'.cell? ⟨w.heap.size + 1, 1, none⟩ = some (.int .i64 i)) (first | go_keep)
    (first
    | (have g0 := G1; go_at_call 36; refine (hP.out _).mono ?_; intro e w2 q; have z1 := q.cells (p := ⟨w.heap.size, 0, none⟩) (v := .int .i64 5) (by simp); have z2 := q.cells (p := ⟨w.heap.size + 1, 1, none⟩) (v := .int .i64 i) (by simp); obtain ⟨v, bo, rfl, q1, q2, q3⟩ := q.up (by first | exact hB.out | exact below_drewN hB.out _ | exact hB.out.drew); have Q1 := Lib.hid q1; have Q2 := Lib.hid q2; have Q3 := Lib.hid q3; clear q q1 q2 q3)
    | (go_at_call 35; refine (f_width_5 _).mono ?_; rintro e w1 ⟨rfl, rfl⟩; have G1 : Hid True := trivial))
  (try simp only [Exit.then, Exit.inBlock])
  go_wp2_with fail
  go_ret2
  exact ⟨v, bo, rfl, Q1.out, Q2.out, Q3.out⟩

set_option maxHeartbeats 1000000 in
set_option maxRecDepth 100000 in
theorem f_put_6 (w : World) (fl : Bool) (u : Nat) (i : Int) (hi1 : -9223372036854775808 ≤ i) (hi2 : i ≤ 9223372036854775807) (a : Option Addr) (n c : Nat) (t : Bool) : Calls Tryd.prog 20 #[.agg #[.int .i64 6, .bool fl], .agg #[.int .u64 (u : Nat), .int .i64 i, .slice a n c, .bool t]] w (put2 (upBy 2 32767 i).1 (upBy 2 32767 i).2 w) := by
  have hP := Lib.hid (fun x => i_put_2 x i hi1 hi2)
  generalize upBy 2 32767 i = R at *
  obtain ⟨R, r⟩ := R
  have hB := Lib.hid (below_al2 w (.cells #[.int .i64 6, .bool fl] 32) (.cells #[.int .u64 (u : Nat), .int .i64 i, .slice a n c, .bool t] 33))
  go_enter Tryd.func20, Tryd.ntmps20
  go_wp2_with (first | (go_at_call 25; refine (f_signed _ _ (by omega)).mono ?_; rintro e w1 ⟨rfl, rfl⟩) | (go_at_call 24; refine (f_whole_no _ _ (by omega)).mono ?_; rintro e w1 ⟨rfl, rfl⟩))
  go_region_held3 (fun w' => w'.cell? ⟨w.heap.size, 0, none⟩ = some (.int .i64 6) ∧ w'.cell? ⟨w.heap.size + 1, 1, none⟩ = some (.int .i64 i)) (first | go_keep)
    (first
    | (have g0 := G1; go_at_call 36; refine (hP.out _).mono ?_; intro e w2 q; have z1 := q.cells (p := ⟨w.heap.size, 0, none⟩) (v := .int .i64 6) (by simp); have z2 := q.cells (p := ⟨w.heap.size + 1, 1, none⟩) (v := .int .i64 i) (by simp); obtain ⟨v, bo, rfl, q1, q2, q3⟩ := q.up (by first | exact hB.out | exact below_drewN hB.out _ | exact hB.out.drew); have Q1 := Lib.hid q1; have Q2 := Lib.hid q2; have Q3 := Lib.hid q3; clear q q1 q2 q3)
    | (go_at_call 35; refine (f_width_6 _).mono ?_; rintro e w1 ⟨rfl, rfl⟩; have G1 : Hid True := trivial))
  (try simp only [Exit.then, Exit.inBlock])
  go_wp2_with fail
  go_ret2
  exact ⟨v, bo, rfl, Q1.out, Q2.out, Q3.out⟩

set_option maxHeartbeats 1000000 in
set_option maxRecDepth 100000 in
theorem f_put_7 (w : World) (fl : Bool) (u : Nat) (i : Int) (hi1 : -9223372036854775808 ≤ i) (hi2 : i ≤ 9223372036854775807) (a : Option Addr) (n c : Nat) (t : Bool) : Calls Tryd.prog 20 #[.agg #[.int .i64 7, .bool fl], .agg #[.int .u64 (u : Nat), .int .i64 i, .slice a n c, .bool t]] w (put2 (upBy 4 2147483647 i).1 (upBy 4 2147483647 i).2 w) := by
  have hP := Lib.hid (fun x => i_put_4 x i hi1 hi2)
  generalize upBy 4 2147483647 i = R at *
  obtain ⟨R, r⟩ := R
  have hB := Lib.hid (below_al2 w (.cells #[.int .i64 7, .bool fl] 32) (.cells #[.int .u64 (u : Nat), .int .i64 i, .slice a n c, .bool t] 33))
  go_enter Tryd.func20, Tryd.ntmps20
  go_wp2_with (first | (go_at_call 25; refine (f_signed _ _ (by omega)).mono ?_; rintro e w1 ⟨rfl, rfl⟩) | (go_at_call 24; refine (f_whole_no _ _ (by omega)).mono ?_; rintro e w1 ⟨rfl, rfl⟩))
  go_region_held3 (fun w' => w'.cell? ⟨w.heap.size, 0, none⟩ = some (.int .i64 7) ∧ w'.cell? ⟨w.heap.size + 1, 1, none⟩ = some (.int .i64 i)) (first | go_keep)
    (first
    | (have g0 := G1; go_at_call 36; refine (hP.out _).mono ?_; intro e w2 q; have z1 := q.cells (p := ⟨w.heap.size, 0, none⟩) (v := .int .i64 7) (by simp); have z2 := q.cells (p := ⟨w.heap.size + 1, 1, none⟩) (v := .int .i64 i) (by simp); obtain ⟨v, bo, rfl, q1, q2, q3⟩ := q.up (by first | exact hB.out | exact below_drewN hB.out _ | exact hB.out.drew); have Q1 := Lib.hid q1; have Q2 := Lib.hid q2; have Q3 := Lib.hid q3; clear q q1 q2 q3)
    | (go_at_call 35; refine (f_width_7 _).mono ?_; rintro e w1 ⟨rfl, rfl⟩; have G1 : Hid True := trivial))
  (try simp only [Exit.then, Exit.inBlock])
  go_wp2_with fail
  go_ret2
  exact ⟨v, bo, rfl, Q1.out, Q2.out, Q3.out⟩

set_option maxHeartbeats 1000000 in
set_option maxRecDepth 100000 in
theorem f_put_8 (w : World) (fl : Bool) (u : Nat) (i : Int) (hi1 : -9223372036854775808 ≤ i) (hi2 : i ≤ 9223372036854775807) (a : Option Addr) (n c : Nat) (t : Bool) : Calls Tryd.prog 20 #[.agg #[.int .i64 8, .bool fl], .agg #[.int .u64 (u : Nat), .int .i64 i, .slice a n c, .bool t]] w (put2 (upBy 8 9223372036854775807 i).1 (upBy 8 9223372036854775807 i).2 w) := by
  have hP := Lib.hid (fun x => i_put_8 x i hi1 hi2)
  generalize upBy 8 9223372036854775807 i = R at *
  obtain ⟨R, r⟩ := R
  have hB := Lib.hid (below_al2 w (.cells #[.int .i64 8, .bool fl] 32) (.cells #[.int .u64 (u : Nat), .int .i64 i, .slice a n c, .bool t] 33))
  go_enter Tryd.func20, Tryd.ntmps20
  go_wp2_with (first | (go_at_call 25; refine (f_signed _ _ (by omega)).mono ?_; rintro e w1 ⟨rfl, rfl⟩) | (go_at_call 24; refine (f_whole_no _ _ (by omega)).mono ?_; rintro e w1 ⟨rfl, rfl⟩))
  go_region_held3 (fun w' => w'.cell? ⟨w.heap.size, 0, none⟩ = some (.int .i64 8) ∧ w'.cell? ⟨w.heap.size + 1, 1, none⟩ = some (.int .i64 i)) (first | go_keep)
    (first
    | (have g0 := G1; go_at_call 36; refine (hP.out _).mono ?_; intro e w2 q; have z1 := q.cells (p := ⟨w.heap.size, 0, none⟩) (v := .int .i64 8) (by simp); have z2 := q.cells (p := ⟨w.heap.size + 1, 1, none⟩) (v := .int .i64 i) (by simp); obtain ⟨v, bo, rfl, q1, q2, q3⟩ := q.up (by first | exact hB.out | exact below_drewN hB.out _ | exact hB.out.drew); have Q1 := Lib.hid q1; have Q2 := Lib.hid q2; have Q3 := Lib.hid q3; clear q q1 q2 q3)
    | (go_at_call 35; refine (f_width_8 _).mono ?_; rintro e w1 ⟨rfl, rfl⟩; have G1 : Hid True := trivial))
  (try simp only [Exit.then, Exit.inBlock])
  go_wp2_with fail
  go_ret2
  exact ⟨v, bo, rfl, Q1.out, Q2.out, Q3.out⟩
set_option maxHeartbeats 1000000 in
set_option maxRecDepth 100000 in
theorem f_put_9 (w : World) (fl : Bool) (u : Nat) (i : Int) (a : Option Addr) (n c : Nat) (t : Bool) : Calls Tryd.prog 20 #[.agg #[.int .i64 9, .bool fl], .agg #[.int .u64 (u : Nat), .int .i64 i, .slice a n c, .bool t]] w (put2 [if t then 1 else 0] 0 w) := by
  have hB := Lib.hid (below_al2 w (.cells #[.int .i64 9, .bool fl] 32) (.cells #[.int .u64 (u : Nat), .int .i64 i, .slice a n c, .bool t] 33))
  have hP := Lib.hid (fun x => put_bool x t)
  generalize (if t then 1 else 0) = y at *
  go_enter Tryd.func20, Tryd.ntmps20
  go_wp2_with (first | (go_at_call 30; go_loud (refine (hP.out _).mono ?_); intro e w2 q; obtain ⟨v, bo, rfl, q1, q2, q3⟩ := clone_put q hB.out; have Q1 := Lib.hid q1; have Q2 := Lib.hid q2; have Q3 := Lib.hid q3; clear q q1 q2 q3) | (go_at_call 25; refine (f_signed_no _ _ (by omega)).mono ?_; rintro e w1 ⟨rfl, rfl⟩) | (go_at_call 24; refine (f_whole_no _ _ (by omega)).mono ?_; rintro e w1 ⟨rfl, rfl⟩))
  go_ret2
  exact ⟨v, bo, rfl, Q1.out, Q2.out, Q3.out⟩
set_option maxHeartbeats 1000000 in
set_option maxRecDepth 100000 in
theorem f_put_10 (w : World) (m : Int) (hM : MaxAt w m) (fl : Bool) (u : Nat) (i : Int) (a : Option Addr) (n c : Nat) (bs : List Nat) (hS : Sl w a n c bs) (hn : n ≤ 500) (t : Bool) : Calls Tryd.prog 20 #[.agg #[.int .i64 10, .bool fl], .agg #[.int .u64 (u : Nat), .int .i64 i, .slice a n c, .bool t]] w (put2 (putL bs) 0 w) := by
  have hB := Lib.hid (below_al2 w (.cells #[.int .i64 10, .bool fl] 32) (.cells #[.int .u64 (u : Nat), .int .i64 i, .slice a n c, .bool t] 33))
  have hP : Hid (∀ x, Below w.heap.size w x → Calls Tryd.prog 37 #[.slice a n c] x (clonePost 5 (bV (putL bs)) x)) := fun x hb => senc_put (hM.below hb) a n c bs (hS.below hb) (by omega)
  clear hM hS hn
  go_enter Tryd.func20, Tryd.ntmps20
  go_wp2_with (first | (go_at_call 37; go_loud (refine (hP.out _ hB.out).mono ?_); intro e w2 q; obtain ⟨v, bo, rfl, q1, q2, q3⟩ := clone_put q hB.out; have Q1 := Lib.hid q1; have Q2 := Lib.hid q2; have Q3 := Lib.hid q3; clear q q1 q2 q3) | (go_at_call 25; refine (f_signed_no _ _ (by omega)).mono ?_; rintro e w1 ⟨rfl, rfl⟩) | (go_at_call 24; refine (f_whole_no _ _ (by omega)).mono ?_; rintro e w1 ⟨rfl, rfl⟩))
  go_ret2
  exact ⟨v, bo, rfl, Q1.out, Q2.out, Q3.out⟩
set_option maxHeartbeats 1000000 in
set_option maxRecDepth 100000 in
theorem f_put_no (w : World) (k : Int) (hk : k < 1 ∨ 10 < k) (fl : Bool) (u : Nat) (i : Int) (a : Option Addr) (n c : Nat) (t : Bool) : Calls Tryd.prog 20 #[.agg #[.int .i64 k, .bool fl], .agg #[.int .u64 (u : Nat), .int .i64 i, .slice a n c, .bool t]] w (put2 [] 9 w) := by
  have hB := Lib.hid (below_al2 w (.cells #[.int .i64 k, .bool fl] 32) (.cells #[.int .u64 (u : Nat), .int .i64 i, .slice a n c, .bool t] 33))
  have h9 : (k == 9) = false := beq_eq_false_iff_ne.2 (by omega)
  have h10 : (k == 10) = false := beq_eq_false_iff_ne.2 (by omega)
  go_enter Tryd.func20, Tryd.ntmps20
  go_wp2_with (first | (go_at_call 25; refine (f_signed_no _ _ (by omega)).mono ?_; rintro e w1 ⟨rfl, rfl⟩) | (go_at_call 24; refine (f_whole_no _ _ (by omega)).mono ?_; rintro e w1 ⟨rfl, rfl⟩))
  go_ret2
  exact ⟨_, none, rfl, Own.nil _ _, hB.out, Or.inl rfl⟩
/-- a field's put, any kind -/
theorem f_put (w : World) (m : Int) (hM : MaxAt w m) (k : Int) (fl : Bool) (u : Nat) (hu : u < 18446744073709551616) (i : Int) (hi1 : -9223372036854775808 ≤ i) (hi2 : i ≤ 9223372036854775807) (a : Option Addr) (n c : Nat) (bs : List Nat) (hS : Sl w a n c bs) (hn : n ≤ 500) (t : Bool) : Calls Tryd.prog 20 #[.agg #[.int .i64 k, .bool fl], .agg #[.int .u64 (u : Nat), .int .i64 i, .slice a n c, .bool t]] w (put2 (rawP k u i bs t).1 (rawP k u i bs t).2 w) := by
  have hk : k = 1 ∨ k = 2 ∨ k = 3 ∨ k = 4 ∨ k = 5 ∨ k = 6 ∨ k = 7 ∨ k = 8 ∨ k = 9 ∨ k = 10 ∨ (k < 1 ∨ 10 < k) := by omega
  rcases hk with rfl | rfl | rfl | rfl | rfl | rfl | rfl | rfl | rfl | rfl | hk
  · exact f_put_1 w fl u hu i a n c t
  · exact f_put_2 w fl u hu i a n c t
  · exact f_put_3 w fl u hu i a n c t
  · exact f_put_4 w fl u hu i a n c t
  · exact f_put_5 w fl u i hi1 hi2 a n c t
  · exact f_put_6 w fl u i hi1 hi2 a n c t
  · exact f_put_7 w fl u i hi1 hi2 a n c t
  · exact f_put_8 w fl u i hi1 hi2 a n c t
  · exact f_put_9 w fl u i a n c t
  · exact f_put_10 w m hM fl u i a n c bs hS hn t
  · have e : rawP k u i bs t = ([], 9) := by
      unfold rawP
      rw [if_neg (by omega), if_neg (by omega), if_neg (by omega), if_neg (by omega), if_neg (by omega), if_neg (by omega), if_neg (by omega), if_neg (by omega), if_neg (by omega), if_neg (by omega)]
    rw [e]
    exact f_put_no w k hk fl u i a n c t
end Go.Proofs.YtbmefmfogdjecaaDoor
/- field.Put: by a field that rises or falls. -/
namespace Go.Proofs.YtbmefmfogdjecaaDoor
open Go.RowKit
/-- bytes, and whether they may be -/
def putS (bs : List Nat) (r : Nat) (w : World) (e : Ending) (w' : World) : Prop := ∃ a c, e = .returned (.tuple #[.slice a bs.length c, .int .i64 (r : Nat)]) ∧ Sl w' a bs.length c bs ∧ Below w.heap.size w w'
theorem Sl.none (w : World) : Sl w none 0 0 [] := ⟨rfl, ⟨by simp, fun i hi => by simp at hi⟩, Nat.le_refl _, Nat.zero_le _, fun _ => ⟨rfl, rfl⟩⟩
theorem upU_ok (W M u : Nat) : (∀ x ∈ (upU W M u).1, x < 256) ∧ (upU W M u).1.length ≤ W ∧ ((upU W M u).2 ≠ 0 → (upU W M u).1 = []) := by
  unfold upU
  split
  · simp
  · exact ⟨be_lt _ _, by simp [be_len], fun h => absurd rfl h⟩
theorem upBy_ok (W M : Nat) (i : Int) : (∀ x ∈ (upBy W M i).1, x < 256) ∧ (upBy W M i).1.length ≤ W ∧ ((upBy W M i).2 ≠ 0 → (upBy W M i).1 = []) := by
  unfold upBy
  split
  · simp
  · exact ⟨be_lt _ _, by simp [be_len], fun h => absurd rfl h⟩
def Okr (r : List Nat × Nat) : Prop := (∀ x ∈ r.1, x < 256) ∧ r.1.length ≤ 2000 ∧ (r.2 ≠ 0 → r.1 = [])
theorem okU (W M u : Nat) (h : W ≤ 8) : Okr (upU W M u) := by
  obtain ⟨h1, h2, h3⟩ := upU_ok W M u
  exact ⟨h1, by omega, h3⟩
theorem okI (W M : Nat) (i : Int) (h : W ≤ 8) : Okr (upBy W M i) := by
  obtain ⟨h1, h2, h3⟩ := upBy_ok W M i
  exact ⟨h1, by omega, h3⟩
theorem okIf {p : Prop} [Decidable p] {a b : List Nat × Nat} (h1 : Okr a) (h2 : Okr b) : Okr (if p then a else b) := by
  split
  · exact h1
  · exact h2
theorem rawP_ok (k : Int) (u : Nat) (i : Int) (bs : List Nat) (t : Bool) (hb : ∀ x ∈ bs, x < 256) (hl : bs.length ≤ 500) : Okr (rawP k u i bs t) := by
  unfold rawP
  refine okIf (okU _ _ _ (by omega)) (okIf (okU _ _ _ (by omega)) (okIf (okU _ _ _ (by omega)) (okIf (okU _ _ _ (by omega)) (okIf (okI _ _ _ (by omega)) (okIf (okI _ _ _ (by omega)) (okIf (okI _ _ _ (by omega)) (okIf (okI _ _ _ (by omega)) (okIf ?_ (okIf ?_ ?_)))))))))
  · refine ⟨?_, by simp, fun h => absurd rfl h⟩
    cases t <;> simp
  · refine ⟨putL_lt hb, ?_, fun h => absurd rfl h⟩
    have h1 := escL_len bs
    have h2 := List.count_le_length (a := 0) (l := bs)
    simp only [putL, List.length_append, List.length_cons, List.length_nil]
    omega
  · exact ⟨by simp, by simp, fun _ => rfl⟩
/-- what is own, as a slice -/
theorem put2_sl {bs : List Nat} {r : Nat} {w : World} {e : Ending} {w' : World} (h : put2 bs r w e w') (hb : ∀ x ∈ bs, x < 256) : putS bs r w e w' := by
  obtain ⟨v, bo, rfl, h1, h2, h3⟩ := h
  obtain ⟨a, c, rfl, h4⟩ := own_sl h1 hb
  exact ⟨a, c, rfl, h4, h2⟩
set_option maxHeartbeats 1000000 in
set_option maxRecDepth 100000 in
theorem f_turn (w : World) (k : Int) (fl : Bool) (a : Option Addr) (n c : Nat) (R : List Nat) (hS : Sl w a n c R) (hn : n ≤ 9000) : Calls Tryd.prog 21 #[.agg #[.int .i64 k, .bool fl], .slice a n c] w (slPost (if fl then othL R else R) w) := by
  have hB := Lib.hid (below_al w (.cells #[.int .i64 k, .bool fl] 32))
  cases fl with
  | true =>
    have hP : Hid (∀ x, Below w.heap.size w x → Calls Tryd.prog 38 #[.slice a n c] x (clonePost 5 (bV (othL R)) x)) := fun x hb => senc_other a n c R (hS.below hb) hn
    have hO : Hid (∀ x ∈ othL R, x < 256) := othL_lt R
    clear hS
    rw [if_pos rfl]
    go_enter Tryd.func21, Tryd.ntmps21
    go_wp2_with (go_at_call 38; go_loud (refine (hP.out _ hB.out).mono ?_); intro e w2 q; obtain ⟨a2, c2, rfl, q1, q2⟩ := clone_sl q hO.out; have Q1 := Lib.hid q1; have Q2 := Lib.hid (hB.out.trans (q2.mono hB.out.size)); clear q q1 q2)
    go_ret
    exact ⟨a2, c2, rfl, Q1.out, Q2.out⟩
  | false =>
    have hS2 := Lib.hid (hS.below hB.out)
    have hl := hS.len
    clear hS
    simp only [Bool.false_eq_true, if_false]
    go_enter Tryd.func21, Tryd.ntmps21
    go_wp2_with fail
    go_ret
    exact ⟨a, c, by rw [hl]; rfl, by rw [hl]; exact hS2.out, hB.out⟩
set_option maxHeartbeats 1000000 in
set_option maxRecDepth 100000 in
/-- field.Put -/
theorem f_Put (w : World) (m : Int) (hM : MaxAt w m) (k : Int) (fl : Bool) (u : Nat) (hu : u < 18446744073709551616) (i : Int) (hi1 : -9223372036854775808 ≤ i) (hi2 : i ≤ 9223372036854775807) (a : Option Addr) (n c : Nat) (bs : List Nat) (hS : Sl w a n c bs) (hn : n ≤ 500) (t : Bool) : Calls Tryd.prog 6 #[.agg #[.int .i64 k, .bool fl], .agg #[.int .u64 (u : Nat), .int .i64 i, .slice a n c, .bool t]] w (putS (putP k fl u i bs t).1 (putP k fl u i bs t).2 w) := by
  have hB := Lib.hid (below_al2 w (.cells #[.int .i64 k, .bool fl] 32) (.cells #[.int .u64 (u : Nat), .int .i64 i, .slice a n c, .bool t] 33))
  have hP : Hid (∀ x, Below w.heap.size w x → Calls Tryd.prog 20 #[.agg #[.int .i64 k, .bool fl], .agg #[.int .u64 (u : Nat), .int .i64 i, .slice a n c, .bool t]] x (put2 (rawP k u i bs t).1 (rawP k u i bs t).2 x)) := fun x hb => f_put x m (hM.below hb) k fl u hu i hi1 hi2 a n c bs (hS.below hb) hn t
  obtain ⟨o1, o2, o3⟩ := rawP_ok k u i bs t hS.at_.1 (by rw [hS.len]; exact hn)
  unfold putP
  generalize rawP k u i bs t = RR at *
  obtain ⟨R, r⟩ := RR
  dsimp only at o1 o2 o3 hP ⊢
  have O1 := Lib.hid o1
  have O2 := Lib.hid o2
  clear hM hS hn hu hi1 hi2 o1 o2
  by_cases hr : r = 0
  · subst hr
    obtain ⟨L, hL⟩ : ∃ L, L = (if fl = true then othL R else R) := ⟨_, rfl⟩
    rw [← hL]
    have hT : Hid (∀ x a c, Sl x a R.length c R → Calls Tryd.prog 21 #[.agg #[.int .i64 k, .bool fl], .slice a R.length c] x (slPost L x)) := fun x a c h => by rw [hL]; exact f_turn x k fl a _ c R h (by have := O2.out; omega)
    clear hL o3
    go_enter Tryd.func6, Tryd.ntmps6
    go_wp2_with (first
      | (go_at_call 21; go_loud (refine (hT.out _ _ _ Q1.out).mono ?_); rintro e w3 ⟨a3, c3, rfl, q1, q2⟩; have R1 := Lib.hid q1; have R2 := Lib.hid (Q2.out.trans (q2.mono Q2.out.size)); clear q1 q2)
      | (go_at_call 20; go_loud (refine (hP.out _ hB.out).mono ?_); intro e w2 q; obtain ⟨a2, c2, rfl, q1, q2⟩ := put2_sl (q.up hB.out) O1.out
         have z1 := q.cells (p := ⟨w.heap.size, 0, none⟩) (v := .int .i64 k) (by simp)
         have z2 := q.cells (p := ⟨w.heap.size, 1, none⟩) (v := .bool fl) (by simp)
         have Q1 := Lib.hid q1; have Q2 := Lib.hid q2; clear q q1 q2))
    go_ret2
    exact ⟨a3, c3, rfl, R1.out, R2.out⟩
  · obtain rfl : R = [] := o3 hr
    have hr1 : (((r : Nat) : Int) == 0) = false := beq_eq_false_iff_ne.2 (by omega)
    have hE : Hid ((if fl = true then othL [] else []) = ([] : List Nat)) := by show _ = _; cases fl <;> rfl
    rw [hE.out]
    have hr2 : Hid (¬ r = 0) := hr
    clear o3 hr
    go_enter Tryd.func6, Tryd.ntmps6
    go_wp2_with (go_at_call 20; go_loud (refine (hP.out _ hB.out).mono ?_); intro e w2 q; obtain ⟨a2, c2, rfl, q1, q2⟩ := put2_sl (q.up hB.out) O1.out
                 have z1 := q.cells (p := ⟨w.heap.size, 0, none⟩) (v := .int .i64 k) (by simp)
                 have z2 := q.cells (p := ⟨w.heap.size, 1, none⟩) (v := .bool fl) (by simp)
                 have Q1 := Lib.hid q1; have Q2 := Lib.hid q2; clear q q1 q2)
    go_ret2
    exact ⟨none, 0, rfl, Sl.none _, Q2.out⟩
end Go.Proofs.YtbmefmfogdjecaaDoor
