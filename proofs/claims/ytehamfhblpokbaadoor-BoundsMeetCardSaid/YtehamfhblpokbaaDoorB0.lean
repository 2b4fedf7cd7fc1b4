/- Frames, owned slices, bytes, bytes.Clone; the document's Common, Cmp, Same. -/
import Derived.Test.YtehamfhblpokbaaDoorProg
import Derived.WalkKit
import Derived.KernelRfl
import Derived.Deep.LoopGhost
import Derived.Deep.QuietTactic
import Derived.BigQuiet
import Derived.Lib.Hide
import Derived.Laws.CopyOwn
import Derived.Laws.MakeOwn
import Derived.Deep.RegionLaw
import Derived.Deep.RegionLawGrows
import Derived.Deep.WholeRow
import Derived.Lib.SliceRun
import Derived.Lib.SmallJoins
set_option linter.unusedVariables false
set_option linter.unusedSimpArgs false
namespace Go.Proofs.YtehamfhblpokbaaDoor
open Go.RowKit
theorem cell_of_blk {w : World} {b : Nat} {c : List Value} {t : Nat} (h : w.heap[b]? = some (.cells c.toArray t (0, 0))) (j : Nat) : w.cell? ⟨b, j, none⟩ = c[j]? := by
  simp [World.cell?, h]
theorem frozen_of_blk {w : World} {b : Nat} {c : Array Value} {t : Nat} (h : w.heap[b]? = some (.cells c t (0, 0))) (j : Nat) : w.frozen? ⟨b, j, none⟩ = false := by
  simp [World.frozen?, h]
theorem take_get {α : Type} {L M : List α} {n j : Nat} (h : L.take n = M) (hj : j < n) : L[j]? = M[j]? := by
  rw [← h, List.getElem?_take, if_pos hj]
/-- What may have changed: blocks in S alone; no block has gone. -/
structure Mod (S : Nat → Prop) (w w' : World) : Prop where
  os : w'.os = w.os
  tape : w'.tape = w.tape
  output : w'.output = w.output
  size : w.heap.size ≤ w'.heap.size
  same : ∀ k, k < w.heap.size → ¬ S k → w'.heap[k]? = w.heap[k]?
theorem Mod.refl (S : Nat → Prop) (w : World) : Mod S w w := ⟨rfl, rfl, rfl, Nat.le_refl _, fun _ _ _ => rfl⟩
theorem Mod.trans {S : Nat → Prop} {a b c : World} (h : Mod S a b) (k : Mod S b c) : Mod S a c :=
  ⟨k.os.trans h.os, k.tape.trans h.tape, k.output.trans h.output, Nat.le_trans h.size k.size, fun i hi hs => (k.same i (Nat.lt_of_lt_of_le hi h.size) hs).trans (h.same i hi hs)⟩
theorem Mod.mono {S T : Nat → Prop} {a b : World} (h : Mod S a b) (hs : ∀ k, k < a.heap.size → S k → T k) : Mod T a b :=
  ⟨h.os, h.tape, h.output, h.size, fun i hi ht => h.same i hi (fun e => ht (hs i hi e))⟩
/-- a step that changes more, but of old blocks only such as S has -/
theorem Mod.then {S T : Nat → Prop} {a b c : World} (h : Mod S a b) (k : Mod T b c) (hs : ∀ i, i < a.heap.size → T i → S i) : Mod S a c :=
  ⟨k.os.trans h.os, k.tape.trans h.tape, k.output.trans h.output, Nat.le_trans h.size k.size, fun i hi hn => (k.same i (Nat.lt_of_lt_of_le hi h.size) (fun e => hn (hs i hi e))).trans (h.same i hi hn)⟩
theorem Mod.drewN {S : Nat → Prop} {a b : World} (h : Mod S a b) (n : Nat) : Mod S a (b.drewN n) := ⟨h.os, h.tape, h.output, h.size, h.same⟩
theorem Mod.drew {S : Nat → Prop} {a b : World} (h : Mod S a b) : Mod S a b.drew := ⟨h.os, h.tape, h.output, h.size, h.same⟩
theorem Mod.alloc {S : Nat → Prop} {a b : World} (h : Mod S a b) (o : Obj) : Mod S a (b.alloc o) :=
  h.trans ⟨rfl, rfl, rfl, by simp, fun k hk _ => Below.heap_alloc _ _ _ hk⟩
theorem Mod.setCell {S : Nat → Prop} {a b : World} (h : Mod S a b) (p : Addr) (v : Value) (hp : p.block < a.heap.size → S p.block) : Mod S a (b.setCell p v) :=
  h.then (T := fun k => k = p.block) ⟨rfl, rfl, rfl, by simp [World.setCell], fun k _ hn => Below.heap_setCell _ _ _ _ hn⟩ (fun i hi e => by subst e; exact hp hi)
theorem Mod.setRow {S : Nat → Prop} {a b : World} (h : Mod S a b) (g : Nat) (c : Array Value) (hp : g < a.heap.size → S g) : Mod S a (b.setRow g c) :=
  h.then (T := fun k => k = g) ⟨rfl, rfl, rfl, by simp, fun k _ hn => setRow_other _ _ _ _ hn⟩ (fun i hi e => by subst e; exact hp hi)
theorem Mod.below {w w' : World} (h : Mod (fun _ => False) w w') : Below w.heap.size w w' := ⟨h.os, h.tape, h.output, h.size, fun k hk => h.same k hk (fun e => e)⟩
theorem Mod.of_below {S : Nat → Prop} {w w' : World} (h : Below w.heap.size w w') : Mod S w w' := ⟨h.os, h.tape, h.output, h.size, fun k hk _ => h.block k hk⟩

theorem setCell_list (w : World) (g i : Nat) (cur : List Value) (t : Nat) (v : Value) (hg : w.heap[g]? = some (.cells cur.toArray t (0, 0))) : w.setCell ⟨g, i, none⟩ v = w.setRow g (cur.set i v).toArray := by
  rw [setCell_eq_setRow w g i _ t (0, 0) v hg]; simp
/-- v is a slice of one-cell things that reads xs: nil, or the head of block g -/
def Own (ty : Nat) (w : World) (v : Value) (xs : List Value) (bo : Option Nat) : Prop :=
  (v = .slice none 0 0 ∧ xs = [] ∧ bo = none) ∨
  (∃ g cap cur, bo = some g ∧ v = .slice (some ⟨g, 0, none⟩) xs.length cap ∧ w.heap[g]? = some (.cells cur ty (0, 0)) ∧ xs.length ≤ cap ∧ cap ≤ maxLen ∧ cur.size = cap ∧ cur.toList.take xs.length = xs)
/-- the block is the old one, or a new one -/
def NewOr (w : World) (bo bo' : Option Nat) : Prop := bo' = bo ∨ ∃ g, bo' = some g ∧ w.heap.size ≤ g

theorem Own.nil (ty : Nat) (w : World) : Own ty w (.slice none 0 0) [] none := Or.inl ⟨rfl, rfl, rfl⟩
theorem Own.len {ty : Nat} {w : World} {v : Value} {xs : List Value} {bo : Option Nat} (h : Own ty w v xs bo) : ∃ a c, v = .slice a xs.length c := by
  rcases h with ⟨rfl, rfl, rfl⟩ | ⟨g, cap, cur, rfl, rfl, _⟩
  · exact ⟨_, _, rfl⟩
  · exact ⟨_, _, rfl⟩
theorem Own.lt {ty : Nat} {w : World} {v : Value} {xs : List Value} {g : Nat} (h : Own ty w v xs (some g)) : g < w.heap.size := by
  rcases h with ⟨_, _, h⟩ | ⟨g', cap, cur, e, _, hg, _⟩
  · simp at h
  · cases e; exact (Array.getElem?_eq_some_iff.1 hg).1
theorem Own.keep {ty : Nat} {w w' : World} {v : Value} {xs : List Value} {bo : Option Nat} (h : Own ty w v xs bo) (hk : ∀ g, bo = some g → w'.heap[g]? = w.heap[g]?) : Own ty w' v xs bo := by
  rcases h with h | ⟨g, cap, cur, rfl, hv, hg, r⟩
  · exact Or.inl h
  · exact Or.inr ⟨g, cap, cur, rfl, hv, (hk g rfl).trans hg, r⟩
theorem Own.at_ {ty : Nat} {w : World} {v : Value} {xs : List Value} {bo : Option Nat} (h : Own ty w v xs bo) {j : Nat} (hj : j < xs.length) : ∃ g cap, bo = some g ∧ v = .slice (some ⟨g, 0, none⟩) xs.length cap ∧ w.cell? ⟨g, j, none⟩ = some xs[j] ∧ w.frozen? ⟨g, j, none⟩ = false ∧ xs.length ≤ cap := by
  rcases h with ⟨_, rfl, _⟩ | ⟨g, cap, cur, rfl, rfl, hg, hl, hm, hs, ht⟩
  · simp at hj
  · refine ⟨g, cap, rfl, rfl, ?_, frozen_of_blk hg j, hl⟩
    rw [cell_of_row w g j cur ty (0, 0) hg]
    have := take_get ht hj
    rw [List.getElem?_eq_getElem hj] at this
    simpa using this
theorem Own.take {ty : Nat} {w : World} {v : Value} {xs : List Value} {g : Nat} {n : Nat} {cap : Nat} (h : Own ty w v xs (some g)) (hv : v = .slice (some ⟨g, 0, none⟩) xs.length cap) (hn : n ≤ xs.length) : Own ty w (.slice (some ⟨g, 0, none⟩) n cap) (xs.take n) (some g) := by
  rcases h with ⟨_, _, h⟩ | ⟨g', cap', cur, e, hv', hg, hl, hm, hs, ht⟩
  · simp at h
  · cases e
    rw [hv] at hv'
    simp only [Value.slice.injEq, true_and] at hv'
    obtain rfl := hv'
    have e : (xs.take n).length = n := by simp; omega
    exact Or.inr ⟨g, cap, cur, rfl, by rw [e], hg, by omega, hm, hs, by rw [e, ← ht, List.take_take, Nat.min_eq_left hn]⟩
theorem Own.set {ty : Nat} {w : World} {v : Value} {xs : List Value} {g : Nat} (h : Own ty w v xs (some g)) (j : Nat) (x : Value) : Own ty (w.setCell ⟨g, j, none⟩ x) v (xs.set j x) (some g) := by
  rcases h with ⟨_, _, h⟩ | ⟨g', cap, cur, e, hv, hg, hl, hm, hs, ht⟩
  · simp at h
  · cases e
    refine Or.inr ⟨g, cap, cur.setIfInBounds j x, rfl, by simpa using hv, ?_, by simpa using hl, hm, by simpa using hs, ?_⟩
    · rw [setCell_eq_setRow w g j cur ty (0, 0) x hg, setRow_heap w g _ _ _ _ hg]
    · simp only [List.length_set, Array.toList_setIfInBounds]
      rw [List.take_set, ht]

section
variable {P : Program}
theorem run_append_at (w : World) (t ty e : TypeId) (i : TypeInfo) (z : Value) (bytes : Nat) (ht : P.underlying t = some (.slice e)) (hi : P.info? e = some i) (hz : i.zero = some z)
    (hsize : i.size = 1) (hby : i.bytes = bytes) (hzs : z.cells.size = 1)
    (v : Value) (xs : List Value) (bo : Option Nat) (hown : Own e w v xs bo)
    (a : Addr) (m c : Nat) (news : List Value) (hl : news.length = m) (hnews : ∀ j u, news[j]? = some u → w.cell? (a.add j) = some u) (h1 : ∀ u ∈ news, u.oneCell' = true)
    (h63 : xs.length + m ≤ maxLen) (hbytes : (xs.length + m) * bytes ≤ 140737488355328) :
    ∃ v' w' bo', (Builtin.append_ #[t, t] ty #[v, .slice (some a) m c]).run P w = .ok v' w' ∧ Own e w' v' (xs ++ news) bo' ∧ Mod (fun k => bo = some k) w w' ∧ NewOr w bo bo' := by
  have fresh : ∀ v' w', w'.ownsRow w.heap.size e 1 v' (xs.length + m) (xs ++ news) → ∃ bo', Own e w' v' (xs ++ news) bo' ∧ (bo' = none ∨ ∃ g, bo' = some g ∧ w.heap.size ≤ g) := by
    intro v' w' ho
    have hlen : (xs ++ news).length = xs.length + m := by simp [hl]
    rcases ho.2 with ⟨rfl, h0⟩ | ⟨g, cap, cur, rfl, hb, hg, h2, h3, h4, h5⟩
    · exact ⟨none, Or.inl ⟨rfl, List.eq_nil_of_length_eq_zero (by omega), rfl⟩, Or.inl rfl⟩
    · exact ⟨some g, Or.inr ⟨g, cap, cur, rfl, by rw [hlen], hg, by omega, h3, by omega, by rw [hlen]; simpa using h5⟩, Or.inr ⟨g, rfl, hb⟩⟩
  rcases hown with ⟨rfl, rfl, rfl⟩ | ⟨g, cap, cur, rfl, rfl, hg, hnc, hcm, hcs, htake⟩
  · obtain ⟨v', w', hr, h2, h3, _⟩ := run_append_own (P := P) w w.heap.size t ty e i z 1 bytes ht hi hz hsize hby hzs (by omega) (.slice none 0 0) 0 [] (World.ownsRow_nil w _ e 1) a m c news (by omega) hnews h1 (by simpa using h63) (by simpa using hbytes) (Nat.le_refl _)
    obtain ⟨bo', ho, hn⟩ := fresh v' w' (by simpa using h2)
    refine ⟨v', w', bo', hr, by simpa using ho, ⟨h3.os, h3.tape, h3.output, h3.size, fun k hk _ => h3.block k hk (by simp [Value.ownBlock])⟩, ?_⟩
    rcases hn with rfl | h
    · exact Or.inl rfl
    · exact Or.inr h
  · by_cases hroom : xs.length + m ≤ cap
    · have hr := run_append_room (P := P) w t ty e i ht hi g xs.length cap cur hg a m c news (by rw [hsize]; omega) hnews h1 hroom (by rw [hsize]; omega)
      refine ⟨_, _, some g, hr, Or.inr ⟨g, cap, _, rfl, by simp [hl], setRow_heap w g cur _ e _ hg, by simp; omega, hcm, ?_, ?_⟩, (Mod.refl _ w).setRow g _ (fun _ => rfl), Or.inl rfl⟩
      · simp [hsize]; omega
      · have hlen : (cur.toList.take xs.length ++ news).length = (xs ++ news).length := by rw [htake]
        simp only [hsize, Nat.mul_one]
        rw [htake]
        exact List.take_left
    · have holds : ∀ j u, xs[j]? = some u → w.cell? ((⟨g, 0, none⟩ : Addr).add j) = some u := by
        intro j u hj
        have hjl : j < xs.length := by
          by_cases h : j < xs.length
          · exact h
          · rw [List.getElem?_eq_none (by omega)] at hj; simp at hj
        have e : (⟨g, 0, none⟩ : Addr).add j = ⟨g, j, none⟩ := by unfold Addr.add; split <;> simp_all
        rw [e, cell_of_row w g j cur _ (0, 0) hg, ← hj, ← take_get htake hjl]
        simp
      obtain ⟨v', w', hr, h2, h3⟩ := run_append_arg_grows (P := P) w t ty e i z 1 bytes ht hi hz hsize hby hzs (by omega) ⟨g, 0, none⟩ xs.length cap xs (by omega) holds a m c news (by omega) hnews (by omega) h63 hbytes
      obtain ⟨bo', ho, hn⟩ := fresh v' w' h2
      refine ⟨v', w', bo', hr, ho, ⟨h3.os, h3.tape, h3.output, h3.size, fun k hk _ => h3.block k hk (by simp)⟩, ?_⟩
      rcases hn with rfl | h
      · rcases ho with ⟨_, h0, _⟩ | ⟨_, _, _, h0, _⟩
        · have : xs.length + news.length = 0 := by rw [← List.length_append, h0]; rfl
          omega
        · simp at h0
      · exact Or.inr h

theorem wpList_append_at {w : World} {ops : Array Oper} {rest : List Oper} {o : Oper} {a : Act} {Q : Exit → Act → World → Prop} (hgd : o.guard = none) (s x : Operand) (t : TypeId)
    (ho : o.op = .call { callee := .builtin .append, args := #[s, x], argTypes := #[t, t] }) (e : TypeId) (z : Value) (bytes : Nat) (ht : P.underlying t = some (.slice e)) (hinfo : (P.info? e).map (fun i => (i.zero, i.size, i.bytes)) = some (some z, 1, bytes)) (hzs : z.cells.size = 1)
    (v : Value) (hs : a.eval s = v) (xs : List Value) (bo : Option Nat) (hown : Own e w v xs bo)
    (ad : Addr) (m c : Nat) (news : List Value) (hx : a.eval x = .slice (some ad) m c) (hl : news.length = m) (hnews : ∀ j u, news[j]? = some u → w.cell? (ad.add j) = some u) (h1 : ∀ u ∈ news, u.oneCell' = true)
    (h63 : xs.length + m ≤ maxLen) (hbytes : (xs.length + m) * bytes ≤ 140737488355328)
    (h : ∀ v' w' bo', Hid (Own e w' v' (xs ++ news) bo') → Hid (Mod (fun k => bo = some k) w w') → Hid (NewOr w bo bo') → wpList P ops Q rest (a.put o.dst v') w') : wpList P ops Q (o :: rest) a w := by
  obtain ⟨i, hi, hz, hsize, hby⟩ := info_parts hinfo
  refine wpList_plain hgd fun K hK => ?_
  obtain ⟨v', w', bo', hr, h2, h3, h4⟩ := run_append_at (P := P) w t o.type e i z bytes ht hi hz hsize hby hzs v xs bo hown ad m c news hl hnews h1 h63 hbytes
  unfold Oper.wp execOp
  simp only [ho, resolve, invoke, builtin, Sem.run_bind, Sem.run_pure, Result.andThen_ok, List.map_toArray, List.map_cons, List.map_nil, hs, hx, hr]
  exact hK _ _ (h v' w' bo' h2 h3 h4)
theorem step_append_at {w : World} {ops : Array Oper} {o : Oper} {a : Act} {K : Act → World → Prop} {Q : Exit → Act → World → Prop} {E : Prop} (hgd : o.guard = none) (s x : Operand) (t : TypeId)
    (ho : o.op = .call { callee := .builtin .append, args := #[s, x], argTypes := #[t, t] }) (e : TypeId) (z : Value) (bytes : Nat) (ht : P.underlying t = some (.slice e)) (hinfo : (P.info? e).map (fun i => (i.zero, i.size, i.bytes)) = some (some z, 1, bytes)) (hzs : z.cells.size = 1)
    (v : Value) (hs : a.eval s = v) (xs : List Value) (bo : Option Nat) (hown : Own e w v xs bo)
    (ad : Addr) (m c : Nat) (news : List Value) (hx : a.eval x = .slice (some ad) m c) (hl : news.length = m) (hnews : ∀ j u, news[j]? = some u → w.cell? (ad.add j) = some u) (h1 : ∀ u ∈ news, u.oneCell' = true)
    (h63 : xs.length + m ≤ maxLen) (hbytes : (xs.length + m) * bytes ≤ 140737488355328)
    (h : ∀ v' w' bo', Hid (Own e w' v' (xs ++ news) bo') → Hid (Mod (fun k => bo = some k) w w') → Hid (NewOr w bo bo') → K (a.put o.dst v') w') :
    if Region.wanted o (yielded ops a.tmps) = true then Oper.wp P o a w K Q else E := by
  have hw : Region.wanted o (yielded ops a.tmps) = true := by simp [Region.wanted, hgd]
  rw [if_pos hw]
  obtain ⟨i, hi, hz, hsize, hby⟩ := info_parts hinfo
  obtain ⟨v', w', bo', hr, h2, h3, h4⟩ := run_append_at (P := P) w t o.type e i z bytes ht hi hz hsize hby hzs v xs bo hown ad m c news hl hnews h1 h63 hbytes
  unfold Oper.wp execOp
  simp only [ho, resolve, invoke, builtin, Sem.run_bind, Sem.run_pure, Result.andThen_ok, List.map_toArray, List.map_cons, List.map_nil, hs, hx, hr]
  exact h v' w' bo' h2 h3 h4
end
def clonePost (ty : Nat) (xs : List Value) (w : World) (e : Ending) (w' : World) : Prop := ∃ v' bo', e = .returned v' ∧ Own ty w' v' xs bo' ∧ Below w.heap.size w w' ∧ (bo' = none ∨ ∃ g, bo' = some g ∧ w.heap.size ≤ g)
theorem Own.read {ty : Nat} {w : World} {a : Addr} {n c : Nat} {xs : List Value} {bo : Option Nat} (h : Own ty w (.slice (some a) n c) xs bo) : xs.length = n ∧ ∀ j u, xs[j]? = some u → w.cell? (a.add j) = some u := by
  rcases h with ⟨h, _, _⟩ | ⟨g, cap, cur, rfl, hv, hg, hl, hm, hs, ht⟩
  · simp at h
  · simp only [Value.slice.injEq, Option.some.injEq] at hv
    obtain ⟨rfl, rfl, rfl⟩ := hv
    refine ⟨rfl, fun j u hj => ?_⟩
    have hjl : j < xs.length := by
      by_cases h : j < xs.length
      · exact h
      · rw [List.getElem?_eq_none (by omega)] at hj; simp at hj
    have e : (⟨g, 0, none⟩ : Addr).add j = ⟨g, j, none⟩ := by unfold Addr.add; split <;> simp_all
    rw [e, cell_of_row w g j cur _ (0, 0) hg, ← hj, ← take_get ht hjl]
    simp
theorem Own.fresh0 (ty : Nat) (w : World) : Own ty (w.alloc (.cells #[] ty)) (.slice (some ⟨w.heap.size, 0, none⟩) 0 0) [] (some w.heap.size) :=
  Or.inr ⟨w.heap.size, 0, #[], rfl, rfl, heap_alloc_new w _, by simp, by simp [maxLen], rfl, rfl⟩
theorem clone_end {ty : Nat} {xs : List Value} {w w1 : World} {v1 : Value} {bo1 : Option Nat} {o : Obj} (HO : Own ty w1 v1 ([] ++ xs) bo1) (HM : Mod (fun k => some w.heap.size = some k) (w.alloc o) w1) (HN : NewOr (w.alloc o) (some w.heap.size) bo1) : clonePost ty xs w (.returned v1) w1 := by
  refine ⟨v1, bo1, rfl, by simpa using HO, ?_, ?_⟩
  · have this : Mod (fun _ => False) w w1 := ((Mod.refl (fun _ => False) w).alloc o).then HM (fun i hi e => by have h := Option.some.inj e; omega)
    exact this.below
  · rcases HN with e | ⟨g, e, hg⟩
    · exact Or.inr ⟨_, e, Nat.le_refl _⟩
    · exact Or.inr ⟨g, e, by simp at hg; omega⟩
theorem below_drewN {B : Nat} {w0 w : World} (h : Below B w0 w) (n : Nat) : Below B w0 (w.drewN n) := ⟨h.os, h.tape, h.output, h.size, h.block⟩
theorem below_mod {w0 w w' : World} {S : Nat → Prop} (h : Below w0.heap.size w0 w) (hm : Mod S w w') (hS : ∀ j, S j → w0.heap.size ≤ j) : Below w0.heap.size w0 w' := by
  refine h.trans (?_ : Below w0.heap.size w w')
  have := h.size
  exact ⟨hm.os, hm.tape, hm.output, hm.size, fun j hj => hm.same j (by omega) (fun e => by have := hS j e; omega)⟩
/-- what a statement's walk ends with -/
def LawPost (w : World) (e : Ending) (w' : World) : Prop := e = .returned (.bool true) ∧ Below w.heap.size w w'
def BytesAt (w : World) (a : Option Addr) (bs : List Nat) : Prop := (∀ x ∈ bs, x < 256) ∧ ∀ i, i < bs.length → ∃ p : Addr, a = some p ∧ (p.add i).block < w.heap.size ∧ w.cell? (p.add i) = some (.int .u8 (bs.getD i 0 : Nat))
theorem BytesAt.read {w wr : World} {a : Option Addr} {bs : List Nat} (h : BytesAt w a bs) (hb : Below w.heap.size w wr) {i : Nat} (hi : i < bs.length) : ∃ p : Addr, a = some p ∧ wr.cell? (p.add i) = some (.int .u8 (bs.getD i 0 : Nat)) := by
  obtain ⟨p, rfl, h1, h2⟩ := h.2 i hi
  exact ⟨p, rfl, (hb.cell (p := p.add i) h1).trans h2⟩
theorem cell_lt {w : World} {a : Addr} {v : Value} (h : w.cell? a = some v) : a.block < w.heap.size := by
  by_cases hb : a.block < w.heap.size
  · exact hb
  · have : w.heap[a.block]? = none := by simpa using hb
    simp [World.cell?, this] at h
theorem wf_u8 {n : Int} (h : (Lit.int .u8 n).wf = true) : 0 ≤ n ∧ n ≤ 255 := by simpa [Lit.wf, IntKind.min, IntKind.max, IntKind.signed, IntKind.bits] using h
theorem wf_i64 {n : Int} (h : (Lit.int .i64 n).wf = true) : -9223372036854775808 ≤ n ∧ n ≤ 9223372036854775807 := by simpa [Lit.wf, IntKind.min, IntKind.max, IntKind.signed, IntKind.bits] using h
theorem wf_u64 {n : Int} (h : (Lit.int .u64 n).wf = true) : 0 ≤ n ∧ n ≤ 18446744073709551615 := by simpa [Lit.wf, IntKind.min, IntKind.max, IntKind.signed, IntKind.bits] using h
theorem bytes_of {w : World} {a : Option Addr} {len cap : Nat} {zs : List Int} (h : (a = none ∧ len = 0 ∧ cap = 0 ∧ zs = []) ∨ ∃ x, a = some x ∧ len ≤ cap ∧ cap ≤ maxLen ∧ zs.length = cap ∧ (∀ i, i < zs.length → w.cell? (x.add i) = some (.int .u8 (zs.getD i 0))) ∧ ∀ n ∈ zs, (Lit.int .u8 n).wf = true) (m : Nat) (hm : m ≤ len) :
    ∃ bs : List Nat, bs.length = m ∧ len ≤ cap ∧ cap ≤ maxLen ∧ BytesAt w a bs := by
  rcases h with ⟨rfl, rfl, rfl, rfl⟩ | ⟨x, rfl, h1, h2, h3, h4, h5⟩
  · obtain rfl : m = 0 := by omega
    exact ⟨[], rfl, Nat.le_refl _, Nat.zero_le _, by simp, by intro i hi; simp at hi⟩
  · refine ⟨(zs.take m).map Int.toNat, by simp; omega, h1, h2, ?_, ?_⟩
    · intro y hy
      obtain ⟨n, hn, rfl⟩ := List.mem_map.1 hy
      have := wf_u8 (h5 n (List.mem_of_mem_take hn))
      omega
    · intro i hi
      have hi' : i < m := by simp at hi; omega
      have hz : i < zs.length := by omega
      have hc := h4 i hz
      have hn := wf_u8 (h5 zs[i] (List.getElem_mem _))
      have e : zs.getD i 0 = ((((zs.take m).map Int.toNat).getD i 0 : Nat) : Int) := by
        simp [List.getD, List.getElem?_take, hi', hz]
        omega
      refine ⟨x, rfl, cell_lt hc, ?_⟩
      rw [hc, e]
def u8T : Nat := 5
def bV (bs : List Nat) : List Value := bs.map fun b => .int .u8 (b : Nat)
theorem bV_get (bs : List Nat) (j : Nat) : (bV bs)[j]? = bs[j]?.map fun b => Value.int .u8 (b : Nat) := by simp [bV]
theorem bV_one (bs : List Nat) : ∀ u ∈ bV bs, u.oneCell' = true := by
  intro u hu; simp only [bV, List.mem_map] at hu; obtain ⟨b, _, rfl⟩ := hu; rfl
theorem cloneB_under : Tryd.prog.underlying 22 = some (.slice 5) := by kernel_rfl
theorem cloneB_info : (Tryd.prog.info? 5).map (fun i => (i.zero, i.size, i.bytes)) = some (some (.int .u8 0), 1, 1) := by kernel_rfl
set_option maxRecDepth 100000 in
theorem cloneB_any (w : World) (a : Option Addr) (n c : Nat) (bs : List Nat) (hn : bs.length = n) (hb : BytesAt w a bs) (hl : n ≤ 140737488355328) (hnil : a = none → n = 0) : Calls Tryd.prog 37 #[.slice a n c] w (clonePost 5 (bV bs) w) := by
  have q1 : ∀ (w : World) (a : Option Addr) (n c n' c' : Nat), (binOp .eql 22 (.slice a n c) (.slice none n' c')).run Tryd.prog w = .ok (.bool a.isNone) w := fun w a n c n' c' => Lib.run_eql_slice_nil w _ _ a n c n' c' cloneB_under
  cases a with
  | none =>
    obtain rfl : n = 0 := hnil rfl
    obtain rfl : bs = [] := List.eq_nil_of_length_eq_zero hn
    have hR : clonePost 5 [] w (.returned (.slice none 0 0)) w := ⟨_, none, rfl, Own.nil _ _, Below.refl _ _, Or.inl rfl⟩
    clear hn hb hl hnil
    go_enter Tryd.func37, Tryd.ntmps37
    go_wp2_with fail
    go_ret
    exact hR
  | some p =>
    have Hr : Hid (∀ o, ∀ j u, (bV bs)[j]? = some u → (w.alloc o).cell? (p.add j) = some u) := fun o j u hj => by
      rw [bV_get] at hj
      have hj2 : j < bs.length := by
        by_cases h : j < bs.length
        · exact h
        · rw [List.getElem?_eq_none (by omega)] at hj; simp at hj
      rw [List.getElem?_eq_getElem hj2] at hj
      simp only [Option.map_some, Option.some.injEq] at hj
      subst hj
      obtain ⟨p', hp, h1, h2⟩ := hb.2 j hj2
      obtain rfl : p = p' := by simpa using hp
      rw [((Below.refl _ w).alloc (Nat.le_refl _) o).cell h1, h2]
      simp [List.getD, hj2]
    have H1 := Lib.hid (bV_one bs)
    have hlen : Hid ((bV bs).length = n) := by show _ = _; simp [bV, hn]
    have hb1 : Hid (([] : List Value).length + n ≤ maxLen) := by show _ ≤ _; simp only [maxLen, List.length_nil]; omega
    have hb2 : Hid ((([] : List Value).length + n) * 1 ≤ 140737488355328) := by show _ ≤ _; simp only [List.length_nil]; omega
    clear hn hb hl hnil
    go_enter Tryd.func37, Tryd.ntmps37
    go_wp2_with (at_builtin; go_loud (refine wpList_append_at rfl (.tmp 5) (.tmp 6) 22 rfl 5 (.int .u8 0) 1 cloneB_under cloneB_info rfl _ rfl [] (some w.heap.size) (Own.fresh0 _ _) p n c (bV bs) rfl hlen.out (Hr.out _) H1.out hb1.out hb2.out ?_); intro v1 w1 bo1 HO HM HN)
    go_ret
    exact clone_end HO.out HM.out HN.out
/-- how many bytes both begin with -/
def lcp : List Nat → List Nat → Nat
  | x :: xs, y :: ys => if x = y then lcp xs ys + 1 else 0
  | _, _ => 0
theorem lcp_le : ∀ (xs ys : List Nat), lcp xs ys ≤ xs.length ∧ lcp xs ys ≤ ys.length
  | [], _ => by simp [lcp]
  | _ :: _, [] => by simp [lcp]
  | x :: xs, y :: ys => by
    have := lcp_le xs ys
    unfold lcp
    split <;> simp <;> omega
theorem lcp_stop : ∀ (xs ys : List Nat) (n : Nat), (∀ j, j < n → xs.getD j 0 = ys.getD j 0) → n ≤ xs.length → n ≤ ys.length → (n = xs.length ∨ n = ys.length ∨ xs.getD n 0 ≠ ys.getD n 0) → lcp xs ys = n
  | [], ys, n, h1, h2, h3, h4 => by simp at h2; subst h2; rfl
  | x :: xs, [], n, h1, h2, h3, h4 => by simp at h3; subst h3; rfl
  | x :: xs, y :: ys, 0, h1, h2, h3, h4 => by
    have : x ≠ y := by
      rcases h4 with h | h | h
      · simp at h
      · simp at h
      · simpa using h
    simp [lcp, this]
  | x :: xs, y :: ys, n + 1, h1, h2, h3, h4 => by
    have e : x = y := by simpa using h1 0 (by omega)
    subst e
    have := lcp_stop xs ys n (fun j hj => by simpa using h1 (j + 1) (by omega)) (by simpa using h2) (by simpa using h3) (by simpa using h4)
    simp [lcp, this]
theorem lcp_same : ∀ (xs ys : List Nat), (lcp xs ys = xs.length ∧ lcp xs ys = ys.length) ↔ xs = ys
  | [], [] => by simp [lcp]
  | [], _ :: _ => by simp [lcp]
  | _ :: _, [] => by simp [lcp]
  | x :: xs, y :: ys => by
    have := lcp_same xs ys
    unfold lcp
    by_cases e : x = y
    · subst e; simp [this]
    · simp [e]
/-- the order of bytes -/
def bcmp (xs ys : List Nat) : Int :=
  if lcp xs ys = xs.length ∧ lcp xs ys = ys.length then 0 else if lcp xs ys = xs.length then -1 else if lcp xs ys = ys.length then 1 else if xs.getD (lcp xs ys) 0 < ys.getD (lcp xs ys) 0 then -1 else 1
theorem bcmp_zero (xs ys : List Nat) : bcmp xs ys = 0 ↔ xs = ys := by
  unfold bcmp
  rw [← lcp_same]
  split
  · rename_i h; exact ⟨fun _ => h, fun _ => rfl⟩
  · rename_i h
    constructor
    · intro e; exfalso; revert e; split <;> (try split) <;> (try split) <;> simp
    · intro e; exact absurd e h
/-- bytes at a slice, whatever was drawn -/
theorem BytesAt.cellN {w : World} {a : Option Addr} {bs : List Nat} (h : BytesAt w a bs) {i : Nat} (hi : i < bs.length) : ∃ p : Addr, a = some p ∧ ∀ k, (w.drewN k).cell? (p.add i) = some (.int .u8 (bs.getD i 0 : Nat)) := by
  obtain ⟨p, hp, _, h2⟩ := h.2 i hi
  exact ⟨p, hp, fun k => h2⟩
set_option maxRecDepth 100000 in
theorem ref_common (w : World) (a1 a2 : Option Addr) (n1 c1 n2 c2 : Nat) (xs ys : List Nat) (h1 : BytesAt w a1 xs) (h2 : BytesAt w a2 ys) (l1 : xs.length = n1) (l2 : ys.length = n2) (m1 : n1 ≤ maxLen) (m2 : n2 ≤ maxLen) : Calls Tryd.prog 42 #[.slice a1 n1 c1, .slice a2 n2 c2] w fun e w' => e = .returned (.int .i64 (lcp xs ys : Nat)) ∧ ∃ k, w' = w.drewN k := by
  have H1 := Lib.hid h1
  have H2 := Lib.hid h2
  have L1 := Lib.hid l1
  have L2 := Lib.hid l2
  have M1 : n1 ≤ 9223372036854775807 := m1
  have M2 : n2 ≤ 9223372036854775807 := m2
  obtain ⟨V, hV⟩ : ∃ V : Nat, Hid (lcp xs ys = V) := ⟨_, rfl⟩
  rw [hV.out]
  clear h1 h2 l1 l2 m1 m2
  go_enter Tryd.func42, Tryd.ntmps42
  go_wp2_with fail
  go_loopw [5] (fun vi wr => ∃ i k : Nat, vi = .int .i64 (i : Nat) ∧ i ≤ n1 ∧ i ≤ n2 ∧ Hid (∀ j, j < i → xs.getD j 0 = ys.getD j 0) ∧ wr = w.drewN k) (fun vi _ => (n1 - intOf vi).toNat)
  case atStart => exact ⟨0, 0, rfl, by omega, by omega, (fun j hj => absurd hj (Nat.not_lt_zero j)), rfl⟩
  case round =>
    obtain ⟨i, k, rfl, hi1, hi2, heq, rfl⟩ := hrel
    by_cases g1 : i < n1
    · by_cases g2 : i < n2
      · obtain ⟨p, rfl, hp⟩ := H1.out.cellN (i := i) (by rw [L1.out]; exact g1)
        obtain ⟨q, rfl, hq⟩ := H2.out.cellN (i := i) (by rw [L2.out]; exact g2)
        have j1 : (i : Int) < (n1 : Int) := by omega
        have j2 : (i : Int) < (n2 : Int) := by omega
        have hw9 : IntKind.i64.wrap (((i : Nat) : Int) + 1) = ((i : Nat) : Int) + 1 := IntWalk.i64_in _ (by omega)
        by_cases he : xs.getD i 0 = ys.getD i 0
        · have hn : Hid (∀ j, j < i + 1 → xs.getD j 0 = ys.getD j 0) := fun j hj => by
            by_cases e : j = i
            · subst e; exact he
            · exact heq.out j (by omega)
          rw [← he] at hq
          generalize xs.getD i 0 = u at *
          clear he
          go_wp2_with fail
          go_quiet (fail)
          go_wp2_with fail
          go_roundw
          case rel => exact ⟨i + 1, k + nq, (by first | rfl | go_num), by omega, by omega, hn, by simp⟩
          case measure => (simp [intOf]) <;> omega
        · have hR : Hid (i = V) := ((lcp_stop xs ys i heq.out (by rw [L1.out]; omega) (by rw [L2.out]; omega) (Or.inr (Or.inr he))).symm.trans hV.out : i = V)
          have he2 : ((xs.getD i 0 : Nat) : Int) ≠ ((ys.getD i 0 : Nat) : Int) := by omega
          have he3 : (((xs.getD i 0 : Nat) : Int) == ((ys.getD i 0 : Nat) : Int)) = false := by simpa using he2
          generalize xs.getD i 0 = u at *
          generalize ys.getD i 0 = v at *
          clear he he2
          go_wp2_with fail
          go_quiet (fail)
          go_wp2_with fail
          go_ret
          exact ⟨congrArg (fun n : Nat => Ending.returned (.int .i64 (n : Int))) hR.out, _, World.drewN_drewN _ _ _⟩
      · obtain ⟨p, rfl, hp⟩ := H1.out.cellN (i := i) (by rw [L1.out]; exact g1)
        obtain rfl : i = n2 := by omega
        have hR : Hid (i = V) := ((lcp_stop xs ys i heq.out (by rw [L1.out]; omega) (by rw [L2.out]; omega) (Or.inr (Or.inl (by rw [L2.out])))).symm.trans hV.out : i = V)
        have j1 : (i : Int) < (n1 : Int) := by omega
        go_wp2_with fail
        go_quiet (fail)
        go_wp2_with fail
        go_ret
        exact ⟨congrArg (fun n : Nat => Ending.returned (.int .i64 (n : Int))) hR.out, _, World.drewN_drewN _ _ _⟩
    · obtain rfl : i = n1 := by omega
      have hR : Hid (i = V) := ((lcp_stop xs ys i heq.out (by rw [L1.out]; omega) (by rw [L2.out]; omega) (Or.inl (by rw [L1.out]))).symm.trans hV.out : i = V)
      go_wp2_with fail
      go_quiet (fail)
      go_wp2_with fail
      go_ret
      exact ⟨congrArg (fun n : Nat => Ending.returned (.int .i64 (n : Int))) hR.out, _, World.drewN_drewN _ _ _⟩
set_option maxRecDepth 100000 in
theorem ref_cmp (w : World) (a1 a2 : Option Addr) (n1 c1 n2 c2 : Nat) (xs ys : List Nat) (h1 : BytesAt w a1 xs) (h2 : BytesAt w a2 ys) (l1 : xs.length = n1) (l2 : ys.length = n2) (m1 : n1 ≤ maxLen) (m2 : n2 ≤ maxLen) : Calls Tryd.prog 33 #[.slice a1 n1 c1, .slice a2 n2 c2] w fun e w' => e = .returned (.int .i64 (bcmp xs ys)) ∧ ∃ k, w' = w.drewN k := by
  have hC := Lib.hid (ref_common w a1 a2 n1 c1 n2 c2 xs ys h1 h2 l1 l2 m1 m2)
  have hle := lcp_le xs ys
  have H1 := Lib.hid h1
  have H2 := Lib.hid h2
  have L1 := Lib.hid l1
  have L2 := Lib.hid l2
  rw [l1, l2] at hle
  obtain ⟨hle1, hle2⟩ := hle
  have hB : Hid (bcmp xs ys = if lcp xs ys = n1 ∧ lcp xs ys = n2 then 0 else if lcp xs ys = n1 then -1 else if lcp xs ys = n2 then 1 else if xs.getD (lcp xs ys) 0 < ys.getD (lcp xs ys) 0 then -1 else 1) := by show _ = _; unfold bcmp; rw [l1, l2]
  clear h1 h2 l1 l2 m1 m2
  generalize hV : bcmp xs ys = V at *
  clear hV
  generalize lcp xs ys = i at *
  by_cases e1 : i = n1
  · by_cases e2 : i = n2
    · subst e1; subst e2
      have hR : Hid (V = 0) := by show _ = _; rw [hB.out]; simp
      rw [hR.out]
      clear hR
      go_enter Tryd.func33, Tryd.ntmps33
      go_wp2_with (go_at_call 42; refine hC.out.mono ?_; rintro e w' ⟨rfl, k, rfl⟩)
      go_ret
      exact ⟨rfl, _, rfl⟩
    · subst e1
      have hR : Hid (V = -1) := by show _ = _; rw [hB.out]; simp [e2]
      have j2 : (i : Int) ≠ (n2 : Int) := by omega
      rw [hR.out]
      clear hR e2
      go_enter Tryd.func33, Tryd.ntmps33
      go_wp2_with (go_at_call 42; refine hC.out.mono ?_; rintro e w' ⟨rfl, k, rfl⟩)
      go_ret
      exact ⟨rfl, _, rfl⟩
  · have j1 : (i : Int) ≠ (n1 : Int) := by omega
    by_cases e2 : i = n2
    · subst e2
      have hR : Hid (V = 1) := by show _ = _; rw [hB.out]; simp [e1]
      rw [hR.out]
      clear hR e1
      go_enter Tryd.func33, Tryd.ntmps33
      go_wp2_with (go_at_call 42; refine hC.out.mono ?_; rintro e w' ⟨rfl, k, rfl⟩)
      go_ret
      exact ⟨rfl, _, rfl⟩
    · have j2 : (i : Int) ≠ (n2 : Int) := by omega
      obtain ⟨p, rfl, hp⟩ := H1.out.cellN (i := i) (by rw [L1.out]; omega)
      obtain ⟨q, rfl, hq⟩ := H2.out.cellN (i := i) (by rw [L2.out]; omega)
      have k1 : (i : Int) < (n1 : Int) := by omega
      have k2 : (i : Int) < (n2 : Int) := by omega
      have hR : Hid (V = if xs.getD i 0 < ys.getD i 0 then -1 else 1) := by show _ = _; rw [hB.out]; simp [e1, e2]
      generalize xs.getD i 0 = u at *
      generalize ys.getD i 0 = v at *
      by_cases e3 : u < v
      · have j3 : (u : Int) < (v : Int) := by omega
        rw [hR.out, if_pos e3]
        clear hR e1 e2 e3 hB
        go_enter Tryd.func33, Tryd.ntmps33
        go_wp2_with (go_at_call 42; refine hC.out.mono ?_; rintro e w' ⟨rfl, k, rfl⟩)
        go_quiet (fail)
        go_wp2_with fail
        go_ret
        exact ⟨rfl, _, World.drewN_drewN _ _ _⟩
      · have j3 : ¬ (u : Int) < (v : Int) := by omega
        rw [hR.out, if_neg e3]
        clear hR e1 e2 e3 hB
        go_enter Tryd.func33, Tryd.ntmps33
        go_wp2_with (go_at_call 42; refine hC.out.mono ?_; rintro e w' ⟨rfl, k, rfl⟩)
        go_quiet (fail)
        go_wp2_with fail
        go_ret
        exact ⟨rfl, _, World.drewN_drewN _ _ _⟩
theorem ref_same (w : World) (a1 a2 : Option Addr) (n1 c1 n2 c2 : Nat) (xs ys : List Nat) (h1 : BytesAt w a1 xs) (h2 : BytesAt w a2 ys) (l1 : xs.length = n1) (l2 : ys.length = n2) (m1 : n1 ≤ maxLen) (m2 : n2 ≤ maxLen) : Calls Tryd.prog 29 #[.slice a1 n1 c1, .slice a2 n2 c2] w fun e w' => e = .returned (.bool (decide (xs = ys))) ∧ ∃ k, w' = w.drewN k := by
  have hC := Lib.hid (ref_cmp w a1 a2 n1 c1 n2 c2 xs ys h1 h2 l1 l2 m1 m2)
  have hz := bcmp_zero xs ys
  clear h1 h2 l1 l2 m1 m2
  by_cases e : xs = ys
  · have h0 : Hid (bcmp xs ys = 0) := hz.2 e
    have hR : Hid (decide (xs = ys) = true) := by show _ = _; simp [e]
    rw [hR.out]
    clear hz e hR
    go_enter Tryd.func29, Tryd.ntmps29
    go_wp2_with (go_at_call 33; refine hC.out.mono ?_; rintro e w' ⟨rfl, k, rfl⟩; rw [h0.out])
    go_ret
    exact ⟨rfl, _, rfl⟩
  · have h0 : bcmp xs ys ≠ 0 := fun q => e (hz.1 q)
    have h1 : (bcmp xs ys == 0) = false := by simpa using h0
    have hR : Hid (decide (xs = ys) = false) := by show _ = _; simp [e]
    rw [hR.out]
    clear hz e hR h0
    generalize bcmp xs ys = V at *
    go_enter Tryd.func29, Tryd.ntmps29
    go_wp2_with (go_at_call 33; refine hC.out.mono ?_; rintro e w' ⟨rfl, k, rfl⟩)
    go_ret
    exact ⟨rfl, _, rfl⟩
theorem add0 (g j : Nat) : (⟨g, 0, none⟩ : Addr).add j = ⟨g, j, none⟩ := by
  simp [Addr.add]; omega
theorem made_cells (n : Nat) (z : Value) (hz : z.cells = #[z]) : madeCells z.cells (n * 1) = (List.replicate n z).toArray := by
  rw [hz]
  unfold madeCells
  apply Array.ext
  · simp
  · intro i h1 h2; simp [Nat.mod_one]
theorem u8_info : ∃ i, Tryd.prog.info? 5 = some i ∧ i.zero = some (.int .u8 0) ∧ i.size = 1 ∧ i.bytes = 1 := by
  have h := cloneB_info
  cases hi : Tryd.prog.info? 5 with
  | none => rw [hi] at h; simp at h
  | some i => rw [hi] at h; simp at h; exact ⟨i, rfl, h.1, h.2.1, h.2.2⟩
/-- make([]byte, n) -/
theorem make_u8 (w : World) (n : Nat) (hn : n ≤ 140737488355328) : (Instr.makeSlice 22 (.int .i64 (n : Nat)) (.int .i64 (n : Nat))).run Tryd.prog w = .ok (.slice (some ⟨w.heap.size, 0, none⟩) n n) (w.alloc (.cells (List.replicate n (.int .u8 0)).toArray 5)) := by
  obtain ⟨i, h1, h2, h3, h4⟩ := u8_info
  have := run_make (P := Tryd.prog) w _ _ i _ cloneB_under h1 h2 .i64 .i64 (n : Nat) (n : Nat) (by omega) (by omega) (by rw [h4]; omega) (by omega)
  rw [this, h3]
  simp only [Int.toNat_natCast]
  rw [made_cells n _ rfl]
/-- bytes that were made -/
def gotPost (bs : List Nat) (w : World) (e : Ending) (w' : World) : Prop := ∃ a c, e = .returned (.slice a bs.length c) ∧ BytesAt w' a bs ∧ Below w.heap.size w w'
section
variable {w w' : World}
/-- bytes over the meter's turn -/
theorem bytes_keep {a : Option Addr} {bs : List Nat} (h : BytesAt w a bs) {T : Nat → Prop} (hm : Mod T w w') (hT : ∀ p : Addr, a = some p → ¬ T p.block) : BytesAt w' a bs :=
  ⟨h.1, fun i hi => by
    obtain ⟨p, rfl, h1, h2⟩ := h.2 i hi
    have hb : (p.add i).block = p.block := by unfold Addr.add; split <;> rfl
    have := hm.same p.block (by rw [← hb]; exact h1) (hT p rfl)
    refine ⟨p, rfl, Nat.lt_of_lt_of_le h1 hm.size, ?_⟩
    rw [← h2]
    unfold World.cell?
    rw [hb, this]⟩
end
/-- one byte that the walk has just laid -/
theorem byte_new (w : World) (b : Nat) (hb : b < 256) (t : TypeId) (fr : Nat × Nat) : BytesAt (w.alloc (.cells #[.int .u8 (b : Nat)] t fr)) (some ⟨w.heap.size, 0, none⟩) [b] := by
  refine ⟨by simp; exact hb, fun i hi => ⟨_, rfl, ?_, ?_⟩⟩
  · rw [add0]; simp
  · obtain rfl : i = 0 := by simpa using hi
    rw [add0]
    have := Joins.cell_of_block (heap_alloc_new w (.cells #[.int .u8 (b : Nat)] t fr)) 0
    rw [this]; rfl
theorem BytesAt.below {w w' : World} {a : Option Addr} {bs : List Nat} (h : BytesAt w a bs) (hb : Below w.heap.size w w') : BytesAt w' a bs := bytes_keep h (Mod.of_below (S := fun _ => False) hb) (fun _ _ e => e)
theorem BytesAt.drewN {w : World} {a : Option Addr} {bs : List Nat} (h : BytesAt w a bs) (n : Nat) : BytesAt (w.drewN n) a bs := ⟨h.1, h.2⟩
/-- a slice that came in: its bytes -/
structure In8 (w : World) (a : Option Addr) (n c : Nat) (bs : List Nat) : Prop where
  len : bs.length = n
  at_ : BytesAt w a bs
  cap : n ≤ 140737488355328
  nil : a = none → n = 0
section
variable {w w' : World} {a : Option Addr} {n c : Nat} {bs : List Nat}
theorem In8.below (h : In8 w a n c bs) (hb : Below w.heap.size w w') : In8 w' a n c bs := ⟨h.len, h.at_.below hb, h.cap, h.nil⟩
theorem In8.drewN (h : In8 w a n c bs) (k : Nat) : In8 (w.drewN k) a n c bs := ⟨h.len, h.at_.drewN k, h.cap, h.nil⟩
end
end Go.Proofs.YtehamfhblpokbaaDoor
