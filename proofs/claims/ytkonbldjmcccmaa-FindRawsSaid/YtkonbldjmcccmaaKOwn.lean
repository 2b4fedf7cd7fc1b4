/- A slice whose memory is known whole: what append makes of it. -/
import Derived.Test.YtkonbldjmcccmaaKRow
import Derived.Deep.RegionLawGrows
set_option linter.unusedVariables false
set_option linter.unusedSimpArgs false
namespace Go.Proofs.Ytkonbldjmcccmaa
open Go.RowKit

/-- v is a slice of one-cell things that reads xs: nil, or the head of block g -/
def Own (ty : Nat) (w : World) (v : Value) (xs : List Value) (bo : Option Nat) : Prop :=
  (v = .slice none 0 0 ∧ xs = [] ∧ bo = none) ∨
  (∃ g cap cur, bo = some g ∧ v = .slice (some ⟨g, 0, none⟩) xs.length cap ∧ w.heap[g]? = some (.cells cur ty (0, 0)) ∧ xs.length ≤ cap ∧ cap ≤ maxLen ∧ cur.size = cap ∧ cur.toList.take xs.length = xs)
/-- the block is the old one, or a new one -/
def NewOr (w : World) (bo bo' : Option Nat) : Prop := bo' = bo ∨ ∃ g, bo' = some g ∧ w.heap.size ≤ g

theorem Own.nil (ty : Nat) (w : World) : Own ty w (.slice none 0 0) [] none := Or.inl ⟨rfl, rfl, rfl⟩
theorem Own.len {ty : Nat} {w : World} {v : Value} {xs : List Value} {bo : Option Nat} (h : Own ty w v xs bo) : ∃ a c, v = .slice a xs.length c := by
  rcases h with ⟨rfl, rfl, rfl⟩ | ⟨g, cap, cur, rfl, rfl, _⟩
  · exact ⟨_, _, rfl⟩
  · exact ⟨_, _, rfl⟩
theorem Own.lt {ty : Nat} {w : World} {v : Value} {xs : List Value} {g : Nat} (h : Own ty w v xs (some g)) : g < w.heap.size := by
  rcases h with ⟨_, _, h⟩ | ⟨g', cap, cur, e, _, hg, _⟩
  · simp at h
  · cases e; exact (Array.getElem?_eq_some_iff.1 hg).1
theorem Own.keep {ty : Nat} {w w' : World} {v : Value} {xs : List Value} {bo : Option Nat} (h : Own ty w v xs bo) (hk : ∀ g, bo = some g → w'.heap[g]? = w.heap[g]?) : Own ty w' v xs bo := by
  rcases h with h | ⟨g, cap, cur, rfl, hv, hg, r⟩
  · exact Or.inl h
  · exact Or.inr ⟨g, cap, cur, rfl, hv, (hk g rfl).trans hg, r⟩
theorem Own.at_ {ty : Nat} {w : World} {v : Value} {xs : List Value} {bo : Option Nat} (h : Own ty w v xs bo) {j : Nat} (hj : j < xs.length) : ∃ g cap, bo = some g ∧ v = .slice (some ⟨g, 0, none⟩) xs.length cap ∧ w.cell? ⟨g, j, none⟩ = some xs[j] ∧ w.frozen? ⟨g, j, none⟩ = false ∧ xs.length ≤ cap := by
  rcases h with ⟨_, rfl, _⟩ | ⟨g, cap, cur, rfl, rfl, hg, hl, hm, hs, ht⟩
  · simp at hj
  · refine ⟨g, cap, rfl, rfl, ?_, frozen_of_blk hg j, hl⟩
    rw [cell_of_row w g j cur ty (0, 0) hg]
    have := take_get ht hj
    rw [List.getElem?_eq_getElem hj] at this
    simpa using this
theorem Own.take {ty : Nat} {w : World} {v : Value} {xs : List Value} {g : Nat} {n : Nat} {cap : Nat} (h : Own ty w v xs (some g)) (hv : v = .slice (some ⟨g, 0, none⟩) xs.length cap) (hn : n ≤ xs.length) : Own ty w (.slice (some ⟨g, 0, none⟩) n cap) (xs.take n) (some g) := by
  rcases h with ⟨_, _, h⟩ | ⟨g', cap', cur, e, hv', hg, hl, hm, hs, ht⟩
  · simp at h
  · cases e
    rw [hv] at hv'
    simp only [Value.slice.injEq, true_and] at hv'
    obtain rfl := hv'
    have e : (xs.take n).length = n := by simp; omega
    exact Or.inr ⟨g, cap, cur, rfl, by rw [e], hg, by omega, hm, hs, by rw [e, ← ht, List.take_take, Nat.min_eq_left hn]⟩
theorem Own.set {ty : Nat} {w : World} {v : Value} {xs : List Value} {g : Nat} (h : Own ty w v xs (some g)) (j : Nat) (x : Value) : Own ty (w.setCell ⟨g, j, none⟩ x) v (xs.set j x) (some g) := by
  rcases h with ⟨_, _, h⟩ | ⟨g', cap, cur, e, hv, hg, hl, hm, hs, ht⟩
  · simp at h
  · cases e
    refine Or.inr ⟨g, cap, cur.setIfInBounds j x, rfl, by simpa using hv, ?_, by simpa using hl, hm, by simpa using hs, ?_⟩
    · rw [setCell_eq_setRow w g j cur ty (0, 0) x hg, setRow_heap w g _ _ _ _ hg]
    · simp only [List.length_set, Array.toList_setIfInBounds]
      rw [List.take_set, ht]

section
variable {P : Program}
theorem run_append_at (w : World) (t ty e : TypeId) (i : TypeInfo) (z : Value) (bytes : Nat) (ht : P.underlying t = some (.slice e)) (hi : P.info? e = some i) (hz : i.zero = some z)
    (hsize : i.size = 1) (hby : i.bytes = bytes) (hzs : z.cells.size = 1)
    (v : Value) (xs : List Value) (bo : Option Nat) (hown : Own e w v xs bo)
    (a : Addr) (m c : Nat) (news : List Value) (hl : news.length = m) (hnews : ∀ j u, news[j]? = some u → w.cell? (a.add j) = some u) (h1 : ∀ u ∈ news, u.oneCell' = true)
    (h63 : xs.length + m ≤ maxLen) (hbytes : (xs.length + m) * bytes ≤ 140737488355328) :
    ∃ v' w' bo', (Builtin.append_ #[t, t] ty #[v, .slice (some a) m c]).run P w = .ok v' w' ∧ Own e w' v' (xs ++ news) bo' ∧ Mod (fun k => bo = some k) w w' ∧ NewOr w bo bo' := by
  have fresh : ∀ v' w', w'.ownsRow w.heap.size e 1 v' (xs.length + m) (xs ++ news) → ∃ bo', Own e w' v' (xs ++ news) bo' ∧ (bo' = none ∨ ∃ g, bo' = some g ∧ w.heap.size ≤ g) := by
    intro v' w' ho
    have hlen : (xs ++ news).length = xs.length + m := by simp [hl]
    rcases ho.2 with ⟨rfl, h0⟩ | ⟨g, cap, cur, rfl, hb, hg, h2, h3, h4, h5⟩
    · exact ⟨none, Or.inl ⟨rfl, List.eq_nil_of_length_eq_zero (by omega), rfl⟩, Or.inl rfl⟩
    · exact ⟨some g, Or.inr ⟨g, cap, cur, rfl, by rw [hlen], hg, by omega, h3, by omega, by rw [hlen]; simpa using h5⟩, Or.inr ⟨g, rfl, hb⟩⟩
  rcases hown with ⟨rfl, rfl, rfl⟩ | ⟨g, cap, cur, rfl, rfl, hg, hnc, hcm, hcs, htake⟩
  · obtain ⟨v', w', hr, h2, h3, _⟩ := run_append_own (P := P) w w.heap.size t ty e i z 1 bytes ht hi hz hsize hby hzs (by omega) (.slice none 0 0) 0 [] (World.ownsRow_nil w _ e 1) a m c news (by omega) hnews h1 (by simpa using h63) (by simpa using hbytes) (Nat.le_refl _)
    obtain ⟨bo', ho, hn⟩ := fresh v' w' (by simpa using h2)
    refine ⟨v', w', bo', hr, by simpa using ho, ⟨h3.os, h3.tape, h3.output, h3.size, fun k hk _ => h3.block k hk (by simp [Value.ownBlock])⟩, ?_⟩
    rcases hn with rfl | h
    · exact Or.inl rfl
    · exact Or.inr h
  · by_cases hroom : xs.length + m ≤ cap
    · have hr := run_append_room (P := P) w t ty e i ht hi g xs.length cap cur hg a m c news (by rw [hsize]; omega) hnews h1 hroom (by rw [hsize]; omega)
      refine ⟨_, _, some g, hr, Or.inr ⟨g, cap, _, rfl, by simp [hl], setRow_heap w g cur _ e _ hg, by simp; omega, hcm, ?_, ?_⟩, (Mod.refl _ w).setRow g _ (fun _ => rfl), Or.inl rfl⟩
      · simp [hsize]; omega
      · have hlen : (cur.toList.take xs.length ++ news).length = (xs ++ news).length := by rw [htake]
        simp only [hsize, Nat.mul_one]
        rw [htake]
        exact List.take_left
    · have holds : ∀ j u, xs[j]? = some u → w.cell? ((⟨g, 0, none⟩ : Addr).add j) = some u := by
        intro j u hj
        have hjl : j < xs.length := by
          by_cases h : j < xs.length
          · exact h
          · rw [List.getElem?_eq_none (by omega)] at hj; simp at hj
        have e : (⟨g, 0, none⟩ : Addr).add j = ⟨g, j, none⟩ := by unfold Addr.add; split <;> simp_all
        rw [e, cell_of_row w g j cur _ (0, 0) hg, ← hj, ← take_get htake hjl]
        simp
      obtain ⟨v', w', hr, h2, h3⟩ := run_append_arg_grows (P := P) w t ty e i z 1 bytes ht hi hz hsize hby hzs (by omega) ⟨g, 0, none⟩ xs.length cap xs (by omega) holds a m c news (by omega) hnews (by omega) h63 hbytes
      obtain ⟨bo', ho, hn⟩ := fresh v' w' h2
      refine ⟨v', w', bo', hr, ho, ⟨h3.os, h3.tape, h3.output, h3.size, fun k hk _ => h3.block k hk (by simp)⟩, ?_⟩
      rcases hn with rfl | h
      · rcases ho with ⟨_, h0, _⟩ | ⟨_, _, _, h0, _⟩
        · have : xs.length + news.length = 0 := by rw [← List.length_append, h0]; rfl
          omega
        · simp at h0
      · exact Or.inr h

theorem wpList_append_at {w : World} {ops : Array Oper} {rest : List Oper} {o : Oper} {a : Act} {Q : Exit → Act → World → Prop} (hgd : o.guard = none) (s x : Operand) (t : TypeId)
    (ho : o.op = .call { callee := .builtin .append, args := #[s, x], argTypes := #[t, t] }) (e : TypeId) (z : Value) (bytes : Nat) (ht : P.underlying t = some (.slice e)) (hinfo : (P.info? e).map (fun i => (i.zero, i.size, i.bytes)) = some (some z, 1, bytes)) (hzs : z.cells.size = 1)
    (v : Value) (hs : a.eval s = v) (xs : List Value) (bo : Option Nat) (hown : Own e w v xs bo)
    (ad : Addr) (m c : Nat) (news : List Value) (hx : a.eval x = .slice (some ad) m c) (hl : news.length = m) (hnews : ∀ j u, news[j]? = some u → w.cell? (ad.add j) = some u) (h1 : ∀ u ∈ news, u.oneCell' = true)
    (h63 : xs.length + m ≤ maxLen) (hbytes : (xs.length + m) * bytes ≤ 140737488355328)
    (h : ∀ v' w' bo', Hid (Own e w' v' (xs ++ news) bo') → Hid (Mod (fun k => bo = some k) w w') → Hid (NewOr w bo bo') → wpList P ops Q rest (a.put o.dst v') w') : wpList P ops Q (o :: rest) a w := by
  obtain ⟨i, hi, hz, hsize, hby⟩ := info_parts hinfo
  refine wpList_plain hgd fun K hK => ?_
  obtain ⟨v', w', bo', hr, h2, h3, h4⟩ := run_append_at (P := P) w t o.type e i z bytes ht hi hz hsize hby hzs v xs bo hown ad m c news hl hnews h1 h63 hbytes
  unfold Oper.wp execOp
  simp only [ho, resolve, invoke, builtin, Sem.run_bind, Sem.run_pure, Result.andThen_ok, List.map_toArray, List.map_cons, List.map_nil, hs, hx, hr]
  exact hK _ _ (h v' w' bo' h2 h3 h4)
theorem step_append_at {w : World} {ops : Array Oper} {o : Oper} {a : Act} {K : Act → World → Prop} {Q : Exit → Act → World → Prop} {E : Prop} (hgd : o.guard = none) (s x : Operand) (t : TypeId)
    (ho : o.op = .call { callee := .builtin .append, args := #[s, x], argTypes := #[t, t] }) (e : TypeId) (z : Value) (bytes : Nat) (ht : P.underlying t = some (.slice e)) (hinfo : (P.info? e).map (fun i => (i.zero, i.size, i.bytes)) = some (some z, 1, bytes)) (hzs : z.cells.size = 1)
    (v : Value) (hs : a.eval s = v) (xs : List Value) (bo : Option Nat) (hown : Own e w v xs bo)
    (ad : Addr) (m c : Nat) (news : List Value) (hx : a.eval x = .slice (some ad) m c) (hl : news.length = m) (hnews : ∀ j u, news[j]? = some u → w.cell? (ad.add j) = some u) (h1 : ∀ u ∈ news, u.oneCell' = true)
    (h63 : xs.length + m ≤ maxLen) (hbytes : (xs.length + m) * bytes ≤ 140737488355328)
    (h : ∀ v' w' bo', Hid (Own e w' v' (xs ++ news) bo') → Hid (Mod (fun k => bo = some k) w w') → Hid (NewOr w bo bo') → K (a.put o.dst v') w') :
    if Region.wanted o (yielded ops a.tmps) = true then Oper.wp P o a w K Q else E := by
  have hw : Region.wanted o (yielded ops a.tmps) = true := by simp [Region.wanted, hgd]
  rw [if_pos hw]
  obtain ⟨i, hi, hz, hsize, hby⟩ := info_parts hinfo
  obtain ⟨v', w', bo', hr, h2, h3, h4⟩ := run_append_at (P := P) w t o.type e i z bytes ht hi hz hsize hby hzs v xs bo hown ad m c news hl hnews h1 h63 hbytes
  unfold Oper.wp execOp
  simp only [ho, resolve, invoke, builtin, Sem.run_bind, Sem.run_pure, Result.andThen_ok, List.map_toArray, List.map_cons, List.map_nil, hs, hx, hr]
  exact h v' w' bo' h2 h3 h4
end
end Go.Proofs.Ytkonbldjmcccmaa
