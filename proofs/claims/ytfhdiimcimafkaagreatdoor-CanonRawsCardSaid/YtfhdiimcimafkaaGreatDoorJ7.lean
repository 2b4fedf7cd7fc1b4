/- The document's Grow: its node under way. (XVTree's, XVBld2's texts, where the kind stands as 1.); The document's Grow and law13.raws make the same tree. No program; The document's Grow, walked whole; The document's Grow of a node that is no leaf; Grow, whole; law CanonRaws: the walk. -/
import Derived.Test.YtfhdiimcimafkaaGreatDoorJ3
import Derived.Test.YtfhdiimcimafkaaGreatDoorJ6
import Derived.Test.YtfhdiimcimafkaaGreatDoorJ5
import Derived.Test.YtfhdiimcimafkaaGreatDoorJ4
import Derived.StillTailTactics
import Derived.Deep.CutBlock
import Derived.Deep.RegionLaw
import Derived.Deep.RegionHeld3
import Derived.Deep.CutRange
set_option linter.unusedVariables false
set_option linter.unusedSimpArgs false
/- The document's Grow: its node under way. (XVTree's, XVBld2's texts, where the kind stands as 1.) -/
namespace Go.Proofs.YtfhdiimcimafkaaGreatDoor
open Go.RowKit
/-- what Grow leaves: the document's tree T -/
def grwPost (w0 : World) (T : Tr) (w : World) (e : Ending) (w' : World) : Prop :=
  ∃ (kd : Int) (pa : Option Addr) (pn pc : Nat) (hs : Bool) (v : Int) (ba : Option Addr) (bn bc : Nat) (ka : Option Addr) (kn kc : Nat),
    e = .returned (.agg #[.int .i64 kd, .slice pa pn pc, .bool hs, .int .u64 v, .slice ba bn bc, .slice ka kn kc]) ∧ RT w' (Gn w0 w w') T none 0 [.int .i64 kd, .slice pa pn pc, .bool hs, .int .u64 v, .slice ba bn bc, .slice ka kn kc] ∧ Below w.heap.size w w'
/-- a node under way: its box, the bytes and the kids so far -/
structure VG (w0 w : World) (nb : Nat) (pv : Value) (hs : Bool) (val : Int) (B : List Nat) (T : List Tr) (cs : List (List Value)) (bv kv : Value) (bo1 bo2 : Option Nat) (wr : World) : Prop where
  since : Below w.heap.size w wr
  nbn : w.heap.size ≤ nb
  box : wr.heap[nb]? = some (.cells [.int .i64 1, pv, .bool hs, .int .u64 val, bv, kv].toArray rnT (0, 0))
  ob : OwnS 1 u8T wr bv B.length (bV B) bo1
  ok : OwnS 6 rnT wr kv T.length cs.flatten bo2
  n1 : bo1 = none ∨ ∃ g, bo1 = some g ∧ w.heap.size ≤ g
  n2 : bo2 = none ∨ ∃ g, bo2 = some g ∧ w.heap.size ≤ g
  ne1 : bo1 ≠ some nb
  ne2 : bo2 ≠ some nb
  ne : ∀ g, bo1 = some g → bo2 ≠ some g
  len : cs.length = T.length
  six : ∀ c ∈ cs, c.length = 6
  kids : ∀ (i : Nat) (t : Tr) (c : List Value), T[i]? = some t → cs[i]? = some c → RT wr (Gd w0 w nb bo1 bo2 wr) t none 0 c
section
variable {w0 w wr w' : World} {nb : Nat} {pv : Value} {hs : Bool} {val : Int} {B : List Nat} {T : List Tr} {cs : List (List Value)} {bv kv : Value} {bo1 bo2 : Option Nat}
theorem VG.lt (h : VG w0 w nb pv hs val B T cs bv kv bo1 bo2 wr) : nb < wr.heap.size := (Array.getElem?_eq_some_iff.1 h.box).1
theorem VG.lt1 (h : VG w0 w nb pv hs val B T cs bv kv bo1 bo2 wr) {g : Nat} (e : bo1 = some g) : g < wr.heap.size := by have := h.ob; rw [e] at this; exact this.lt
theorem VG.lt2 (h : VG w0 w nb pv hs val B T cs bv kv bo1 bo2 wr) {g : Nat} (e : bo2 = some g) : g < wr.heap.size := by have := h.ok; rw [e] at this; exact this.lt
theorem VG.below (h : VG w0 w nb pv hs val B T cs bv kv bo1 bo2 wr) (hb : Below wr.heap.size wr w') : VG w0 w nb pv hs val B T cs bv kv bo1 bo2 w' where
  since := h.since.trans (hb.mono h.since.size)
  nbn := h.nbn
  box := (hb.block nb h.lt).trans h.box
  ob := h.ob.below hb
  ok := h.ok.below hb
  n1 := h.n1
  n2 := h.n2
  ne1 := h.ne1
  ne2 := h.ne2
  ne := h.ne
  len := h.len
  six := h.six
  kids := fun i t c ht hc => ((h.kids i t c ht hc).keep hb.size (fun j hj => hb.block j hj.2.1)).mono fun j hj => ⟨hj.1, Nat.lt_of_lt_of_le hj.2.1 hb.size, hj.2.2⟩
theorem VG.drewN (h : VG w0 w nb pv hs val B T cs bv kv bo1 bo2 wr) (k : Nat) : VG w0 w nb pv hs val B T cs bv kv bo1 bo2 (wr.drewN k) := h.below (below_drewN (Below.refl _ _) k)
/-- what stands in its box -/
theorem VG.facts (h : VG w0 w nb pv hs val B T cs bv kv bo1 bo2 wr) : wr.cell? ⟨nb, 0, none⟩ = some (.int .i64 1) ∧ wr.cell? ⟨nb, 1, none⟩ = some pv ∧ wr.cell? ⟨nb, 2, none⟩ = some (.bool hs) ∧ wr.cell? ⟨nb, 3, none⟩ = some (.int .u64 val) ∧ wr.cell? ⟨nb, 4, none⟩ = some bv ∧ wr.cell? ⟨nb, 5, none⟩ = some kv ∧ ∀ j, wr.frozen? ⟨nb, j, none⟩ = false :=
  ⟨by rw [cell_of_blk h.box]; rfl, by rw [cell_of_blk h.box]; rfl, by rw [cell_of_blk h.box]; rfl, by rw [cell_of_blk h.box]; rfl, by rw [cell_of_blk h.box]; rfl, by rw [cell_of_blk h.box]; rfl, fun j => frozen_of_blk h.box j⟩
/-- a byte more -/
theorem VG.byte (h : VG w0 w nb pv hs val B T cs bv kv bo1 bo2 wr) (b : Nat) {v' : Value} {bo' : Option Nat} (h1 : OwnS 1 u8T w' v' (B.length + 1) (bV B ++ [.int .u8 (b : Nat)]) bo') (hm : Mod (fun k => bo1 = some k) wr w') (hn : NewOr wr bo1 bo') :
    VG w0 w nb pv hs val (B ++ [b]) T cs v' kv bo' bo2 (w'.setCell ⟨nb, 4, none⟩ v') := by
  have hlt := h.lt
  have hbox : w'.heap[nb]? = some (.cells [.int .i64 1, pv, .bool hs, .int .u64 val, bv, kv].toArray rnT (0, 0)) := (hm.same nb hlt h.ne1).trans h.box
  have hM2 : Mod (fun k => k = nb) w' (w'.setCell ⟨nb, 4, none⟩ v') := (Mod.refl _ w').setCell ⟨nb, 4, none⟩ _ (fun _ => rfl)
  have hsz : wr.heap.size ≤ (w'.setCell ⟨nb, 4, none⟩ v').heap.size := Nat.le_trans hm.size hM2.size
  have hsub : ∀ j, Gd w0 w nb bo1 bo2 wr j → Gd w0 w nb bo' bo2 (w'.setCell ⟨nb, 4, none⟩ v') j := fun j ⟨q1, q2, q3, q4, q5⟩ => ⟨q1, Nat.lt_of_lt_of_le q2 hsz, q3, fun e => by
    rcases hn with e2 | ⟨g, e2, hg⟩
    · rw [e2] at e; exact q4 e
    · rw [e2] at e; cases e; omega, q5⟩
  have hsame : ∀ j, Gd w0 w nb bo1 bo2 wr j → (w'.setCell ⟨nb, 4, none⟩ v').heap[j]? = wr.heap[j]? := fun j ⟨q1, q2, q3, q4, q5⟩ => (hM2.same j (Nat.lt_of_lt_of_le q2 hm.size) q3).trans (hm.same j q2 q4)
  have hne1 : bo' ≠ some nb := fun e => by
    rcases hn with e2 | ⟨g, e2, hg⟩
    · rw [e2] at e; exact h.ne1 e
    · rw [e2] at e; cases e; omega
  refine ⟨?_, h.nbn, ?_, ?_, ?_, ?_, h.n2, hne1, h.ne2, fun g e1 e2 => ?_, h.len, h.six, fun i t c ht hc => ((h.kids i t c ht hc).keep hsz hsame).mono hsub⟩
  · refine (h.since.trans (?_ : Below w.heap.size wr w')).setCell (p := ⟨nb, 4, none⟩) h.nbn _
    exact OwnS.modNew h.ob h.n1 hm h.since.size
  · rw [setCell_list _ _ _ _ _ _ hbox, setRow_heap _ _ _ _ _ _ hbox]; rfl
  · have e : bV (B ++ [b]) = bV B ++ [.int .u8 (b : Nat)] := by simp [bV]
    rw [e, List.length_append]
    exact h1.keep fun g e => hM2.same g (by subst e; exact h1.lt) (fun q => hne1 (by rw [e, q]))
  · exact (h.ok.keep fun g e => hm.same g (h.lt2 e) (fun q => h.ne g q e)).keep fun g e => hM2.same g (Nat.lt_of_lt_of_le (h.lt2 e) hm.size) (fun q => h.ne2 (by rw [e, q]))
  · rcases hn with e2 | ⟨g, e2, hg⟩
    · rw [e2]; exact h.n1
    · exact Or.inr ⟨g, e2, Nat.le_trans h.since.size hg⟩
  · rcases hn with e3 | ⟨g', e3, hg⟩
    · rw [e3] at e1; exact h.ne g e1 e2
    · rw [e3] at e1; cases e1; have := h.lt2 e2; omega
/-- a kid more -/
theorem VG.kid (h : VG w0 w nb pv hs val B T cs bv kv bo1 bo2 wr) (t : Tr) (c : List Value) (h6 : c.length = 6) (ht : RT wr (Gd w0 w nb bo1 bo2 wr) t none 0 c) {v' : Value} {bo' : Option Nat} (h1 : OwnS 6 rnT w' v' (T.length + 1) (cs.flatten ++ c) bo') (hm : Mod (fun k => bo2 = some k) wr w') (hn : NewOr wr bo2 bo') :
    VG w0 w nb pv hs val B (T ++ [t]) (cs ++ [c]) bv v' bo1 bo' (w'.setCell ⟨nb, 5, none⟩ v') := by
  have hlt := h.lt
  have hbox : w'.heap[nb]? = some (.cells [.int .i64 1, pv, .bool hs, .int .u64 val, bv, kv].toArray rnT (0, 0)) := (hm.same nb hlt h.ne2).trans h.box
  have hM2 : Mod (fun k => k = nb) w' (w'.setCell ⟨nb, 5, none⟩ v') := (Mod.refl _ w').setCell ⟨nb, 5, none⟩ _ (fun _ => rfl)
  have hsz : wr.heap.size ≤ (w'.setCell ⟨nb, 5, none⟩ v').heap.size := Nat.le_trans hm.size hM2.size
  have hsub : ∀ j, Gd w0 w nb bo1 bo2 wr j → Gd w0 w nb bo1 bo' (w'.setCell ⟨nb, 5, none⟩ v') j := fun j ⟨q1, q2, q3, q4, q5⟩ => ⟨q1, Nat.lt_of_lt_of_le q2 hsz, q3, q4, fun e => by
    rcases hn with e2 | ⟨g, e2, hg⟩
    · rw [e2] at e; exact q5 e
    · rw [e2] at e; cases e; omega⟩
  have hsame : ∀ j, Gd w0 w nb bo1 bo2 wr j → (w'.setCell ⟨nb, 5, none⟩ v').heap[j]? = wr.heap[j]? := fun j ⟨q1, q2, q3, q4, q5⟩ => (hM2.same j (Nat.lt_of_lt_of_le q2 hm.size) q3).trans (hm.same j q2 q5)
  have hne2 : bo' ≠ some nb := fun e => by
    rcases hn with e2 | ⟨g, e2, hg⟩
    · rw [e2] at e; exact h.ne2 e
    · rw [e2] at e; cases e; omega
  refine ⟨?_, h.nbn, ?_, ?_, ?_, h.n1, ?_, h.ne1, hne2, fun g e1 e2 => ?_, by simp [h.len], fun d hd => ?_, fun i t' c' ht' hc' => ?_⟩
  · refine (h.since.trans (?_ : Below w.heap.size wr w')).setCell (p := ⟨nb, 5, none⟩) h.nbn _
    exact OwnS.modNew h.ok h.n2 hm h.since.size
  · rw [setCell_list _ _ _ _ _ _ hbox, setRow_heap _ _ _ _ _ _ hbox]; rfl
  · exact (h.ob.keep fun g e => hm.same g (h.lt1 e) (fun q => h.ne g e q)).keep fun g e => hM2.same g (Nat.lt_of_lt_of_le (h.lt1 e) hm.size) (fun q => h.ne1 (by rw [e, q]))
  · rw [List.length_append, List.flatten_append]
    have : [c].flatten = c := by simp
    rw [this]
    exact h1.keep fun g e => hM2.same g (by subst e; exact h1.lt) (fun q => hne2 (by rw [e, q]))
  · rcases hn with e2 | ⟨g, e2, hg⟩
    · rw [e2]; exact h.n2
    · exact Or.inr ⟨g, e2, Nat.le_trans h.since.size hg⟩
  · rcases hn with e3 | ⟨g', e3, hg⟩
    · rw [e3] at e2; exact h.ne g e1 e2
    · rw [e3] at e2; cases e2; have := h.lt1 e1; omega
  · rcases List.mem_append.1 hd with hd | hd
    · exact h.six d hd
    · obtain rfl := List.mem_singleton.1 hd; exact h6
  · by_cases hi : i < T.length
    · rw [List.getElem?_append_left hi] at ht'
      rw [List.getElem?_append_left (by rw [h.len]; exact hi)] at hc'
      exact ((h.kids i t' c' ht' hc').keep hsz hsame).mono hsub
    · have hi2 := (List.getElem?_eq_some_iff.1 ht').1
      rw [List.length_append, List.length_singleton] at hi2
      obtain rfl : i = T.length := by omega
      rw [List.getElem?_append_right (Nat.le_refl _), Nat.sub_self] at ht'
      rw [List.getElem?_append_right (by rw [h.len]; exact Nat.le_refl _), h.len, Nat.sub_self] at hc'
      obtain rfl : t = t' := by simpa using ht'
      obtain rfl : c = c' := by simpa using hc'
      exact (ht.keep hsz hsame).mono hsub
/-- the tree, once the kind stands in its box -/
theorem VG.done {L : List (Nat × Tr)} {bs : List Nat} (h : VG w0 w nb pv hs val (L.map (·.1)) (L.map (·.2)) cs bv kv bo1 bo2 wr) {pa : Option Addr} {pn pc : Nat} (hpv : pv = .slice pa pn pc) (hp : Sl w0 pa pn pc bs) (h0 : Below w0.heap.size w0 w) (hB : ∀ x ∈ L.map (·.1), x < 256) (x : Value) :
    RT (wr.setCell ⟨nb, 0, none⟩ x) (Gn w0 w (wr.setCell ⟨nb, 0, none⟩ x)) (.node bs val hs false (ofL L)) none 0 [.int .i64 (kindOf L.length : Nat), pv, .bool hs, .int .u64 val, bv, kv] := by
  have hM2 : Mod (fun k => k = nb) wr (wr.setCell ⟨nb, 0, none⟩ x) := (Mod.refl _ wr).setCell ⟨nb, 0, none⟩ _ (fun _ => rfl)
  have hw0 : w0.heap.size ≤ wr.heap.size := Nat.le_trans h0.size h.since.size
  have hsp : SlG (wr.setCell ⟨nb, 0, none⟩ x) (Gn w0 w (wr.setCell ⟨nb, 0, none⟩ x)) pa pn pc bs := by
    have q : SlG w0 (fun j => j < w0.heap.size) pa pn pc bs := SlG.of hp fun j hj => hj
    refine (q.keep (Nat.le_trans hw0 hM2.size) fun j hj => ?_).mono fun j hj => ⟨Or.inl hj, Nat.lt_of_lt_of_le hj (Nat.le_trans hw0 hM2.size)⟩
    have := h0.size
    have := h.nbn
    rw [hM2.same j (by omega) (by omega), h.since.block j (by omega), h0.block j hj]
  have hb1 : OwnS 1 u8T (wr.setCell ⟨nb, 0, none⟩ x) bv (L.map (·.1)).length (bV (L.map (·.1))) bo1 := h.ob.keep fun g e => hM2.same g (h.lt1 e) (fun q => h.ne1 (by rw [e, q]))
  have hk1 : OwnS 6 rnT (wr.setCell ⟨nb, 0, none⟩ x) kv (L.map (·.2)).length cs.flatten bo2 := h.ok.keep fun g e => hM2.same g (h.lt2 e) (fun q => h.ne2 (by rw [e, q]))
  obtain ⟨ba, bc, rfl, hb2, hb3, hb4⟩ := hb1.len
  obtain ⟨ka, kc, rfl, hk2, hk3, hk4⟩ := hk1.len
  rw [List.length_map] at hb1 hb2 hb4 hk1 hk2 hk4
  refine ⟨pa, pn, pc, ba, L.length, bc, ka, L.length, kc, by rw [hpv]; simp [rkind, chain_ofL], hsp, ⟨⟨by rw [chain_ofL, List.length_map], ⟨by rw [chain_ofL]; exact hB, fun i hi => ?_⟩, by simpa using hb2, hb3, by simpa using hb4⟩, fun hne p e => ?_⟩, by rw [chain_ofL], by simpa using hk2, ?_⟩
  · rw [chain_ofL, List.length_map] at hi
    obtain ⟨g, cap, e1, e2, e3, _⟩ := hb1.at_ (j := i) (by omega)
    have e4 : ba = some ⟨g, 0, none⟩ := (Value.slice.inj e2).1
    have hlt : g < (wr.setCell ⟨nb, 0, none⟩ x).heap.size := Nat.lt_of_lt_of_le (h.lt1 e1) hM2.size
    refine ⟨⟨g, 0, none⟩, e4, by rw [add_block]; exact hlt, ?_⟩
    rw [add0, e3, bV_get, chain_ofL]
    simp [List.getD, hi]
  · rw [chain_ofL] at hne
    have hl : 0 < L.length := by cases L with | nil => simp at hne | cons => simp
    obtain ⟨g, cap, e1, e2, _⟩ := hb1.at_ (j := 0) (by omega)
    have e4 : ba = some ⟨g, 0, none⟩ := (Value.slice.inj e2).1
    rw [e4] at e
    obtain rfl : (⟨g, 0, none⟩ : Addr) = p := by simpa using e
    refine ⟨Or.inr ?_, Nat.lt_of_lt_of_le (h.lt1 e1) hM2.size⟩
    rcases h.n1 with q | ⟨g', q, hg⟩
    · rw [q] at e1; cases e1
    · rw [q] at e1; cases e1; exact hg
  · by_cases hl : L = []
    · subst hl; trivial
    · have hl : 0 < L.length := List.length_pos_iff.2 hl
      obtain ⟨g, cap, e1, e2, _⟩ := hk1.at_ (j := 0) (by omega)
      have e4 : ka = some ⟨g, 0, none⟩ := (Value.slice.inj e2).1
      rw [e4]
      have hgn : w.heap.size ≤ g := by
        rcases h.n2 with q | ⟨g', q, hg⟩
        · rw [q] at e1; cases e1
        · rw [q] at e1; cases e1; exact hg
      refine rt_row (g := g) ⟨Or.inr hgn, Nat.lt_of_lt_of_le (h.lt2 e1) hM2.size⟩ L 0 fun q y hy => ?_
      have hq := (List.getElem?_eq_some_iff.1 hy).1
      have hlen := h.len
      rw [List.length_map] at hlen
      have hc : cs[q]? = some cs[q] := List.getElem?_eq_getElem (by omega)
      refine ⟨cs[q], h.six _ (List.getElem_mem _), fun j hj => ?_, ?_⟩
      · obtain ⟨g', cap', e1', _, e3, _⟩ := hk1.at_ (j := q * 6 + j) (by omega)
        obtain rfl : g = g' := by rw [e1] at e1'; simpa using e1'
        rw [Nat.zero_add, e3]
        exact flat6_get cs h.six q _ hc j hj
      · have := h.kids q y.2 cs[q] (by rw [List.getElem?_map, hy]; rfl) hc
        exact (this.keep hM2.size fun j hj => hM2.same j hj.2.1 hj.2.2.1).mono fun j hj => ⟨hj.1, Nat.lt_of_lt_of_le hj.2.1 hM2.size⟩
end
section
variable {w0 w wr w' : World} {nb : Nat} {pv : Value} {hs : Bool} {val : Int} {B : List Nat} {T : List Tr} {cs : List (List Value)} {bv kv : Value} {bo1 bo2 : Option Nat}
theorem VG.start (h : Below w.heap.size w wr) (pv : Value) (hs : Bool) (val : Int) : VG w0 w wr.heap.size pv hs val [] [] [] (.slice none 0 0) (.slice none 0 0) none none (wr.alloc (.cells #[.int .i64 1, pv, .bool hs, .int .u64 val, .slice none 0 0, .slice none 0 0] rnT)) where
  since := h.alloc h.size _
  nbn := h.size
  box := six_new wr _ _ _ _ _ _ rnT
  ob := OwnS.nil _ _ _
  ok := OwnS.nil _ _ _
  n1 := Or.inl rfl
  n2 := Or.inl rfl
  ne1 := by simp
  ne2 := by simp
  ne := fun g e => by cases e
  len := rfl
  six := by simp
  kids := fun i t c h => by simp at h
/-- what a kid's tree reads may be read -/
theorem VG.gd (h : VG w0 w nb pv hs val B T cs bv kv bo1 bo2 wr) (h0 : w0.heap.size ≤ w.heap.size) (hs2 : wr.heap.size ≤ w'.heap.size) : ∀ j, Gn w0 wr w' j → Gd w0 w nb bo1 bo2 w' j := fun j ⟨q1, q2⟩ => by
  have hn := h.nbn
  have hl := h.lt
  have hsz := h.since.size
  refine ⟨by rcases q1 with q | q <;> omega, q2, ?_, ?_, ?_⟩
  · rintro rfl; rcases q1 with q | q <;> omega
  · intro e
    have := h.lt1 e
    rcases h.n1 with e2 | ⟨g, e2, hg⟩
    · rw [e2] at e; cases e
    · rw [e2] at e; cases e; rcases q1 with q | q <;> omega
  · intro e
    have := h.lt2 e
    rcases h.n2 with e2 | ⟨g, e2, hg⟩
    · rw [e2] at e; cases e
    · rw [e2] at e; cases e; rcases q1 with q | q <;> omega
/-- its box behind an append elsewhere -/
theorem VG.boxAt (h : VG w0 w nb pv hs val B T cs bv kv bo1 bo2 wr) {bo : Option Nat} (hm : Mod (fun k => bo = some k) wr w') (hne : bo ≠ some nb) : w'.cell? ⟨nb, 4, none⟩ = some bv ∧ w'.cell? ⟨nb, 5, none⟩ = some kv ∧ w'.frozen? ⟨nb, 4, none⟩ = false ∧ w'.frozen? ⟨nb, 5, none⟩ = false := by
  have hb : w'.heap[nb]? = _ := (hm.same nb h.lt hne).trans h.box
  exact ⟨by rw [cell_of_blk hb]; rfl, by rw [cell_of_blk hb]; rfl, frozen_of_blk hb 4, frozen_of_blk hb 5⟩
end
/-- the node is done, and copied into the result's box -/
theorem grw_end {w0 w w1 wo : World} {nn : Nat} {ab : Option Addr} {pn pc : Nat} {hs : Bool} {val : Int} {L : List (Nat × Tr)} {cs : List (List Value)} {ba : Option Addr} {bn bc : Nat} {ka : Option Addr} {kn kc : Nat} {bo1 bo2 : Option Nat} {bs : List Nat}
    (HV : VG w0 w1 nn (.slice ab pn pc) hs val (L.map (·.1)) (L.map (·.2)) cs (.slice ba bn bc) (.slice ka kn kc) bo1 bo2 wo) (hp : Sl w0 ab pn pc bs) (h0 : Below w0.heap.size w0 w) (hW : Below w.heap.size w w1) (hsz : w1.heap.size = w.heap.size + 1)
    (hRB : w1.heap[w.heap.size]? = some (.cells [.int .i64 0, .slice none 0 0, .bool false, .int .u64 0, .slice none 0 0, .slice none 0 0].toArray rnT (0, 0))) (hB : ∀ x ∈ L.map (·.1), x < 256)
    (T : World) (hTe : T = wo.setCell ⟨nn, 0, none⟩ (.int .i64 (kindOf L.length : Nat))) :
    T.heap[nn]? = some (.cells [.int .i64 (kindOf L.length : Nat), .slice ab pn pc, .bool hs, .int .u64 val, .slice ba bn bc, .slice ka kn kc].toArray rnT (0, 0)) ∧
    T.heap[w.heap.size]? = some (.cells [.int .i64 0, .slice none 0 0, .bool false, .int .u64 0, .slice none 0 0, .slice none 0 0].toArray rnT (0, 0)) ∧
    ∀ w8, w8 = (((((T.setCell ⟨w.heap.size, 0, none⟩ (.int .i64 (kindOf L.length : Nat))).setCell ⟨w.heap.size, 1, none⟩ (.slice ab pn pc)).setCell ⟨w.heap.size, 2, none⟩ (.bool hs)).setCell ⟨w.heap.size, 3, none⟩ (.int .u64 val)).setCell ⟨w.heap.size, 4, none⟩ (.slice ba bn bc)).setCell ⟨w.heap.size, 5, none⟩ (.slice ka kn kc) →
      (w8.cell? ⟨w.heap.size, 0, none⟩ = some (.int .i64 (kindOf L.length : Nat)) ∧ w8.cell? ⟨w.heap.size, 1, none⟩ = some (.slice ab pn pc) ∧ w8.cell? ⟨w.heap.size, 2, none⟩ = some (.bool hs) ∧ w8.cell? ⟨w.heap.size, 3, none⟩ = some (.int .u64 val) ∧ w8.cell? ⟨w.heap.size, 4, none⟩ = some (.slice ba bn bc) ∧ w8.cell? ⟨w.heap.size, 5, none⟩ = some (.slice ka kn kc)) ∧
      grwPost w0 (.node bs val hs false (ofL L)) w (.returned (.agg #[.int .i64 (kindOf L.length : Nat), .slice ab pn pc, .bool hs, .int .u64 val, .slice ba bn bc, .slice ka kn kc])) w8 := by
  have hnn := HV.nbn
  have hlt := HV.lt
  have hRT := HV.done rfl hp (h0.trans (hW.mono h0.size)) hB (.int .i64 (kindOf L.length : Nat))
  rw [← hTe] at hRT
  have hM : Mod (fun k => k = nn) wo T := by rw [hTe]; exact (Mod.refl _ wo).setCell ⟨nn, 0, none⟩ _ (fun _ => rfl)
  have y1 : T.heap[nn]? = some (.cells [.int .i64 (kindOf L.length : Nat), .slice ab pn pc, .bool hs, .int .u64 val, .slice ba bn bc, .slice ka kn kc].toArray rnT (0, 0)) := by
    rw [hTe, setCell_list _ _ _ _ _ _ HV.box, setRow_heap _ _ _ _ _ _ HV.box]; rfl
  have hso := HV.since.size
  have y2 : T.heap[w.heap.size]? = some (.cells [.int .i64 0, .slice none 0 0, .bool false, .int .u64 0, .slice none 0 0, .slice none 0 0].toArray rnT (0, 0)) := by
    rw [hM.same _ (by omega) (by omega), HV.since.block _ (by omega)]; exact hRB
  refine ⟨y1, y2, fun w8 e8 => ?_⟩
  obtain ⟨z1, z2⟩ := six_fin y2 _ _ _ _ _ _ w8 e8
  obtain ⟨f0, f1, f2, f3, f4, f5, _⟩ := six_facts z1
  have hbw : Below w.heap.size w T := by
    rw [hTe]
    exact ((hW.trans (HV.since.mono hW.size)).setCell (p := ⟨nn, 0, none⟩) (by show w.heap.size ≤ nn; omega) _)
  have hb8 : Below w.heap.size w w8 := ⟨z2.os.trans hbw.os, z2.tape.trans hbw.tape, z2.output.trans hbw.output, Nat.le_trans hbw.size z2.size, fun j hj => (z2.same j (Nat.lt_of_lt_of_le hj hbw.size) (by omega)).trans (hbw.block j hj)⟩
  have h0s := h0.size
  have hR8 := (hRT.keep (w' := w8) z2.size fun j hj => z2.same j hj.2 (by rcases hj.1 with q | q <;> omega)).mono (G' := Gn w0 w w8) fun j hj => ⟨by rcases hj.1 with q | q <;> omega, Nat.lt_of_lt_of_le hj.2 z2.size⟩
  exact ⟨⟨f0, f1, f2, f3, f4, f5⟩, _, _, _, _, _, _, _, _, _, _, _, _, rfl, hR8, hb8⟩
end Go.Proofs.YtfhdiimcimafkaaGreatDoor
/- The document's Grow and law13.raws make the same tree. No program. -/
namespace Go.Proofs.YtfhdiimcimafkaaGreatDoor
open Go.RowKit
abbrev rwz : RW := ⟨false, [], false, 0, 0, 0⟩
/-- the last one of the first m that is told as i's kid by b; 0: none -/
def lastJ (l : List RW) (i b : Nat) : Nat → Nat
  | 0 => 0
  | m + 1 => if i < m ∧ (l.getD m rwz).up % m = i ∧ (l.getD m rwz).b = b then m else lastJ l i b m
theorem lastJ_low (l : List RW) (i b : Nat) : ∀ m, m ≤ i + 1 → lastJ l i b m = 0
  | 0, _ => rfl
  | m + 1, h => by
    unfold lastJ
    rw [if_neg (by omega)]
    exact lastJ_low l i b m (by omega)
theorem lastJ_lt (l : List RW) (i b : Nat) : ∀ m, 0 < lastJ l i b m → i < lastJ l i b m ∧ lastJ l i b m < m
  | 0, h => by simp [lastJ] at h
  | m + 1, h => by
    unfold lastJ at h ⊢
    split
    · rename_i q; exact ⟨q.1, Nat.lt_succ_self m⟩
    · rename_i q
      rw [if_neg q] at h
      have := lastJ_lt l i b m h
      omega
/-- the kids by the bytes below B -/
def rowU (l : List RW) (i m B : Nat) : List (Nat × Nat) := (List.range B).filterMap fun b => if 0 < lastJ l i b m then some (b, lastJ l i b m) else none
theorem rowU_succ (l : List RW) (i m B : Nat) : rowU l i m (B + 1) = rowU l i m B ++ (if 0 < lastJ l i B m then [(B, lastJ l i B m)] else []) := by
  unfold rowU
  rw [List.range_succ, List.filterMap_append]
  congr 1
  split <;> simp [*]
theorem rowU_mem {l : List RW} {i m B : Nat} {x : Nat × Nat} : x ∈ rowU l i m B ↔ x.1 < B ∧ 0 < x.2 ∧ lastJ l i x.1 m = x.2 := by
  unfold rowU
  rw [List.mem_filterMap]
  constructor
  · rintro ⟨b, hb, h⟩
    split at h
    · cases h; exact ⟨List.mem_range.1 hb, by assumption, rfl⟩
    · cases h
  · rintro ⟨h1, h2, h3⟩
    refine ⟨x.1, List.mem_range.2 h1, ?_⟩
    rw [h3, if_pos h2]
theorem rowU_srt (l : List RW) (i m : Nat) : ∀ B, (rowU l i m B).Pairwise fun x y => x.1 < y.1
  | 0 => by simp [rowU]
  | B + 1 => by
    rw [rowU_succ, List.pairwise_append]
    refine ⟨rowU_srt l i m B, by split <;> simp, fun x hx y hy => ?_⟩
    have h1 := (rowU_mem.1 hx).1
    split at hy
    · obtain rfl := List.mem_singleton.1 hy; exact h1
    · simp at hy
theorem srt_ext : ∀ {l l' : List (Nat × Nat)}, (l.Pairwise fun x y => x.1 < y.1) → (l'.Pairwise fun x y => x.1 < y.1) → (∀ x, x ∈ l ↔ x ∈ l') → l = l'
  | [], [], _, _, _ => rfl
  | [], y :: t', _, _, h => by have := (h y).2 (by simp); simp at this
  | x :: t, [], _, _, h => by have := (h x).1 (by simp); simp at this
  | x :: t, y :: t', h1, h2, h => by
    obtain ⟨a1, a2⟩ := List.pairwise_cons.1 h1
    obtain ⟨b1, b2⟩ := List.pairwise_cons.1 h2
    have hxy : x = y := by
      have hx := (h x).1 (by simp)
      have hy := (h y).2 (by simp)
      rcases List.mem_cons.1 hx with e | hx
      · exact e
      · rcases List.mem_cons.1 hy with e | hy
        · exact e.symm
        · have := b1 x hx; have := a1 y hy; omega
    subst hxy
    congr 1
    refine srt_ext a2 b2 fun z => ⟨fun hz => ?_, fun hz => ?_⟩
    · rcases List.mem_cons.1 ((h z).1 (by simp [hz])) with e | q
      · subst e; have := a1 z hz; omega
      · exact q
    · rcases List.mem_cons.1 ((h z).2 (by simp [hz])) with e | q
      · subst e; have := b1 z hz; omega
      · exact q
theorem kinsN_iff {l : List (Nat × Nat)} {b c : Nat} {x : Nat × Nat} : x ∈ kinsN l b c ↔ x = (b, c) ∨ (x ∈ l ∧ x.1 ≠ b) := by
  unfold kinsN
  simp only [List.mem_append, List.mem_cons, List.mem_filter, decide_eq_true_eq]
  constructor
  · rintro (⟨h1, h2⟩ | h | ⟨h1, h2⟩)
    · exact Or.inr ⟨h1, by omega⟩
    · exact Or.inl h
    · exact Or.inr ⟨h1, by omega⟩
  · rintro (h | ⟨h1, h2⟩)
    · exact Or.inr (Or.inl h)
    · rcases Nat.lt_or_gt_of_ne h2 with q | q
      · exact Or.inl ⟨h1, q⟩
      · exact Or.inr (Or.inr ⟨h1, q⟩)
theorem rowU_ins {l : List RW} {i m : Nat} (hi : i < m) (hb : (l.getD m rwz).b < 256) (hu : (l.getD m rwz).up % m = i) : kinsN (rowU l i m 256) (l.getD m rwz).b m = rowU l i (m + 1) 256 := by
  refine srt_ext (kinsN_srt (rowU_srt l i m 256) _ _) (rowU_srt l i (m + 1) 256) fun x => ?_
  rw [kinsN_iff, rowU_mem, rowU_mem]
  obtain ⟨b, c⟩ := x
  simp only [lastJ]
  by_cases e : (l.getD m rwz).b = b
  · rw [if_pos ⟨hi, hu, e⟩]
    constructor
    · rintro (h | ⟨_, h⟩)
      · cases h; exact ⟨by omega, by omega, rfl⟩
      · exact absurd e.symm h
    · rintro ⟨h1, h2, h3⟩
      exact Or.inl (by rw [e, h3])
  · rw [if_neg (fun q => e q.2.2)]
    constructor
    · rintro (h | ⟨h, _⟩)
      · cases h; exact absurd rfl e
      · exact h
    · intro h
      exact Or.inr ⟨h, fun q => e q.symm⟩
theorem rowU_keep {l : List RW} {i m : Nat} (hu : ¬ (i < m ∧ (l.getD m rwz).up % m = i)) : rowU l i (m + 1) 256 = rowU l i m 256 := by
  unfold rowU
  have : ∀ b, lastJ l i b (m + 1) = lastJ l i b m := fun b => by
    rw [lastJ, if_neg (fun q => hu ⟨q.1, q.2.1⟩)]
  simp only [this]
theorem rowU_nil {l : List RW} {i m : Nat} (h : m ≤ i + 1) : rowU l i m 256 = [] := by
  unfold rowU
  have : ∀ b, lastJ l i b m = 0 := fun b => lastJ_low l i b m h
  simp [this]
/-- a node, when the first m are told -/
def gnAt (l : List RW) (i m : Nat) : GN := if (l.getD i rwz).leaf then ⟨(l.getD i rwz).bs, (l.getD i rwz).val, true, true, []⟩ else ⟨(l.getD i rwz).bs, if (l.getD i rwz).has then (l.getD i rwz).val else 0, (l.getD i rwz).has, false, rowU l i m 256⟩
theorem gnAt_new {l : List RW} {i m : Nat} (h : m ≤ i + 1) : gnAt l i m = gnNew (l.getD i rwz) := by
  unfold gnAt gnNew
  split
  · rfl
  · rw [rowU_nil h]
theorem gnAll_at {l : List RW} (hok : ∀ r ∈ l, r.ok) : ∀ m, m ≤ l.length → (gnAll (l.take m)).length = m ∧ ∀ i, i < m → (gnAll (l.take m))[i]? = some (gnAt l i m)
  | 0, _ => ⟨by simp [gnAll], fun i hi => absurd hi (by omega)⟩
  | m + 1, hm => by
    obtain ⟨ih1, ih2⟩ := gnAll_at hok m (by omega)
    have hr : l.getD m rwz = l[m] := by simp [List.getD, List.getElem?_eq_getElem (show m < l.length by omega)]
    have e : gnAll (l.take (m + 1)) = gnOne (gnAll (l.take m)) (l.getD m rwz) := by
      rw [List.take_succ_eq_append_getElem (by omega), hr]
      unfold gnAll
      rw [List.foldl_append]; rfl
    have h8 : (l.getD m rwz).b < 256 := by rw [hr]; exact (hok _ (List.getElem_mem _)).2.2.2.2.2
    rw [e]
    refine ⟨by rw [gnOne_len, ih1], fun i hi => ?_⟩
    unfold gnOne
    rw [ih1]
    by_cases h0 : m = 0
    · subst h0
      obtain rfl : i = 0 := by omega
      rw [if_pos rfl]
      rw [gnAt_new (by omega)]; rfl
    · rw [if_neg h0, List.getElem?_modify, Option.map_eq_map]
      have hlt : (l.getD m rwz).up % m < m := Nat.mod_lt _ (by omega)
      by_cases him : i = m
      · subst him
        rw [List.getElem?_append_right (by omega), ih1, Nat.sub_self, List.getElem?_cons_zero, Option.map_some, if_neg (by omega), gnAt_new (by omega)]
      · have hi' : i < m := by omega
        rw [List.getElem?_append_left (by omega), ih2 i hi', Option.map_some]
        by_cases hu : (l.getD m rwz).up % m = i
        · rw [if_pos hu]
          congr 1
          unfold gnAt gnKid
          split
          · rename_i hl; simp
          · rename_i hl
            simp only [Bool.false_eq_true, if_false]
            rw [rowU_ins hi' h8 hu]
        · rw [if_neg hu]
          congr 1
          unfold gnAt
          rw [rowU_keep (fun q => hu q.2)]
theorem gnAll_get {l : List RW} (hok : ∀ r ∈ l, r.ok) {i : Nat} (hi : i < l.length) : (gnAll l)[i]? = some (gnAt l i l.length) := by
  have := (gnAll_at hok l.length (Nat.le_refl _)).2 i hi
  rwa [List.take_length] at this
/-- the tree that Grow makes at i -/
theorem gtr_at {l : List RW} (hok : ∀ r ∈ l, r.ok) {i : Nat} (hi : i < l.length) (f : Nat) : gtr (gnAll l) (f + 1) i = if (l.getD i rwz).leaf then .node (l.getD i rwz).bs (l.getD i rwz).val true true .nil else .node (l.getD i rwz).bs (if (l.getD i rwz).has then (l.getD i rwz).val else 0) (l.getD i rwz).has false (ofL ((rowU l i l.length 256).map fun x => (x.1, gtr (gnAll l) f x.2))) := by
  rw [gtr_some (gnAll_get hok hi)]
  unfold gnAt
  split <;> rfl
end Go.Proofs.YtfhdiimcimafkaaGreatDoor
/- The document's Grow, walked whole. -/
namespace Go.Proofs.YtfhdiimcimafkaaGreatDoor
open Go.RowKit
def GrowAsk (w0 : World) (l : List RW) (a : Option Addr) (n c : Nat) (f : Nat) : Prop := ∀ (i : Nat) (w : World), i < n → n - i ≤ f → Below w0.heap.size w0 w → Calls Tryz.prog 21 #[.slice a n c, .int .i64 (i : Nat)] w (grwPost w0 (gtr (gnAll l) f i) w)
set_option maxHeartbeats 2000000 in
set_option maxRecDepth 100000 in
theorem grw_leaf {w0 : World} {l : List RW} {a : Option Addr} {n c : Nat} (h : Rws w0 a n c l) (hok : ∀ r ∈ l, r.ok) (i : Nat) (w : World) (hi : i < n) (hb0 : Below w0.heap.size w0 w) (hlf : (l.getD i rwz).leaf = true) :
    Calls Tryz.prog 21 #[.slice a n c, .int .i64 (i : Nat)] w (grwPost w0 (.node (l.getD i rwz).bs (l.getD i rwz).val true true .nil) w) := by
  obtain ⟨p, rfl, a3, n3, c3, q0, q1, q2, q3, q4, q5, q6⟩ := h.at_ i (by rw [h.len]; exact hi)
  have hr : (l.getD i rwz).ok := hok _ (by rw [show l.getD i rwz = l[i]'(by rw [h.len]; exact hi) by simp [List.getD, List.getElem?_eq_getElem (show i < l.length by rw [h.len]; exact hi)]]; exact List.getElem_mem _)
  rw [hlf] at q0
  obtain ⟨r1, r2, r3, r4, r5, r6⟩ := hr
  have hn63 : n ≤ 9223372036854775807 := Nat.le_trans h.cap h.capm
  generalize (l.getD i rwz).bs = bs at *
  generalize (l.getD i rwz).val = v at *
  generalize (l.getD i rwz).has = hs0 at *
  obtain ⟨A, hA⟩ : ∃ A, A = p.add (i * 6) := ⟨_, rfl⟩
  have hKx : Hid (∀ wr, Below w0.heap.size w0 wr → wr.cell? A = some (.bool true) ∧ wr.cell? ⟨A.block, A.off + 1, none⟩ = some (.slice a3 n3 c3) ∧ wr.cell? ⟨A.block, A.off + 3, none⟩ = some (.int .u64 v)) := fun wr hw => by
    rw [hA]
    exact ⟨(hw.cell (cell_lt q0)).trans q0, (hw.cell (p := ⟨(p.add (i * 6)).block, _, none⟩) (cell_lt q1)).trans q1, (hw.cell (p := ⟨(p.add (i * 6)).block, _, none⟩) (cell_lt q3)).trans q3⟩
  have HS := Lib.hid q6
  have HB0 := Lib.hid hb0
  have HB1 : Hid (Below w0.heap.size w0 (rnW w)) := hb0.alloc hb0.size _
  have hRB : Hid ((rnW w).heap[w.heap.size]? = some (.cells [.int .i64 0, .slice none 0 0, .bool false, .int .u64 0, .slice none 0 0, .slice none 0 0].toArray rnT (0, 0))) := six_new w _ _ _ _ _ _ rnT
  have hW1 : Hid (Below w.heap.size w (rnW w)) := (Below.refl _ w).alloc (Nat.le_refl _) _
  have hwsz : Hid ((rnW w).heap.size = w.heap.size + 1) := World.size_alloc _ _
  have i0 : (0 : Int) ≤ (i : Int) := by omega
  have i1 : (i : Int) < (n : Int) := by omega
  have i1n : i < n := hi
  have R8 : Hid ((∀ x ∈ bs, x < 256) ∧ 0 ≤ v ∧ v < 18446744073709551616) := ⟨r1, r3, r4⟩
  clear h hok q0 q1 q2 q3 q4 q5 q6 r1 r2 r3 r4 r5 r6 hb0 hlf hi
  obtain ⟨k0, k1, k3⟩ := hKx.out (rnW w) HB1.out
  rw [hA] at k0 k1 k3
  go_enter Tryz.func21, Tryz.ntmps21
  go_upto_region 1 with (fail)
  change Code.wp _ _ _ _ (rnW w)
  generalize hw1 : rnW w = w1 at *
  go_region_held3 (fun w' => w'.cell? ⟨(p.add (i * 6)).block, (p.add (i * 6)).off + 1, none⟩ = some (.slice a3 n3 c3) ∧ w'.cell? ⟨(p.add (i * 6)).block, (p.add (i * 6)).off + 3, none⟩ = some (.int .u64 v)) (first | go_keep) (fail)
  all_goals
    (try simp only [Exit.then, Exit.inBlock])
  have hbx := six_new w1 (.int .i64 1) (.slice a3 n3 c3) (.bool true) (.int .u64 v) (.slice none 0 0) (.slice none 0 0) rnT
  have hBT : Below w1.heap.size w1 (w1.alloc (.cells #[.int .i64 1, .slice a3 n3 c3, .bool true, .int .u64 v, .slice none 0 0, .slice none 0 0] rnT)).drew := (below_al w1 _).drew
  have hb1 : (w1.alloc (.cells #[.int .i64 1, .slice a3 n3 c3, .bool true, .int .u64 v, .slice none 0 0, .slice none 0 0] rnT)).drew.heap[w1.heap.size]? = some (.cells [.int .i64 1, .slice a3 n3 c3, .bool true, .int .u64 v, .slice none 0 0, .slice none 0 0].toArray rnT (0, 0)) := hbx
  have hk := Lib.hid (hKx.out _ (HB1.out.trans (hBT.mono HB1.out.size)))
  have hz := Lib.hid ((hBT.block w.heap.size (by have := hwsz.out; omega)).trans hRB.out)
  have hBT := Lib.hid hBT
  have hb1 := Lib.hid hb1
  have hs1 : Hid (w1.heap.size = w.heap.size + 1) := hwsz.out
  generalize (w1.alloc (.cells #[.int .i64 1, .slice a3 n3 c3, .bool true, .int .u64 v, .slice none 0 0, .slice none 0 0] rnT)).drew = T at *
  obtain ⟨z0, z1, z2, z3, z4, z5, y0, y1, y2, y3, y4, y5⟩ := six_facts hz.out
  obtain ⟨f0, f1, f2, f3, f4, f5, _⟩ := six_facts hb1.out
  obtain ⟨k0, k1, k3⟩ := hk.out
  rw [hA] at k0 k1 k3
  have hfin : Hid (∀ w8, w8 = (((((T.setCell ⟨w.heap.size, 0, none⟩ (.int .i64 1)).setCell ⟨w.heap.size, 1, none⟩ (.slice a3 n3 c3)).setCell ⟨w.heap.size, 2, none⟩ (.bool true)).setCell ⟨w.heap.size, 3, none⟩ (.int .u64 v)).setCell ⟨w.heap.size, 4, none⟩ (.slice none 0 0)).setCell ⟨w.heap.size, 5, none⟩ (.slice none 0 0) →
      (w8.cell? ⟨w.heap.size, 0, none⟩ = some (.int .i64 1) ∧ w8.cell? ⟨w.heap.size, 1, none⟩ = some (.slice a3 n3 c3) ∧ w8.cell? ⟨w.heap.size, 2, none⟩ = some (.bool true) ∧ w8.cell? ⟨w.heap.size, 3, none⟩ = some (.int .u64 v) ∧ w8.cell? ⟨w.heap.size, 4, none⟩ = some (.slice none 0 0) ∧ w8.cell? ⟨w.heap.size, 5, none⟩ = some (.slice none 0 0)) ∧
      grwPost w0 (.node bs v true true .nil) w (.returned (.agg #[.int .i64 1, .slice a3 n3 c3, .bool true, .int .u64 v, .slice none 0 0, .slice none 0 0])) w8) := fun w8 e8 => by
    obtain ⟨x1, x2⟩ := six_fin hz.out _ _ _ _ _ _ w8 e8
    obtain ⟨g0, g1, g2, g3, g4, g5, _⟩ := six_facts x1
    have hwT : Below w.heap.size w T := hW1.out.trans (hBT.out.mono (by have := hs1.out; omega))
    have hBelow : Below w.heap.size w w8 := ⟨x2.os.trans hwT.os, x2.tape.trans hwT.tape, x2.output.trans hwT.output, Nat.le_trans hwT.size x2.size, fun j hj => (x2.same j (Nat.lt_of_lt_of_le hj hwT.size) (by omega)).trans (hwT.block j hj)⟩
    have hBelow0 : Below w0.heap.size w0 w8 := HB0.out.trans (hBelow.mono HB0.out.size)
    have q : SlG w8 (Gn w0 w w8) a3 n3 c3 bs := by
      have q : SlG w0 (fun j => j < w0.heap.size) a3 n3 c3 bs := SlG.of HS.out fun j hj => hj
      exact (q.keep hBelow0.size fun j hj => hBelow0.block j hj).mono fun j hj => ⟨Or.inl hj, Nat.lt_of_lt_of_le hj hBelow0.size⟩
    exact ⟨⟨g0, g1, g2, g3, g4, g5⟩, 1, a3, n3, c3, true, v, none, 0, 0, none, 0, 0, rfl, ⟨a3, n3, c3, none, 0, 0, none, 0, 0, rfl, q, ⟨sl_nil _, fun e => absurd rfl e⟩, rfl, Nat.le_refl _, trivial⟩, hBelow⟩
  clear hbx hz hBT hb1 hk HS HB0 HB1 hRB hW1 hwsz hs1 R8 hKx hw1
  go_wp2_with fail
  obtain ⟨⟨f0, f1, f2, f3, f4, f5⟩, hp⟩ := hfin.out _ rfl
  refine bodyPost_ret (v := .agg #[.int .i64 1, .slice a3 n3 c3, .bool true, .int .u64 v, .slice none 0 0, .slice none 0 0]) (by simp [results, Tryz.results21, go_sem, f0, f1, f2, f3, f4, f5]) rfl hp
end Go.Proofs.YtfhdiimcimafkaaGreatDoor
/- The document's Grow of a node that is no leaf; Grow, whole. -/
namespace Go.Proofs.YtfhdiimcimafkaaGreatDoor
open Go.RowKit
section
variable {w0 w wr w' : World} {nb : Nat} {pv : Value} {hs : Bool} {val : Int}
theorem VG.put2 (h : VG w0 w nb pv hs val [] [] [] (.slice none 0 0) (.slice none 0 0) none none wr) (b : Bool) : VG w0 w nb pv b val [] [] [] (.slice none 0 0) (.slice none 0 0) none none (wr.setCell ⟨nb, 2, none⟩ (.bool b)) where
  since := h.since.setCell (p := ⟨nb, 2, none⟩) h.nbn _
  nbn := h.nbn
  box := by rw [setCell_list _ _ _ _ _ _ h.box, setRow_heap _ _ _ _ _ _ h.box]; rfl
  ob := OwnS.nil _ _ _
  ok := OwnS.nil _ _ _
  n1 := Or.inl rfl
  n2 := Or.inl rfl
  ne1 := by simp
  ne2 := by simp
  ne := fun g e => by cases e
  len := rfl
  six := by simp
  kids := fun i t c h => by simp at h
theorem VG.put3 (h : VG w0 w nb pv hs val [] [] [] (.slice none 0 0) (.slice none 0 0) none none wr) (v : Int) : VG w0 w nb pv hs v [] [] [] (.slice none 0 0) (.slice none 0 0) none none (wr.setCell ⟨nb, 3, none⟩ (.int .u64 v)) where
  since := h.since.setCell (p := ⟨nb, 3, none⟩) h.nbn _
  nbn := h.nbn
  box := by rw [setCell_list _ _ _ _ _ _ h.box, setRow_heap _ _ _ _ _ _ h.box]; rfl
  ob := OwnS.nil _ _ _
  ok := OwnS.nil _ _ _
  n1 := Or.inl rfl
  n2 := Or.inl rfl
  ne1 := by simp
  ne2 := by simp
  ne := fun g e => by cases e
  len := rfl
  six := by simp
  kids := fun i t c h => by simp at h
end
set_option maxHeartbeats 8000000 in
set_option maxRecDepth 100000 in
theorem grw_in {w0 : World} {l : List RW} {a : Option Addr} {n c : Nat} (h : Rws w0 a n c l) (hok : ∀ r ∈ l, r.ok) (hn24 : n ≤ 100000) (f : Nat) (IH : GrowAsk w0 l a n c f) (i : Nat) (w : World) (hi : i < n) (hf : n - i ≤ f + 1) (hb0 : Below w0.heap.size w0 w) (hlf : (l.getD i rwz).leaf = false) :
    Calls Tryz.prog 21 #[.slice a n c, .int .i64 (i : Nat)] w (grwPost w0 (.node (l.getD i rwz).bs (if (l.getD i rwz).has then (l.getD i rwz).val else 0) (l.getD i rwz).has false (ofL ((rowU l i n 256).map fun x => (x.1, gtr (gnAll l) f x.2)))) w) := by
  obtain ⟨p, rfl, a3, n3, c3, q0, q1, q2, q3, q4, q5, q6⟩ := h.at_ i (by rw [h.len]; exact hi)
  have hrow : ∀ j, j < n → (l.getD j rwz).ok := fun j hj => hok _ (by rw [show l.getD j rwz = l[j]'(by rw [h.len]; exact hj) by simp [List.getD, List.getElem?_eq_getElem (show j < l.length by rw [h.len]; exact hj)]]; exact List.getElem_mem _)
  obtain ⟨r1, r2, r3, r4, r5, r6⟩ := hrow i hi
  rw [hlf] at q0
  have hn63 : n ≤ 9223372036854775807 := Nat.le_trans h.cap h.capm
  have hAt : Hid (∀ j, j < n → ∀ wr, Below w0.heap.size w0 wr → wr.cell? ⟨(p.add (j * 6)).block, (p.add (j * 6)).off + 4, none⟩ = some (.int .u8 ((l.getD j rwz).up : Nat)) ∧ wr.cell? ⟨(p.add (j * 6)).block, (p.add (j * 6)).off + 5, none⟩ = some (.int .u8 ((l.getD j rwz).b : Nat)) ∧ (l.getD j rwz).up < 256 ∧ (l.getD j rwz).b < 256) := fun j hj wr hw => by
    obtain ⟨p', e, _, _, _, _, _, _, _, z4, z5, _⟩ := h.at_ j (by rw [h.len]; exact hj)
    obtain rfl : p = p' := by simpa using e
    exact ⟨(hw.cell (p := ⟨(p.add (j * 6)).block, _, none⟩) (cell_lt z4)).trans z4, (hw.cell (p := ⟨(p.add (j * 6)).block, _, none⟩) (cell_lt z5)).trans z5, (hrow j hj).2.2.2.2.1, (hrow j hj).2.2.2.2.2⟩
  generalize (l.getD i rwz).bs = bs at *
  generalize (l.getD i rwz).val = v at *
  generalize (l.getD i rwz).has = hs0 at *
  obtain ⟨val, hval⟩ : ∃ val, val = (if hs0 then v else 0) := ⟨_, rfl⟩
  rw [← hval]
  have Hval := Lib.hid hval
  clear hval
  have hKx : Hid (∀ wr, Below w0.heap.size w0 wr → wr.cell? (p.add (i * 6)) = some (.bool false) ∧ wr.cell? ⟨(p.add (i * 6)).block, (p.add (i * 6)).off + 1, none⟩ = some (.slice a3 n3 c3) ∧ wr.cell? ⟨(p.add (i * 6)).block, (p.add (i * 6)).off + 2, none⟩ = some (.bool hs0) ∧ wr.cell? ⟨(p.add (i * 6)).block, (p.add (i * 6)).off + 3, none⟩ = some (.int .u64 v)) := fun wr hw => by
    exact ⟨(hw.cell (cell_lt q0)).trans q0, (hw.cell (p := ⟨(p.add (i * 6)).block, _, none⟩) (cell_lt q1)).trans q1, (hw.cell (p := ⟨(p.add (i * 6)).block, _, none⟩) (cell_lt q2)).trans q2, (hw.cell (p := ⟨(p.add (i * 6)).block, _, none⟩) (cell_lt q3)).trans q3⟩
  have HPL : Hid ((p.add (i * 6)).block < w0.heap.size) := cell_lt q0
  have HS := Lib.hid q6
  have HB0 := Lib.hid hb0
  have HB1 : Hid (Below w0.heap.size w0 (rnW w)) := hb0.alloc hb0.size _
  have hRB : Hid ((rnW w).heap[w.heap.size]? = some (.cells [.int .i64 0, .slice none 0 0, .bool false, .int .u64 0, .slice none 0 0, .slice none 0 0].toArray rnT (0, 0))) := six_new w _ _ _ _ _ _ rnT
  have HW1 : Hid (Below w.heap.size w (rnW w)) := (Below.refl _ w).alloc (Nat.le_refl _) _
  have hwsz : Hid ((rnW w).heap.size = w.heap.size + 1) := World.size_alloc _ _
  have i0 : (0 : Int) ≤ (i : Int) := by omega
  have i1 : (i : Int) < (n : Int) := by omega
  have i1n : i < n := hi
  have R8 : Hid ((∀ x ∈ bs, x < 256) ∧ 0 ≤ v ∧ v < 18446744073709551616) := ⟨r1, r3, r4⟩
  have HIH := Lib.hid IH
  have Hf := Lib.hid hf
  clear h hok hrow q0 q1 q2 q3 q4 q5 q6 r1 r2 r3 r4 r5 r6 hb0 hlf hi IH hf
  obtain ⟨k0, k1, k2, k3⟩ := hKx.out (rnW w) HB1.out
  go_enter Tryz.func21, Tryz.ntmps21
  go_upto_region 1 with (fail)
  change Code.wp _ _ _ _ (rnW w)
  generalize hw1 : rnW w = w1 at *
  go_region_held3 (fun w' => w'.cell? ⟨(p.add (i * 6)).block, (p.add (i * 6)).off + 1, none⟩ = some (.slice a3 n3 c3) ∧ w'.cell? ⟨(p.add (i * 6)).block, (p.add (i * 6)).off + 3, none⟩ = some (.int .u64 v)) (first | go_keep) (fail)
  all_goals
    (try simp only [Exit.then, Exit.inBlock])
  have hV0 := ((VG.start (w0 := w0) (Below.refl w1.heap.size w1) (.slice a3 n3 c3) true v).below (Below.refl _ _).drew)
  generalize (w1.alloc (.cells #[.int .i64 1, .slice a3 n3 c3, .bool true, .int .u64 v, .slice none 0 0, .slice none 0 0] rnT)).drew = T at *
  generalize hnn : w1.heap.size = nn at hV0 ⊢
  have hnn := Lib.hid hnn
  have HV0 := Lib.hid hV0
  have hkT := Lib.hid (hKx.out T (HB1.out.trans (hV0.since.mono HB1.out.size)))
  obtain ⟨k0, k1, k2, k3⟩ := hkT.out
  clear hV0 hw1
  obtain ⟨y0, y1, y2, y3, y4, y5, y6⟩ := HV0.out.facts
  have y62 := y6 2
  have hpn : ¬ (p.add (i * 6)).block = nn := by have := HV0.out.nbn; have := HB1.out.size; have := HPL.out; omega
  have hpn2 : ¬ nn = (p.add (i * 6)).block := fun e => hpn e.symm
  clear y6
  have hV1 := HV0.out.put2 hs0
  go_upto_if 34 with fail
  generalize T.setCell ⟨nn, 2, none⟩ (.bool hs0) = T1 at *
  have HV1 := Lib.hid hV1
  clear hV1 y0 y1 y2 y3 y4 y5 y62 k0 k1 k2 k3
  go_cut [] from 35 to 36 (fun w' => VG w0 w1 nn (.slice a3 n3 c3) hs0 val [] [] [] (.slice none 0 0) (.slice none 0 0) none none w')
  case first =>
    obtain ⟨y0, y1, y2, y3, y4, y5, y6⟩ := HV1.out.facts
    have y63 := y6 3
    clear y6
    cases hs0 with
    | true =>
      go_wp2_with fail
      go_meet
      rw [show val = v by rw [Hval.out]; rfl]
      exact HV1.out
    | false =>
      have hP := Lib.hid (HV1.out.put3 0)
      go_wp2_with fail
      go_meet
      rw [show val = 0 by rw [Hval.out]; rfl]
      exact hP.out
  case rest =>
    have HV := Lib.hid hcut
    clear hcut HV0 HV1 hkT hKx
    clear hpn hpn2 k0 k1 k2 k3
    have h00 : Hid (∀ x : Int, x = ((lastJ l i 0 (i + 1) : Nat) : Int) → x = 0) := fun x e => by rw [e, lastJ_low l i 0 (i + 1) (Nat.le_refl _)]; rfl
    have hwi : IntKind.i64.wrap (((i : Nat) : Int) + 1) = ((i + 1 : Nat) : Int) := by rw [show ((i : Nat) : Int) + 1 = ((i + 1 : Nat) : Int) by omega]; exact IntWalk.i64_in _ (by omega)
    clear h00
    go_wp2_with fail
    go_loopw [6] (fun v6 wr => ∃ (b : Nat) (L : List (Nat × Tr)) (cs : List (List Value)) (bv kv : Value) (bo1 bo2 : Option Nat), v6 = .int .i64 (b : Nat) ∧ b ≤ 256 ∧ Hid (L = (rowU l i n b).map fun x => (x.1, gtr (gnAll l) f x.2)) ∧ Hid (VG w0 w1 nn (.slice a3 n3 c3) hs0 val (L.map (·.1)) (L.map (·.2)) cs bv kv bo1 bo2 wr)) (fun v6 _ => (256 - intOf v6).toNat)
    case atStart => exact ⟨0, [], [], _, _, none, none, rfl, by omega, rfl, HV⟩
    case round =>
      clear HV
      obtain ⟨b, L, cs, bv, kv, bo1, bo2, rfl, hb, HL, HV⟩ := hrel
      obtain ⟨wo, rfl⟩ : ∃ wo : World, wo = wr := ⟨_, rfl⟩
      have Bw := Lib.hid (HB1.out.trans (HV.out.since.mono HB1.out.size))
      have hLB : Hid ((∀ x ∈ L.map (·.1), x < 256) ∧ (L.map (·.1)).length ≤ 256) := by
        have e : L.map (·.1) = (rowU l i n b).map (·.1) := by rw [HL.out, List.map_map]; rfl
        have h1 : ∀ x ∈ L.map (·.1), x < 256 := fun x hx => by
          rw [e] at hx
          obtain ⟨y, hy, rfl⟩ := List.mem_map.1 hx
          have := (rowU_mem.1 hy).1
          omega
        refine ⟨h1, ups256 ?_ h1⟩
        rw [e, List.pairwise_map]
        exact rowU_srt l i n b
      by_cases hbl : b < 256
      · have j1 : (b : Int) < 256 := by omega
        have hwb : IntKind.i64.wrap (((b : Nat) : Int) + 1) = ((b + 1 : Nat) : Int) := by rw [show ((b : Nat) : Int) + 1 = ((b + 1 : Nat) : Int) by omega]; exact IntWalk.i64_in _ (by omega)
        have h0z : Hid ((0 : Nat) = lastJ l i b (i + 1)) := (lastJ_low l i b (i + 1) (Nat.le_refl _)).symm
        go_wp2_with fail
        go_loopw [7, 8] (fun v7 v8 wr => ∃ (q j : Nat), v7 = .int .i64 (q : Nat) ∧ v8 = .int .i64 (j : Nat) ∧ i + 1 ≤ j ∧ j ≤ n ∧ Hid (q = lastJ l i b j) ∧ Hid (wo = wr)) (fun _ v8 _ => (n - intOf v8).toNat)
        case atStart => exact ⟨0, i + 1, rfl, (by first | rfl | go_num), by omega, by omega, h0z, rfl⟩
        case round =>
          clear h0z
          obtain ⟨q, j, rfl, rfl, hj1, hj2, hq, hwd⟩ := hrel
          obtain rfl := hwd.out
          by_cases hjn : j < n
          · have m1 : (j : Int) < (n : Int) := by omega
            have m0 : (0 : Int) ≤ (j : Int) := by omega
            have mp : (0 : Int) < (j : Int) := by omega
            have mz : ((j : Int) == 0) = false := by rw [beq_eq_false_iff_ne]; omega
            obtain ⟨y4, y5, hup, hbj⟩ := hAt.out j hjn wo Bw.out
            obtain ⟨up, hupe⟩ : ∃ up, up = (l.getD j rwz).up := ⟨_, rfl⟩
            obtain ⟨bj, hbje⟩ : ∃ bj, bj = (l.getD j rwz).b := ⟨_, rfl⟩
            rw [← hupe] at y4 hup
            rw [← hbje] at y5 hbj
            have hbj2 : (bj : Int) < 256 := by omega
            have hbj0 : (0 : Int) ≤ (bj : Int) := by omega
            have hup2 : (up : Int) < 256 := by omega
            have hup0 : (0 : Int) ≤ (up : Int) := by omega
            obtain ⟨r, hr⟩ : ∃ r, r = up % j := ⟨_, rfl⟩
            have hmi : ((up : Nat) : Int) % ((j : Nat) : Int) = (r : Nat) := by rw [hr]; exact (Int.natCast_emod _ _).symm
            have hwj : IntKind.i64.wrap (((j : Nat) : Int) + 1) = ((j + 1 : Nat) : Int) := by rw [show ((j : Nat) : Int) + 1 = ((j + 1 : Nat) : Int) by omega]; exact IntWalk.i64_in _ (by omega)
            by_cases hri : r = i
            · have e1 : ((r : Int) == (i : Int)) = true := by rw [beq_iff_eq, hri]
              by_cases hbb : bj = b
              · have e2 : ((bj : Int) == (b : Int)) = true := by rw [beq_iff_eq, hbb]
                have hN : Hid (j = lastJ l i b (j + 1)) := by
                  show _ = _
                  rw [lastJ, if_pos ⟨by omega, by rw [← hupe, ← hr, hri], by rw [← hbje, hbb]⟩]
                clear hupe hbje hr hri hbb
                go_wp2_with fail
                go_roundw
                case rel => exact ⟨j, j + 1, rfl, (by first | rfl | go_num), by omega, by omega, hN, (by first | exact rfl | exact trivial)⟩
                case measure => (simp [intOf]) <;> omega
              · have e2 : ((bj : Int) == (b : Int)) = false := by rw [beq_eq_false_iff_ne]; omega
                have hN : Hid (q = lastJ l i b (j + 1)) := by
                  show _ = _
                  rw [lastJ, if_neg (fun z => hbb (by rw [hbje]; exact z.2.2))]
                  exact hq.out
                clear hupe hbje hr hri hbb
                go_wp2_with fail
                go_roundw
                case rel => exact ⟨q, j + 1, rfl, (by first | rfl | go_num), by omega, by omega, hN, (by first | exact rfl | exact trivial)⟩
                case measure => (simp [intOf]) <;> omega
            · have e1 : ((r : Int) == (i : Int)) = false := by rw [beq_eq_false_iff_ne]; omega
              have hN : Hid (q = lastJ l i b (j + 1)) := by
                show _ = _
                rw [lastJ, if_neg (fun z => hri (by rw [hr, hupe]; exact z.2.1))]
                exact hq.out
              clear hupe hbje hr hri
              go_wp2_with fail
              go_roundw
              case rel => exact ⟨q, j + 1, rfl, (by first | rfl | go_num), by omega, by omega, hN, (by first | exact rfl | exact trivial)⟩
              case measure => (simp [intOf]) <;> omega
          · have m1 : ¬ (j : Int) < (n : Int) := by omega
            obtain rfl : j = n := by omega
            have hsu := rowU_succ l i j b
            rw [← hq.out] at hsu
            by_cases hq0 : q = 0
            · have hq2 : ¬ (0 : Int) < (q : Int) := by omega
              have HL2 : Hid (L = (rowU l i j (b + 1)).map fun x => (x.1, gtr (gnAll l) f x.2)) := by
                show _ = _
                rw [hsu, if_neg (by omega), List.append_nil]
                exact HL.out
              clear hsu hq0 hq
              go_wp2_with fail
              go_roundw
              case rel => exact ⟨b + 1, L, cs, bv, kv, bo1, bo2, (by first | rfl | go_num), by omega, HL2, HV⟩
              case measure => (simp [intOf]) <;> omega
            · have hq2 : (0 : Int) < (q : Int) := by omega
              have hqn : i < q ∧ q < j := by
                have := lastJ_lt l i b j (by rw [← hq.out]; omega)
                rw [← hq.out] at this
                exact this
              obtain ⟨t, ht⟩ : ∃ t, t = gtr (gnAll l) f q := ⟨_, rfl⟩
              have HL2 : Hid (L ++ [(b, t)] = (rowU l i j (b + 1)).map fun x => (x.1, gtr (gnAll l) f x.2)) := by
                show _ = _
                rw [hsu, if_pos (by omega), List.map_append, ht, HL.out]
                rfl
              have hGr : Hid (∀ w', Below w0.heap.size w0 w' → Calls Tryz.prog 21 #[.slice (some p) j c, .int .i64 (q : Nat)] w' (grwPost w0 t w')) := fun w' hw' => by
                rw [ht]
                exact HIH.out q w' hqn.2 (by have := Hf.out; omega) hw'
              have h256b := Lib.hid hLB.out.2
              have h256k : Hid ((L.map (·.2)).length ≤ 256) := by have := hLB.out.2; show _ ≤ _; rw [List.length_map] at this ⊢; exact this
              have hwc : IntKind.u8.wrap ((b : Nat) : Int) = ((b : Nat) : Int) := by
                show ((b : Nat) : Int) % 256 = _
                omega
              clear hsu hq ht hq0
              obtain ⟨v0, v1_, v2, v3, v4, v5, v6⟩ := HV.out.facts
              have hone : Hid (∀ u ∈ ([.int .u8 (b : Nat)] : List Value), u.oneCell' = true) := by intro u hu; simp only [List.mem_singleton] at hu; subst hu; rfl
              have HVX := Lib.hid (HV.out.below ((Below.refl _ wo).alloc (Nat.le_refl _) (.cells #[.int .u8 (b : Nat)] 5)))
              have hnews : Hid (∀ j u, ([.int .u8 (b : Nat)] : List Value)[j]? = some u → (wo.alloc (.cells #[.int .u8 (b : Nat)] 5)).cell? ((⟨wo.heap.size, 0, none⟩ : Addr).add j) = some u) := news_alloc wo [.int .u8 (b : Nat)] 5
              obtain ⟨M, hM⟩ : ∃ M, M = L.length := ⟨_, rfl⟩
              have hL1 : Hid ((L.map (·.1)).length = M) := by show _ = _; rw [List.length_map, hM]
              have hL2 : Hid ((L.map (·.2)).length = M) := by show _ = _; rw [List.length_map, hM]
              have hob : Hid (OwnS 1 u8T (wo.alloc (.cells #[.int .u8 (b : Nat)] 5)) bv M (bV (L.map (·.1))) bo1) := by rw [← hL1.out]; exact HVX.out.ob
              have hM256 : Hid (M ≤ 256) := by rw [← hL1.out]; exact h256b.out
              clear v6 hM h256b h256k
              go_upto_region 18 with (at_builtin; go_loud (refine wpList_append_s rfl (.tmp 72) (.tmp 75) 38 rfl u8T _ 1 1 Tryz.underlying38 cloneB_info rfl (by omega) bv rfl M (bV (L.map (·.1))) bo1 hob.out ⟨wo.heap.size, 0, none⟩ 1 1 [.int .u8 (b : Nat)] rfl rfl hnews.out hone.out (by have := hM256.out; unfold maxLen; omega) (by have := hM256.out; omega) ?_); intro vB w5 bo1' HO HM HN; obtain ⟨aB, cB, hvB, _⟩ := HO.out.len; subst hvB; obtain ⟨s4, s5, f4, f5⟩ := HVX.out.boxAt HM.out HVX.out.ne1; have HVb := Lib.hid (HVX.out.byte b (by rw [hL1.out]; exact HO.out) HM.out HN.out); clear HO HM HN)
              · generalize w5.setCell ⟨nn, 4, none⟩ (.slice aB (M + 1) cB) = w6 at *
                clear s4 s5 f4 f5 HV HVX hob hnews hone Bw v0 v1_ v2 v3 v4 v5
                have Bd := Lib.hid (HB1.out.trans (HVb.out.since.mono HB1.out.size))
                have hBld := Lib.hid (hGr.out w6.drew Bd.out.drew)
                have hSz : Hid (w0.heap.size ≤ w1.heap.size) := HB1.out.size
                obtain ⟨v0, v1_, v2, v3, v4, v5, v6⟩ := HVb.out.facts
                clear v6
                go_region_law (first
                  | (have hk9 := hok.out; refine step_rn rfl (.tmp 79) (.tmp 83) rfl kv rfl M cs.flatten bo2 hok.out ⟨w7.heap.size, 0, none⟩ 1 [.int .i64 kd, .slice pa2 pn2 pc2, .bool hs2, .int .u64 vv2, .slice ba2 bn2 bc2, .slice ka2 kn2 kc2] rfl rfl hnews6.out hone6.out hM256.out ?_; intro vK w8 bo2' HO HM HN; obtain ⟨aK, cK, hvK, _⟩ := HO.out.len; subst hvK; obtain ⟨s4, s5, f4, f5⟩ := HVY.out.boxAt HM.out HVY.out.ne2; have HVk := Lib.hid (HVY.out.kid t [.int .i64 kd, .slice pa2 pn2 pc2, .bool hs2, .int .u64 vv2, .slice ba2 bn2 bc2, .slice ka2 kn2 kc2] rfl hR8.out (by rw [hL2.out]; exact HO.out) HM.out HN.out); clear HO HM HN)
                  | (go_simp; go_at_call 21; refine hBld.out.mono ?_; rintro e w7 ⟨kd, pa2, pn2, pc2, hs2, vv2, ba2, bn2, bc2, ka2, kn2, kc2, rfl, hRT, hB7⟩
                     have HV7 := Lib.hid ((HVb.out.drewN 1).below hB7)
                     have hA : Hid (Below w7.heap.size w7 (w7.alloc (.cells #[.int .i64 kd, .slice pa2 pn2 pc2, .bool hs2, .int .u64 vv2, .slice ba2 bn2 bc2, .slice ka2 kn2 kc2] rnT))) := (Below.refl _ w7).alloc (Nat.le_refl _) _
                     have HVY := Lib.hid (HV7.out.below hA.out)
                     have hR8 : Hid (RT (w7.alloc (.cells #[.int .i64 kd, .slice pa2 pn2 pc2, .bool hs2, .int .u64 vv2, .slice ba2 bn2 bc2, .slice ka2 kn2 kc2] rnT)) (Gd w0 w1 nn bo1' bo2 (w7.alloc (.cells #[.int .i64 kd, .slice pa2 pn2 pc2, .bool hs2, .int .u64 vv2, .slice ba2 bn2 bc2, .slice ka2 kn2 kc2] rnT))) t none 0 [.int .i64 kd, .slice pa2 pn2 pc2, .bool hs2, .int .u64 vv2, .slice ba2 bn2 bc2, .slice ka2 kn2 kc2]) := (hRT.keep hA.out.size (fun j hj => hA.out.block j hj.2)).mono fun j q => (HVb.out.drewN 1).gd hSz.out (Nat.le_trans hB7.size hA.out.size) j ⟨q.1, Nat.lt_of_lt_of_le q.2 hA.out.size⟩
                     have hnews6 := Lib.hid (news_alloc w7 [.int .i64 kd, .slice pa2 pn2 pc2, .bool hs2, .int .u64 vv2, .slice ba2 bn2 bc2, .slice ka2 kn2 kc2] rnT)
                     have hone6 : Hid (∀ u ∈ ([.int .i64 kd, .slice pa2 pn2 pc2, .bool hs2, .int .u64 vv2, .slice ba2 bn2 bc2, .slice ka2 kn2 kc2] : List Value), u.oneCell' = true) := by intro u hu; simp only [List.mem_cons, List.not_mem_nil, or_false] at hu; rcases hu with rfl | rfl | rfl | rfl | rfl | rfl <;> rfl
                     have hok : Hid (OwnS 6 rnT (w7.alloc (.cells #[.int .i64 kd, .slice pa2 pn2 pc2, .bool hs2, .int .u64 vv2, .slice ba2 bn2 bc2, .slice ka2 kn2 kc2] rnT)) kv M cs.flatten bo2) := by rw [← hL2.out]; exact HVY.out.ok
                     have v5b := HV7.out.facts.2.2.2.2.2.1
                     have v5A : ∀ o, (w7.alloc o).cell? ⟨nn, 5, none⟩ = some kv := fun o => (HV7.out.below ((Below.refl _ w7).alloc (Nat.le_refl _) o)).facts.2.2.2.2.2.1
                     clear hRT hB7))
                all_goals (
                  have HVk2 : Hid (VG w0 w1 nn (.slice a3 n3 c3) hs0 val ((L ++ [(b, t)]).map (·.1)) ((L ++ [(b, t)]).map (·.2)) (cs ++ [[.int .i64 kd, .slice pa2 pn2 pc2, .bool hs2, .int .u64 vv2, .slice ba2 bn2 bc2, .slice ka2 kn2 kc2]]) (.slice aB (M + 1) cB) (.slice aK (M + 1) cK) bo1' bo2' (w8.setCell ⟨nn, 5, none⟩ (.slice aK (M + 1) cK))) := by rw [List.map_append, List.map_append]; exact HVk.out
                  (try simp only [Exit.then, Exit.inBlock])
                  go_wp2_with fail
                  go_roundw
                  case rel => exact ⟨b + 1, L ++ [(b, t)], _, _, _, bo1', bo2', (by first | rfl | go_num), by omega, HL2, HVk2⟩
                  case measure => (simp [intOf]) <;> omega)
      · have j1 : ¬ (b : Int) < 256 := by omega
        obtain rfl : b = 256 := by omega
        obtain ⟨ba, bc, rfl, _⟩ := HV.out.ob.len
        obtain ⟨ka, kc, rfl, _⟩ := HV.out.ok.len
        have hE := Lib.hid (grw_end HV.out HS.out HB0.out HW1.out hwsz.out hRB.out hLB.out.1)
        have hL256 : L.length ≤ 256 := by have := hLB.out.2; rwa [List.length_map] at this
        have hKind : Hid (∀ wr, Calls Tryz.prog 41 #[.int .i64 (L.length : Nat)] wr fun e w' => e = .returned (.int .i64 (kindOf L.length : Nat)) ∧ wr = w') := fun wr => by
          have := refKind_any (L.length : Nat) wr
          rwa [kindZ_nat _ hL256] at this
        obtain ⟨v0, v1_, v2, v3, v4, v5, v6⟩ := HV.out.facts
        have v60 := v6 0
        rw [List.length_map] at v5
        rw [List.length_map, List.length_map] at hE
        clear v6 HV HIH
        go_upto_region 20 with (go_at_call 41; refine (hKind.out _).mono ?_; rintro e w7 ⟨rfl, rfl⟩)
        obtain ⟨T, hT⟩ : ∃ T, T = wo.setCell ⟨nn, 0, none⟩ (.int .i64 (kindOf L.length : Nat)) := ⟨_, rfl⟩
        obtain ⟨yn, yr, hfin⟩ := hE.out T hT
        rw [← hT]
        obtain ⟨xa0, xa1, xa2, xa3, xa4, xa5, _⟩ := six_facts yn
        obtain ⟨xb0, xb1, xb2, xb3, xb4, xb5, g0, g1, g2, g3, g4, g5⟩ := six_facts yr
        have hfin := Lib.hid hfin
        clear hT yn yr hE
        go_wp2_with fail
        obtain ⟨⟨f0, f1, f2, f3, f4, f5⟩, hp⟩ := hfin.out _ rfl
        refine bodyPost_ret (v := .agg #[.int .i64 (kindOf L.length : Nat), .slice a3 n3 c3, .bool hs0, .int .u64 val, .slice ba L.length bc, .slice ka L.length kc]) (by simp [results, Tryz.results21, go_sem, f0, f1, f2, f3, f4, f5]) rfl (by rw [← HL.out]; exact hp)
/-- Grow, at any told node -/
theorem grw_any {w0 : World} {l : List RW} {a : Option Addr} {n c : Nat} (h : Rws w0 a n c l) (hok : ∀ r ∈ l, r.ok) (hn24 : n ≤ 100000) : ∀ f, GrowAsk w0 l a n c f
  | 0 => fun i w hi hf => absurd hf (by omega)
  | f + 1 => fun i w hi hf hb => by
    have hil : i < l.length := by rw [h.len]; exact hi
    rw [gtr_at hok hil f]
    cases hlf : (l.getD i rwz).leaf with
    | true =>
      rw [if_pos rfl]
      exact grw_leaf h hok i w hi hb hlf
    | false =>
      rw [if_neg (by simp), h.len]
      exact grw_in h hok hn24 f (grw_any h hok hn24 f) i w hi hf hb hlf
end Go.Proofs.YtfhdiimcimafkaaGreatDoor
/- law CanonRaws: the walk. -/
namespace Go.Proofs.YtfhdiimcimafkaaGreatDoor
open Go.RowKit
/-- what the law asks of the told tree, in every later world -/
structure RaS (s : ByteArray) (f : Bool) (l : PL) (d : Nat) (w : World) (v : Value) : Prop where
  shape : ∀ X, Below w.heap.size w X → Calls Tryz.prog 15 #[v] X (belowPost (.string s) X)
  list : ∀ X, Below w.heap.size w X → Calls Tryz.prog 19 #[v] X (prsPost l X)
  depth : ∀ X, Below w.heap.size w X → Calls Tryz.prog 17 #[v] X (belowPost (.int .i64 (d : Nat)) X)
  count : ∀ X, Below w.heap.size w X → Calls Tryz.prog 18 #[v] X (belowPost (.int .i64 (l.length : Nat)) X)
  fine : ∀ X, Below w.heap.size w X → Calls Tryz.prog 16 #[v] X (belowPost (.bool f) X)
/-- what it asks of the document's -/
structure RdS (s : ByteArray) (f : Bool) (l : PL) (d : Nat) (w : World) (v : Value) : Prop where
  shape : ∀ X, Below w.heap.size w X → Calls Tryz.prog 23 #[v] X (belowPost (.string s) X)
  list : ∀ X, Below w.heap.size w X → Calls Tryz.prog 22 #[v] X (prsPost l X)
  depth : ∀ X, Below w.heap.size w X → Calls Tryz.prog 25 #[v] X (belowPost (.int .i64 (d : Nat)) X)
  fine : ∀ X, Below w.heap.size w X → Calls Tryz.prog 26 #[v] X (belowPost (.bool f) X)
/-- nobody's tree -/
theorem ras_nil {w : World} (hP : PTab w) : RaS ⟨#[46]⟩ true [] 0 w (.pointer none) ∧ ∀ X, Below w.heap.size w X → Calls Tryz.prog 12 #[.pointer none] X fun e w' => ∃ a c, e = .returned (.slice a 0 c) ∧ Below X.heap.size X w' := by
  have hQ : ∀ X : World, StoreP NoB X X [] := fun X => StoreP.nil NoB (Mod.refl NoB X)
  have hT : TreeV [] .nil (.pointer none) := Or.inl ⟨rfl, rfl⟩
  refine ⟨⟨fun X hX => ?_, fun X hX => ?_, fun X hX => ?_, fun X hX => ?_, fun X hX => ?_⟩, fun X hX => ?_⟩
  · exact canon_shape (t := .nil) (hP.below hX) (hQ X) hT trivial (Nat.zero_le _) (Nat.zero_le _)
  · exact list_any (t := .nil) (hQ X) hT trivial (Nat.zero_le _) (Nat.zero_le _)
  · exact depth_any 1000 (by omega) .nil (Nat.zero_le _) (hQ X) hT trivial
  · exact count_any (t := .nil) (hQ X) hT trivial (Nat.zero_le _) (Nat.zero_le _)
  · exact fine_any (t := .nil) (hQ X) hT trivial (Nat.zero_le _) (Nat.zero_le _)
  · exact (pts_any (t := .nil) (hQ X) hT trivial (Nat.zero_le _) (Nat.zero_le _)).mono fun e w' ⟨a, c, q1, _, q2⟩ => ⟨a, c, q1, q2⟩
/-- the told tree, its numbers, and the document's of the same tree -/
theorem raws_rd {w w1 : World} {par : Nat → Nat} {v0 : Value} {n : Nat} {G : List GN} {P : List NP} {I N : List Nat} {Z : Nat → Prop} {bo : Option Nat} {k : Nat} (hP : PTab w) (h0 : 0 < n) (h24 : n ≤ 24) (h : RwL w par v0 n G w1 P I N Z bo) (hk : ptv N 0 = .pointer (some ⟨k, 0, none⟩)) :
    ∃ s f l d, Below w.heap.size w w1 ∧ RaS s f l d w1 (.pointer (some ⟨k, 0, none⟩)) ∧ l.length ≤ 2000 ∧
      ∀ (X : World) (kd : Int) (pa : Option Addr) (pn pc : Nat) (hs : Bool) (v : Int) (ba : Option Addr) (bn bc : Nat) (ka : Option Addr) (kn kc : Nat) (Gd : Nat → Prop), (∀ j, Gd j → j < X.heap.size) → RT X Gd (gtr G n 0) none 0 [.int .i64 kd, .slice pa pn pc, .bool hs, .int .u64 v, .slice ba bn bc, .slice ka kn kc] → RdS s f l d X (.agg #[.int .i64 kd, .slice pa pn pc, .bool hs, .int .u64 v, .slice ba bn bc, .slice ka kn kc]) := by
  have hI := raws_tree h.rs h.ok n 0 (by rw [h.len]; omega) (by rw [h.len]; exact h0)
  have hN : IsN (gtr G n 0) := gtr_isN h0 (by rw [h.len]; exact h0)
  have hO : TOk (gtr G n 0) := gtr_ok h.ok n 0 (by rw [h.len]; omega)
  have hW : tway (gtr G n 0) ≤ 7224 := by have := gtr_way h.ok n 0; omega
  have hS : tsz (gtr G n 0) ≤ 576 := by
    have := gtr_sz h.ok n [0] (by simp) (by simp [h.len]; exact h0)
    simp only [List.map_cons, List.map_nil, sumN, List.foldr_cons, List.foldr_nil, h.len] at this
    have h2 : n * n ≤ 24 * 24 := Nat.mul_le_mul h24 h24
    omega
  rw [hk] at hI
  generalize gtr G n 0 = T at *
  have hB := h.st.toP.below_
  have hT : TreeV P T (.pointer (some ⟨k, 0, none⟩)) := Or.inr ⟨hN, hI⟩
  have hL := tl_sz T
  have hD : tdep T ≤ 7225 := by have := (dep_way T hO).1 hN; omega
  have hsl : (shp T).length ≤ 40000000 := by
    have h := shp_len 7224 T hO hW
    have hc : (chain T).length = 0 := by cases T <;> first | rfl | exact hN.elim
    have : tsz T * (2 * 7224 + 900) ≤ 576 * (2 * 7224 + 900) := Nat.mul_le_mul_right _ hS
    omega
  have hts := tsay_of (hP.below hB) h.st.toP hT hO hW (by omega) (Or.inr hN)
  have hf : canB T = fineB T := by
    have h1 := fine_can T [] hO (by simp; omega)
    have h2 := canB_iff T
    have h3 : fineB T = true ↔ Can T := h1
    cases e1 : canB T <;> cases e2 : fineB T <;> simp [e1, e2] at h2 h3 ⊢
    · exact h2 h3
    · exact h3 h2
  refine ⟨_, _, tl T, tdep T, hB, ⟨hts.shape, fun X hX => list_any (h.st.toP.below hX) hT hO (by omega) (by omega), fun X hX => depth_any 10000 (by omega) T (by omega) (h.st.toP.below hX) hT hO, fun X hX => count_any (h.st.toP.below hX) hT hO (by omega) (by omega), hts.fine⟩, by omega, fun X kd pa pn pc hs v ba bn bc ka kn kc Gd hG hR => ?_⟩
  have hshT : shpT T = shp T := by cases T <;> first | rfl | exact hN.elim
  rw [hshT]
  cases T with
  | nil => exact hN.elim
  | kid => exact hN.elim
  | node bs v' has leaf ks =>
    have hK : ∀ Y, Below X.heap.size X Y → RT Y Gd (.node bs v' has leaf ks) none 0 [.int .i64 kd, .slice pa pn pc, .bool hs, .int .u64 v, .slice ba bn bc, .slice ka kn kc] ∧ ∀ j, Gd j → j < Y.heap.size := fun Y hY => ⟨hR.keep hY.size fun j hj => hY.block j (hG j hj), fun j hj => Nat.lt_of_lt_of_le (hG j hj) hY.size⟩
    refine ⟨fun Y hY => ?_, fun Y hY => ?_, fun Y hY => ?_, fun Y hY => ?_⟩
    · exact sp_any 10000 bs v' has leaf ks _ (by omega) (hK Y hY).1 (hK Y hY).2 hO (by omega) hsl
    · exact ref_list bs v' has leaf ks (by omega) (hK Y hY).1 (hK Y hY).2 hO (by omega) (by omega)
    · exact dp_any 10000 bs v' has leaf ks _ (by omega) (hK Y hY).1 (hK Y hY).2 hO (by omega)
    · rw [← hf]
      exact fn_any 10000 bs v' has leaf ks _ (by omega) (hK Y hY).1 (hK Y hY).2 hO (by omega)
set_option maxHeartbeats 8000000 in
set_option maxRecDepth 100000 in
theorem law_rawsd (w : World) (a : Option Addr) (n c : Nat) (l : List RW) (h : Rws w a n c l) (h8 : ∀ r ∈ l, r.ok8) (hP : PTab w) :
    Calls Tryz.prog 4 #[.slice a n c] w (belowPost (.bool true) w) := by
  have H := Lib.hid h
  have hl := Lib.hid h.len
  have H8 := Lib.hid h8
  have HP := Lib.hid hP
  have hn63 : (n : Int) ≤ 9223372036854775807 := by have := h.cap; have := h.capm; unfold maxLen at *; omega
  have hB0 : Hid (Below w.heap.size w w) := Below.refl _ w
  have hAl : Hid (∀ X, Below w.heap.size w X → Calls Tryz.prog 8 #[] X (belowPost (.bool true) X)) := fun X hX => alive13 X (hP.below hX)
  have hNil := Lib.hid (ras_nil hP)
  clear h h8 hP
  by_cases hbad : n = 0 ∨ 24 < n
  · have hj : (n : Int) = 0 ∧ ((n : Int) == 0) = true ∨ (((n : Int) == 0) = false ∧ (24 : Int) < (n : Int)) := by
      by_cases e : n = 0
      · exact Or.inl ⟨by omega, by rw [beq_iff_eq]; omega⟩
      · exact Or.inr ⟨by rw [beq_eq_false_iff_ne]; omega, by omega⟩
    clear hbad
    rcases hj with ⟨j0, j1⟩ | ⟨j0, j1⟩
    all_goals (
      go_enter Tryz.func4, Tryz.ntmps4
      go_wp2_with (first
        | (have g0 := B6; go_at_call 8; refine (hAl.out _ B6.out).mono ?_; rintro e w7 ⟨rfl, z⟩; have B7 := Lib.hid (B6.out.trans (z.mono B6.out.size)); clear z)
        | (have g0 := B5; go_at_call 12; refine (hNil.out.2 _ B5.out).mono ?_; rintro e w7 ⟨pa, pc, rfl, z⟩; have B6 := Lib.hid (B5.out.trans (z.mono B5.out.size)); clear z)
        | (have g0 := B4; go_at_call 19; refine (hNil.out.1.list _ B4.out).mono ?_; rintro e w7 ⟨pa, pc, rfl, _, z⟩; have B5 := Lib.hid (B4.out.trans (z.mono B4.out.size)); clear z)
        | (have g0 := B3; go_at_call 18; refine (hNil.out.1.count _ B3.out).mono ?_; rintro e w7 ⟨rfl, z⟩; have B4 := Lib.hid (B3.out.trans (z.mono B3.out.size)); clear z)
        | (have g0 := B2; go_at_call 17; refine (hNil.out.1.depth _ B2.out).mono ?_; rintro e w7 ⟨rfl, z⟩; have B3 := Lib.hid (B2.out.trans (z.mono B2.out.size)); clear z)
        | (have g0 := B1; go_at_call 16; refine (hNil.out.1.fine _ B1.out).mono ?_; rintro e w7 ⟨rfl, z⟩; have B2 := Lib.hid (B1.out.trans (z.mono B1.out.size)); clear z)
        | (go_at_call 15; refine (hNil.out.1.shape _ hB0.out).mono ?_; rintro e w7 ⟨rfl, z⟩; have B1 := Lib.hid z; clear z))
      go_ret
      exact ⟨rfl, B7.out⟩)
  · have j0 : ((n : Int) == 0) = false := by rw [beq_eq_false_iff_ne]; omega
    have j1 : ¬ (24 : Int) < (n : Int) := by omega
    have h0n : Hid (0 < n ∧ n ≤ 24) := by show _ ∧ _; omega
    have hn24 : n ≤ 24 := h0n.out.2
    clear hbad hNil
    go_enter Tryz.func4, Tryz.ntmps4
    go_wp2_with fail
    go_loopw [38] (fun v19 wr => ∃ i : Nat, v19 = .int .i64 (i : Nat) ∧ i ≤ n ∧ Hid (∀ j, j < i → (l.getD j rw0).bs.length ≤ 300) ∧ Hid (Below w.heap.size w wr)) (fun v19 _ => (n - intOf v19).toNat)
    case atStart => exact ⟨0, rfl, by omega, fun j hj => absurd hj (by omega), hB0⟩
    case round =>
      clear hB0
      obtain ⟨i, rfl, hi, hA, B⟩ := hrel
      by_cases hlt : i < n
      · have hlt2 : (i : Int) < (n : Int) := by omega
        have hlt3 : i < l.length := by rw [hl.out]; exact hlt
        obtain ⟨p, rfl, q⟩ := H.out.at_ i hlt3
        have q := q.below B.out
        obtain ⟨a3, n3, c3, k0, k1, k2, k3, k4, k5, hS⟩ := q
        have hlen := Lib.hid hS.len
        have hBx : Hid (∀ o, Below w.heap.size w (wr.alloc o)) := fun o => B.out.alloc B.out.size o
        clear hS
        by_cases hfar : 300 < n3
        · have hfar2 : (300 : Int) < (n3 : Int) := by omega
          clear hfar hlen
          go_wp2_with (go_at_call 8; refine (hAl.out _ (hBx.out _)).mono ?_; rintro e w1 ⟨rfl, z⟩; have B1 := Lib.hid ((hBx.out _).trans (z.mono (hBx.out _).size)); clear z)
          go_ret
          exact ⟨rfl, B1.out⟩
        · have hfar2 : ¬ (300 : Int) < (n3 : Int) := by omega
          have hA2 : Hid (∀ j, j < i + 1 → (l.getD j rw0).bs.length ≤ 300) := fun j hj => by
            by_cases e : j = i
            · subst e
              have := hlen.out
              show (l.getD j ⟨false, [], false, 0, 0, 0⟩).bs.length ≤ 300
              omega
            · exact hA.out j (by omega)
          clear hfar hlen
          go_wp2_with fail
          go_roundw
          case rel => exact ⟨i + 1, (by first | rfl | go_num), by omega, hA2, hBx.out _⟩
          case measure => (simp [intOf]) <;> omega
      · have hlt2 : ¬ (i : Int) < (n : Int) := by omega
        obtain rfl : i = n := by omega
        have hok := ok_all hl.out H8.out hA.out
        have hRw := Lib.hid (law_raws wr a i c l (H.out.below B.out) hok h0n.out.1 h0n.out.2)
        have hPr := Lib.hid (HP.out.below B.out)
        have hSay : Hid (∀ w1 P I N Z bo v k, RwL wr (parOf l) v i (gnAll l) w1 P I N Z bo → ptv N 0 = .pointer (some ⟨k, 0, none⟩) → _) := fun w1 P I N Z bo v k q1 q2 => raws_rd hPr.out h0n.out.1 h0n.out.2 q1 q2
        have hGr : Hid (∀ X, Below w.heap.size w X → Calls Tryz.prog 21 #[.slice a i c, .int .i64 0] X (grwPost X (gtr (gnAll l) i 0) X)) := fun X hX => grw_any (H.out.below hX) hok (Nat.le_trans h0n.out.2 (by decide)) i 0 X h0n.out.1 (Nat.sub_le _ _) (Below.refl _ X)
        clear hok hA
        go_wp2_with (first
          | (have g0 := R2; go_at_call 22; refine (DD.out.list _ (below_al _ _)).mono ?_; rintro e w3 ⟨b3, c3, rfl, p3, z3⟩
             have P3 := Lib.hid p3
             have F0 := Lib.hid z3
             clear p3 z3)
          | (have g0 := B1; go_at_call 21; refine (hGr.out _ B1.out).mono ?_; rintro e w2 ⟨kd, pa, pn, pc, hs, v, ba, bn, bc, ka, kn, kc, rfl, hR, z2⟩
             have DD := Lib.hid (d1.out w2 kd pa pn pc hs v ba bn bc ka kn kc _ (fun j hj => hj.2) hR)
             have C2 := Lib.hid z2
             have B2 := Lib.hid (B1.out.trans (z2.mono B1.out.size))
             have R2 := Lib.hid (Below.refl w2.heap.size w2)
             clear hR z2)
          | (go_at_call 20; refine hRw.out.mono ?_; rintro e w1 ⟨k, P, I, N, Z, bo, v, rfl, q1, q2⟩
             obtain ⟨s, f, tl', d, b1, s1, l1, d1⟩ := hSay.out w1 P I N Z bo v k q1 q2
             have B1 := Lib.hid (B.out.trans (b1.mono B.out.size))
             have S1 := Lib.hid s1
             have L1 := Lib.hid l1
             have d1 := Lib.hid d1
             clear q1 q2 b1 s1 l1))
        obtain ⟨wb, hwb⟩ : ∃ wb, wb = w2.alloc (.cells #[.int .i64 kd, .slice pa pn pc, .bool hs, .int .u64 v, .slice ba bn bc, .slice ka kn kc] rnT) := ⟨_, rfl⟩
        have hbox : wb.heap[w2.heap.size]? = some (.cells [.int .i64 kd, .slice pa pn pc, .bool hs, .int .u64 v, .slice ba bn bc, .slice ka kn kc].toArray rnT (0, 0)) := by rw [hwb]; exact six_new w2 _ _ _ _ _ _ rnT
        have hB7 : Hid (Below w2.heap.size w2 wb) := by rw [hwb]; exact below_al w2 _
        have A0 : Hid (Below wb.heap.size wb w3) := by rw [hwb]; exact F0.out
        have hall : Hid (∀ X, Below wb.heap.size wb X → X.cell? ⟨w2.heap.size, 0, none⟩ = some (.int .i64 kd) ∧ X.cell? ⟨w2.heap.size, 1, none⟩ = some (.slice pa pn pc) ∧ X.cell? ⟨w2.heap.size, 2, none⟩ = some (.bool hs) ∧ X.cell? ⟨w2.heap.size, 3, none⟩ = some (.int .u64 v) ∧ X.cell? ⟨w2.heap.size, 4, none⟩ = some (.slice ba bn bc) ∧ X.cell? ⟨w2.heap.size, 5, none⟩ = some (.slice ka kn kc)) := fun X hb => by
          obtain ⟨x0, x1, x2, x3, x4, x5, _⟩ := six_facts ((hb.block w2.heap.size (Array.getElem?_eq_some_iff.1 hbox).1).trans hbox)
          exact ⟨x0, x1, x2, x3, x4, x5⟩
        have hto7 : Hid (∀ X, Below wb.heap.size wb X → Below w2.heap.size w2 X) := fun X hX => hB7.out.trans (hX.mono hB7.out.size)
        have hto5 : Hid (∀ X, Below wb.heap.size wb X → Below w1.heap.size w1 X) := fun X hX => C2.out.trans ((hto7.out X hX).mono C2.out.size)
        have hto : Hid (∀ X, Below wb.heap.size wb X → Below w.heap.size w X) := fun X hX => B2.out.trans ((hto7.out X hX).mono B2.out.size)
        have A1 : Hid (Below wb.heap.size wb w3.drew) := A0.out.drew
        have hP3 : Hid (∀ X, Below w3.heap.size w3 X → Prs X b3 tl'.length c3 tl') := fun X hX => P3.out.below hX
        have E0 := Lib.hid (Below.refl w3.heap.size w3)
        have E1 : Hid (Below w3.heap.size w3 w3.drew) := (Below.refl w3.heap.size w3).drew
        obtain ⟨x0, x1, x2, x3, x4, x5⟩ := hall.out w3 A0.out
        clear hwb hbox hB7 C2 R2 F0 hRw hPr hSay hGr d1 B1 B2 B
        go_region_held3 (fun w' => w'.cell? ⟨w2.heap.size, 0, none⟩ = some (.int .i64 kd) ∧ w'.cell? ⟨w2.heap.size, 1, none⟩ = some (.slice pa pn pc) ∧ w'.cell? ⟨w2.heap.size, 2, none⟩ = some (.bool hs) ∧ w'.cell? ⟨w2.heap.size, 3, none⟩ = some (.int .u64 v) ∧ w'.cell? ⟨w2.heap.size, 4, none⟩ = some (.slice ba bn bc) ∧ w'.cell? ⟨w2.heap.size, 5, none⟩ = some (.slice ka kn kc))
          (first | exact hall.out _ F11.out | exact hall.out _ F10.out | exact hall.out _ F9.out | exact hall.out _ F7.out | exact hall.out _ F6.out | exact hall.out _ F5.out | exact hall.out _ F4.out | exact hall.out _ F3.out | exact hall.out _ F2.out | exact hall.out _ F1.out | exact hall.out _ A1.out | exact hall.out _ A0.out)
          (first
            | (go_simp; go_at_call 8; have g0 := F9; refine (hAl.out _ (hto.out _ F9.out)).mono ?_; rintro e w9 ⟨rfl, z9⟩; have F11 := Lib.hid (F9.out.trans (z9.mono F9.out.size)); clear z9)
            | (go_simp; go_at_call 26; have g0 := F10; refine (DD.out.fine _ (hto7.out _ F10.out)).mono ?_; rintro e w9 ⟨rfl, z9⟩; have F9 := Lib.hid (F10.out.trans (z9.mono F10.out.size)); clear z9)
            | (go_simp; go_at_call 16; have g0 := F7; refine (S1.out.fine _ (hto5.out _ F7.out)).mono ?_; rintro e w9 ⟨rfl, z9⟩; have F10 := Lib.hid (F7.out.trans (z9.mono F7.out.size)); clear z9)
            | (go_simp; go_at_call 25; have g0 := F6; refine (DD.out.depth _ (hto7.out _ F6.out)).mono ?_; rintro e w9 ⟨rfl, z9⟩; have F7 := Lib.hid (F6.out.trans (z9.mono F6.out.size)); clear z9)
            | (go_simp; go_at_call 17; have g0 := F5; refine (S1.out.depth _ (hto5.out _ F5.out)).mono ?_; rintro e w9 ⟨rfl, z9⟩; have F6 := Lib.hid (F5.out.trans (z9.mono F5.out.size)); clear z9)
            | (go_simp; go_at_call 18; have g0 := F4; refine (S1.out.count _ (hto5.out _ F4.out)).mono ?_; rintro e w9 ⟨rfl, z9⟩; have F5 := Lib.hid (F4.out.trans (z9.mono F4.out.size)); clear z9)
            | (go_simp; go_at_call 24; have g0 := F3; refine (same_13 _ _ _ _ _ _ tl' Q3.out (hP3.out _ E3.out)).mono ?_; rintro e w9 ⟨rfl, z9⟩; have F4 := Lib.hid (F3.out.trans (z9.mono F3.out.size)); clear z9)
            | (go_simp; go_at_call 19; have g0 := F2; refine (S1.out.list _ (hto5.out _ F2.out)).mono ?_; rintro e w9 ⟨b9, c9, rfl, q1, z9⟩; have Q3 := Lib.hid q1; have E3 := Lib.hid (E2.out.trans (z9.mono E2.out.size)); have F3 := Lib.hid (F2.out.trans (z9.mono F2.out.size)); clear z9 q1)
            | (go_simp; go_at_call 23; have g0 := F1; refine (DD.out.shape _ (hto7.out _ F1.out)).mono ?_; rintro e w9 ⟨rfl, z9⟩; have E2 := Lib.hid (E1'.out.trans (z9.mono E1'.out.size)); have F2 := Lib.hid (F1.out.trans (z9.mono F1.out.size)); clear z9)
            | (go_simp; go_at_call 15; refine (S1.out.shape _ (hto5.out _ A1.out)).mono ?_; rintro e w9 ⟨rfl, z9⟩; have E1' := Lib.hid (E1.out.trans (z9.mono E1.out.size)); have F1 := Lib.hid (A1.out.trans (z9.mono A1.out.size)); clear z9))
        all_goals
          (try simp only [Exit.then, Exit.inBlock])
          go_wp2_with fail
          go_ret
          exact ⟨rfl, hto.out _ F11.out⟩
end Go.Proofs.YtfhdiimcimafkaaGreatDoor
