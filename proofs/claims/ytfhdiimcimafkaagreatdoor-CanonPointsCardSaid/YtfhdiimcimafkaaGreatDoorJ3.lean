/- The document's Sort; find: the walk down a tree; find.Get, Has: what the tree has; find.each: the beginnings of a key, one by one; how many nodes are gone into; find.each, walked, for each of its callbacks; find's callbacks; Steps; find.Longest; find.Beginnings; find.Beginnings; what find tells is what the pairs have; A canonical tree is told by its pairs. No program; The document's Begins, Get, Beginnings, Longest; Trees: how many nodes are gone into, how deep they are. No program; What a tree's shape is, as bytes. No program; Numbers' bytes. No program but in how its operations count; alive of law 14; The law FindGets; The law FindAll; The document's trees in memory, and one that is under way; The document's shared: how many bytes the keys of pairs that rise begin with alike; The document's build: what it leaves; of one pair; The document's build: its node under way, what it needs; ser's num and Num, and the document's Num; A leaf, and nobody: how many, head, laid, encoded; The tree of pairs that rise (spunyarnlaw30); A leaf laid, and encoded; nobody encoded; A leaf encoded; nobody encoded, and how many bytes that is; The law SerNums; A tree's bytes. No program; A node's kids, one behind the other; The way to a node: bytes that are put behind one another, in a row that is shared; What a tree's node answers in every later world; its head; canon.each: what a callback holds, while a tree is gone through. -/
import Derived.Test.YtfhdiimcimafkaaGreatDoorJ2
import Derived.Deep.RegionLaw
import Derived.Lib.ItoaNum
import Derived.Test.YtfhdiimcimafkaaGreatDoorProg
import Derived.WalkKit
import Derived.StillTailTactics
import Derived.Deep.RegionHeld3
import Derived.Laws.EntriesVeiled
set_option linter.unusedVariables false
set_option linter.unusedSimpArgs false
/- The document's Sort. -/
namespace Go.Proofs.YtfhdiimcimafkaaGreatDoor
open Go.RowKit
theorem PLs.row {ty : Nat} {w wr : World} {v : Value} {l : PL} (h : PLs ty w v l wr) {i : Nat} (hi : i < l.length) : ∃ g cap a3 n3 c3, v = .slice (some ⟨g, 0, none⟩) l.length cap ∧ wr.cell? ⟨g, i * 2, none⟩ = some (.slice a3 n3 c3) ∧ wr.cell? ⟨g, i * 2 + 1, none⟩ = some (.int .u64 (l.getD i ([], 0)).2) ∧ Sl w a3 n3 c3 (l.getD i ([], 0)).1 ∧
    wr.frozen? ⟨g, i * 2, none⟩ = false ∧ wr.frozen? ⟨g, i * 2 + 1, none⟩ = false ∧ (0 ≤ (l.getD i ([], 0)).2 ∧ (l.getD i ([], 0)).2 < 18446744073709551616) := by
  obtain ⟨es, bo, h1, h2, h3, h4⟩ := h
  obtain ⟨h', ⟨⟨a3, n3, c3, q1, q2⟩, q3, q4, q5⟩⟩ := h2.at_ hi
  obtain ⟨g, cap, rfl, e1, z1, f1⟩ := h1.at_ (j := i * 2) (by omega)
  obtain ⟨g2, cap2, e2, _, z2, f2⟩ := h1.at_ (j := i * 2 + 1) (by omega)
  obtain rfl : g = g2 := by simpa using e2
  obtain ⟨y1, y2⟩ := flat_get es i h'
  rw [y1, q1] at z1
  rw [y2, q3] at z2
  rw [getD_of_lt hi]
  exact ⟨g, cap, a3, n3, c3, e1, z1, z2, q2, f1, f2, q4, q5⟩
theorem PLs.row' {ty : Nat} {w wr : World} {a0 : Option Addr} {n0 c0 : Nat} {l : PL} (h : PLs ty w (.slice a0 n0 c0) l wr) {i : Nat} (hi : i < l.length) : ∃ g a3 n3 c3, a0 = some ⟨g, 0, none⟩ ∧ wr.cell? ⟨g, i * 2, none⟩ = some (.slice a3 n3 c3) ∧ wr.cell? ⟨g, i * 2 + 1, none⟩ = some (.int .u64 (l.getD i ([], 0)).2) ∧ Sl w a3 n3 c3 (l.getD i ([], 0)).1 ∧
    wr.frozen? ⟨g, i * 2, none⟩ = false ∧ wr.frozen? ⟨g, i * 2 + 1, none⟩ = false ∧ (0 ≤ (l.getD i ([], 0)).2 ∧ (l.getD i ([], 0)).2 < 18446744073709551616) := by
  obtain ⟨g, cap, a3, n3, c3, e, r⟩ := h.row hi
  injection e with e
  exact ⟨g, a3, n3, c3, e, r⟩
theorem some_blk {g g' : Nat} (h : some (⟨g, 0, none⟩ : Addr) = some ⟨g', 0, none⟩) : g = g' := by
  injection h with h
  injection h
theorem PLs.put {ty : Nat} {w wr : World} {l : PL} {g n cap : Nat} (h : PLs ty w (.slice (some ⟨g, 0, none⟩) n cap) l wr) (i : Nat) {a3 : Option Addr} {n3 c3 : Nat} {x : List Nat} {y : Int} (hs : Sl w a3 n3 c3 x) (hv : 0 ≤ y ∧ y < 18446744073709551616) :
    PLs ty w (.slice (some ⟨g, 0, none⟩) n cap) (l.set i (x, y)) ((wr.setCell ⟨g, i * 2, none⟩ (.slice a3 n3 c3)).setCell ⟨g, i * 2 + 1, none⟩ (.int .u64 y)) := by
  obtain ⟨es, bo, h1, h2, h3, h4⟩ := h
  obtain rfl : bo = some g := by
    rcases h1 with ⟨e, _⟩ | ⟨g', cap', cur, e, e2, _⟩
    · injection e with e; cases e
    · injection e2 with e2; cases e2; exact e
  have hg : w.heap.size ≤ g := by
    rcases h3 with e | ⟨g', e, h⟩
    · cases e
    · cases e; exact h
  refine ⟨es.set i (.slice a3 n3 c3, y), some g, ?_, h2.set i ⟨⟨_, _, _, rfl, hs⟩, rfl, hv⟩, h3, (h4.setCell (p := ⟨g, i * 2, none⟩) hg _).setCell (p := ⟨g, i * 2 + 1, none⟩) hg _⟩
  rw [flat_set, List.length_set]
  exact (h1.set _ _).set _ _
theorem PLs.putVal {ty : Nat} {w wr : World} {l : PL} {g n cap : Nat} (h : PLs ty w (.slice (some ⟨g, 0, none⟩) n cap) l wr) {i : Nat} (hi : i < l.length) {y : Int} (hv : 0 ≤ y ∧ y < 18446744073709551616) :
    PLs ty w (.slice (some ⟨g, 0, none⟩) n cap) (l.set i ((l.getD i ([], 0)).1, y)) (wr.setCell ⟨g, i * 2 + 1, none⟩ (.int .u64 y)) := by
  obtain ⟨es, bo, h1, h2, h3, h4⟩ := h
  obtain rfl : bo = some g := by
    rcases h1 with ⟨e, _⟩ | ⟨g', cap', cur, e, e2, _⟩
    · injection e with e; cases e
    · injection e2 with e2; cases e2; exact e
  have hg : w.heap.size ≤ g := by
    rcases h3 with e | ⟨g', e, h⟩
    · cases e
    · cases e; exact h
  obtain ⟨h', ⟨⟨a3, n3, c3, q1, q2⟩, q3, q4⟩⟩ := h2.at_ hi
  have q2' : Sl w a3 n3 c3 (l.getD i ([], 0)).1 := by rw [getD_of_lt hi]; exact q2
  refine ⟨es.set i ((es[i]).1, y), some g, ?_, h2.set i ⟨⟨_, _, _, q1, q2'⟩, rfl, hv⟩, h3, h4.setCell (p := ⟨g, i * 2 + 1, none⟩) hg _⟩
  rw [flat_set, List.length_set]
  have e1 : (flat es).set (i * 2) (es[i]).1 = flat es := by
    obtain ⟨y1, _⟩ := flat_get es i h'
    apply List.ext_getElem?
    intro j
    rw [List.getElem?_set]
    split
    · rename_i e; subst e
      split
      · exact y1.symm
      · rename_i h; rw [flat_len] at h; omega
    · rfl
  rw [e1]
  exact h1.set _ _
theorem psrt_ins {l0 : PL} {x : List Nat × Int} {J : Nat} (h : PSrt l0) (hJ : J ≤ l0.length) (h1 : ∀ q, q < J → slt (l0.getD q ([], 0)).1 x.1) (h2 : J < l0.length → slt x.1 (l0.getD J ([], 0)).1) : PSrt (l0.take J ++ x :: l0.drop J) := by
  have hsp := h
  rw [← List.take_append_drop J l0, psrt_append] at hsp
  refine psrt_append.2 ⟨hsp.1, ?_, fun a ha b hb => ?_⟩
  · refine List.pairwise_cons.2 ⟨?_, hsp.2.1⟩
    intro c hc
    obtain ⟨y, hy, rfl⟩ := List.mem_map.1 hc
    obtain ⟨q, hq, rfl⟩ := List.getElem_of_mem hy
    rw [List.length_drop] at hq
    rw [List.getElem_drop]
    have hx := h2 (by omega)
    by_cases e : q = 0
    · subst e
      rw [getD_of_lt (by omega)] at hx
      simpa using hx
    · have := h.at_ (i := J) (j := J + q) (by omega) (by omega)
      rw [getD_of_lt (show J + q < l0.length by omega)] at this
      exact slt_trans hx this
  · obtain ⟨q, hq, rfl⟩ := List.getElem_of_mem ha
    rw [List.length_take] at hq
    rw [List.getElem_take]
    have ha := h1 q (by omega)
    rw [getD_of_lt (by omega)] at ha
    rcases List.mem_cons.1 hb with rfl | hb
    · exact ha
    · obtain ⟨p, hp, rfl⟩ := List.getElem_of_mem hb
      rw [List.length_drop] at hp
      rw [List.getElem_drop]
      have := h.at_ (i := q) (j := J + p) (by omega) (by omega)
      rw [getD_of_lt (show q < l0.length by omega), getD_of_lt (show J + p < l0.length by omega)] at this
      exact this
/-- what has been sorted of the first i -/
structure SrtI (l : PL) (i : Nat) (l0 : PL) : Prop where
  srt : PSrt l0
  len : l0.length ≤ i
  keys : ∀ y ∈ l0, ∃ z ∈ l, z.1 = y.1
  all : ∀ j, j < i → ∃ y ∈ l0, y.1 = (l.getD j ([], 0)).1
theorem SrtI.ins {l : PL} {i : Nat} {l0 : PL} (h : SrtI l i l0) (hi : i < l.length) {J : Nat} (hJ : J ≤ l0.length) (h1 : ∀ q, q < J → slt (l0.getD q ([], 0)).1 (l.getD i ([], 0)).1) (h2 : J < l0.length → slt (l.getD i ([], 0)).1 (l0.getD J ([], 0)).1) : SrtI l (i + 1) (l0.take J ++ l.getD i ([], 0) :: l0.drop J) := by
  refine ⟨psrt_ins h.srt hJ h1 h2, ?_, fun y hy => ?_, fun j hj => ?_⟩
  · have := h.len
    rw [List.length_append, List.length_cons, List.length_take, List.length_drop]
    omega
  · rcases List.mem_append.1 hy with hy | hy
    · exact h.keys y (List.mem_of_mem_take hy)
    · rcases List.mem_cons.1 hy with rfl | hy
      · exact ⟨_, mem_getD hi, rfl⟩
      · exact h.keys y (List.mem_of_mem_drop hy)
  · by_cases e : j = i
    · subst e; exact ⟨_, List.mem_append_right _ (List.mem_cons_self ..), rfl⟩
    · obtain ⟨y, hy, e2⟩ := h.all j (by omega)
      rw [← List.take_append_drop J l0] at hy
      rcases List.mem_append.1 hy with hy | hy
      · exact ⟨y, List.mem_append_left _ hy, e2⟩
      · exact ⟨y, List.mem_append_right _ (List.mem_cons_of_mem _ hy), e2⟩
theorem SrtI.set {l : PL} {i : Nat} {l0 : PL} (h : SrtI l i l0) (J : Nat) (hJ : J < l0.length) (he : (l0.getD J ([], 0)).1 = (l.getD i ([], 0)).1) (y : Int) : SrtI l (i + 1) (l0.set J ((l0.getD J ([], 0)).1, y)) := by
  have e : (l0.set J ((l0.getD J ([], 0)).1, y)).map (·.1) = l0.map (·.1) := by
    rw [List.map_set, getD_of_lt hJ]
    apply List.ext_getElem?
    intro q
    rw [List.getElem?_set]
    split
    · rename_i e; subst e
      simp [hJ]
    · rfl
  refine ⟨by have := h.srt; unfold PSrt at this ⊢; rw [e]; exact this, by rw [List.length_set]; have := h.len; omega, fun x hx => ?_, fun j hj => ?_⟩
  · have : x.1 ∈ l0.map (·.1) := by rw [← e]; exact List.mem_map_of_mem hx
    obtain ⟨z, hz, e2⟩ := List.mem_map.1 this
    rw [← e2]
    exact h.keys z hz
  · have hj2 : (l.getD j ([], 0)).1 ∈ l0.map (·.1) := by
      by_cases e2 : j = i
      · rw [e2, ← he]; exact List.mem_map_of_mem (mem_getD hJ)
      · obtain ⟨y, hy, e3⟩ := h.all j (by omega)
        rw [← e3]; exact List.mem_map_of_mem hy
    rw [← e] at hj2
    obtain ⟨z, hz, e2⟩ := List.mem_map.1 hj2
    exact ⟨z, hz, e2⟩
/-- while things are moved: the place k is free -/
def shiftL (l0 : PL) (k : Nat) (z : List Nat × Int) : PL := l0.take k ++ z :: l0.drop k
theorem shiftL_len (l0 : PL) (k : Nat) (z : List Nat × Int) : (shiftL l0 k z).length = l0.length + 1 := by
  unfold shiftL
  rw [List.length_append, List.length_cons, List.length_take, List.length_drop]
  omega
theorem shiftL_end (l0 : PL) (z : List Nat × Int) : l0 ++ [z] = shiftL l0 l0.length z := by simp [shiftL]
theorem shiftL_set (l0 : PL) (k : Nat) (z x : List Nat × Int) (h : k ≤ l0.length) : (shiftL l0 k z).set k x = shiftL l0 k x := by
  unfold shiftL
  have e : (l0.take k).length = k := by rw [List.length_take]; omega
  rw [List.set_append_right _ _ (by omega), e, Nat.sub_self]
  rfl
theorem shiftL_get (l0 : PL) (k : Nat) (z : List Nat × Int) (h : k < l0.length) : (shiftL l0 (k + 1) z).getD k ([], 0) = l0.getD k ([], 0) := by
  unfold shiftL
  rw [List.getD, List.getD, List.getElem?_append_left (by rw [List.length_take]; omega), List.getElem?_take, if_pos (by omega)]
theorem shiftL_step (l0 : PL) (k : Nat) (h : k < l0.length) : shiftL l0 (k + 1) (l0.getD k ([], 0)) = shiftL l0 k (l0.getD k ([], 0)) := by
  unfold shiftL
  rw [List.take_succ_eq_append_getElem h, getD_of_lt h, List.drop_eq_getElem_cons h, List.append_assoc]
  rfl
theorem quiet_cmp {w : World} {a b : Option Addr} {n c m d : Nat} {s t : List Nat} (h : Sl w a n c s) (k : Sl w b m d t) (q : Nat) : Calls Tryz.prog 31 #[.slice a n c, .slice b m d] (w.drewN q) fun e w' => e = .returned (.int .i64 (bcmp s t)) ∧ ∃ p, w' = (w.drewN q).drewN p :=
  ref_cmp (w.drewN q) a b n c m d s t (h.drewN q).at_ (k.drewN q).at_ h.len k.len (Nat.le_trans h.cap h.capm) (Nat.le_trans k.cap k.capm)
theorem quiet_same {w : World} {a b : Option Addr} {n c m d : Nat} {s t : List Nat} (h : Sl w a n c s) (k : Sl w b m d t) (q : Nat) : Calls Tryz.prog 14 #[.slice a n c, .slice b m d] (w.drewN q) fun e w' => e = .returned (.bool (decide (s = t))) ∧ ∃ p, w' = (w.drewN q).drewN p :=
  ref_same (w.drewN q) a b n c m d s t (h.drewN q).at_ (k.drewN q).at_ h.len k.len (Nat.le_trans h.cap h.capm) (Nat.le_trans k.cap k.capm)
def SortPost (l : PL) (w : World) (e : Ending) (w' : World) : Prop := ∃ v l0, e = .returned v ∧ PLs kpT w v l0 w' ∧ SrtI l l.length l0
set_option maxHeartbeats 4000000 in
set_option maxRecDepth 100000 in
theorem ref_sort (w : World) (a : Option Addr) (n c : Nat) (l : PL) (h : Prs w a n c l) (hn : n ≤ 100000) : Calls Tryz.prog 9 #[.slice a n c] w (SortPost l w) := by
  have H := Lib.hid h
  have hl := Lib.hid h.len
  have h0 := Lib.hid (PLs.nil kpT w)
  have hs0 : Hid (SrtI l 0 []) := ⟨List.Pairwise.nil, Nat.le_refl _, by simp, fun j hj => absurd hj (by omega)⟩
  clear h
  go_enter Tryz.func9, Tryz.ntmps9
  go_wp2_with fail
  go_loopw [4, 3] (fun vi v3 wr => ∃ (i : Nat) (l0 : PL), vi = .int .i64 (i : Nat) ∧ i ≤ n ∧ Hid (PLs kpT w v3 l0 wr) ∧ Hid (SrtI l i l0)) (fun vi _ _ => (n - intOf vi).toNat)
  case atStart => exact ⟨0, [], rfl, by omega, h0, hs0⟩
  case round =>
    clear h0 hs0
    obtain ⟨i, l0, rfl, hi, hP, hS⟩ := hrel
    by_cases hlt : i < n
    · have hlt2 : (i : Int) < (n : Int) := by omega
      have hlt3 : i < l.length := by rw [hl.out]; exact hlt
      have hi0 : (0 : Int) ≤ (i : Int) := by omega
      obtain ⟨p, a3, n3, c3, rfl, q1, q2, q3⟩ := prs_row H.out hlt
      obtain ⟨n0, hn0⟩ : ∃ n0, n0 = l0.length := ⟨_, rfl⟩
      have HN := Lib.hid hn0
      have hn0i : n0 ≤ i := by rw [hn0]; exact hS.out.len
      obtain ⟨a0, c0, hu3, hpr⟩ := hP.out.prs
      rw [← hn0] at hu3
      subst hu3
      have hK : Hid (∀ wr', Below w.heap.size w wr' → wr'.cell? (p.add (i * 2)) = some (.slice a3 n3 c3) ∧ wr'.cell? ⟨(p.add (i * 2)).block, (p.add (i * 2)).off + 1, none⟩ = some (.int .u64 (l.getD i ([], 0)).2)) := fun wr' B => ⟨(B.cell (cell_lt q1)).trans q1, (B.cell (p := ⟨(p.add (i * 2)).block, (p.add (i * 2)).off + 1, none⟩) (cell_lt q2)).trans q2⟩
      have hSx := Lib.hid q3
      have hvx := Lib.hid (H.out.val (l.getD i ([], 0)) (mem_getD hlt3))
      obtain ⟨x, hx⟩ : ∃ x, x = l.getD i ([], 0) := ⟨_, rfl⟩
      have hIns : Hid (∀ J, J ≤ n0 → (∀ q, q < J → slt (l0.getD q ([], 0)).1 x.1) → (J < n0 → slt x.1 (l0.getD J ([], 0)).1) → SrtI l (i + 1) (shiftL l0 J x)) := fun J h1 h2 h3 => by
        rw [hx] at h2 h3 ⊢
        exact hS.out.ins hlt3 (by rw [← hn0]; exact h1) h2 (by rw [← hn0]; exact h3)
      have hSet : Hid (∀ J, J < n0 → (l0.getD J ([], 0)).1 = x.1 → SrtI l (i + 1) (l0.set J ((l0.getD J ([], 0)).1, x.2))) := fun J h1 h2 => hS.out.set J (by rw [← hn0]; exact h1) (by rw [h2, hx]) _
      rw [← hx] at hK hSx hvx
      have hw9 : IntKind.i64.wrap (((i : Nat) : Int) + 1) = ((i + 1 : Nat) : Int) := by rw [show ((i : Nat) : Int) + 1 = ((i + 1 : Nat) : Int) by omega]; exact IntWalk.i64_in _ (by omega)
      obtain ⟨wo, rfl⟩ : ∃ wo : World, wo = wr := ⟨_, rfl⟩
      have hb1 : Hid (n0 + 1 ≤ maxLen) := by show _ ≤ _; unfold maxLen; omega
      have hb2 : Hid ((n0 + 1) * 32 ≤ 140737488355328) := by show _ ≤ _; omega
      have hn9 : n0 ≤ 100000 := by omega
      have hwl : IntKind.i64.wrap (((n0 + 1 : Nat) : Int) - 1) = (n0 : Nat) := by rw [show ((n0 + 1 : Nat) : Int) - 1 = (n0 : Nat) by omega]; exact IntWalk.i64_in _ (by omega)
      clear hn0 hpr q1 q2 q3 hx
      go_wp2_with fail
      go_loopw [5] (fun vj wr2 => ∃ j : Nat, vj = .int .i64 (j : Nat) ∧ j ≤ n0 ∧ Hid (∀ q, q < j → slt (l0.getD q ([], 0)).1 x.1) ∧ Hid (∃ k, wr2 = wo.drewN k)) (fun vj _ => (n0 - intOf vj).toNat)
      case atStart => exact ⟨0, rfl, by omega, fun q hq => absurd hq (by omega), 0, rfl⟩
      case round =>
        obtain ⟨j, rfl, hj, hA, hwd⟩ := hrel
        have hP2 : Hid (PLs kpT w (.slice a0 n0 c0) l0 wr) := by
          obtain ⟨k, rfl⟩ := hwd.out
          exact hP.out.below (below_drewN (Below.refl _ _) k)
        have j0 : (0 : Int) ≤ (j : Int) := by omega
        by_cases hjn : j < n0
        · have j1 : (j : Int) < (n0 : Int) := by omega
          obtain ⟨g, a4, n4, c4, rfl, z1, z2, z3, f1, f2, hv4⟩ := hP2.out.row' (i := j) (by rw [← HN.out]; exact hjn)
          have B := hP2.out.below_
          obtain ⟨q1, q2⟩ := hK.out wr B
          have hC : Hid (∀ q, Calls Tryz.prog 31 #[.slice a4 n4 c4, .slice a3 n3 c3] (wr.drewN q) fun e w' => e = .returned (.int .i64 (bcmp (l0.getD j ([], 0)).1 x.1)) ∧ ∃ p, w' = (wr.drewN q).drewN p) := fun q => quiet_cmp (z3.below B) (hSx.out.below B) q
          by_cases hx : slt (l0.getD j ([], 0)).1 x.1
          · have hA2 : Hid (∀ q, q < j + 1 → slt (l0.getD q ([], 0)).1 x.1) := fun q hq => by
              by_cases e : q = j
              · subst e; exact hx
              · exact hA.out q (by omega)
            have hx2 := bcmp_neg.2 hx
            have hw8 : IntKind.i64.wrap (((j : Nat) : Int) + 1) = ((j + 1 : Nat) : Int) := by rw [show ((j : Nat) : Int) + 1 = ((j + 1 : Nat) : Int) by omega]; exact IntWalk.i64_in _ (by omega)
            generalize bcmp (l0.getD j ([], 0)).1 x.1 = V' at *
            clear hx hA z2 z3 f1 f2 hv4 B q2
            go_wp2_with fail
            go_quiet ((go_at_call 31; exact Calls.quiet_of (hC.out _)))
            go_wp2_with fail
            go_roundw
            case rel => exact ⟨j + 1, (by first | rfl | go_num), by omega, hA2, by obtain ⟨k, rfl⟩ := hwd.out; exact ⟨k + nq, by simp⟩⟩
            case measure => (simp [intOf]) <;> omega
          · have hxs : bcmp (l0.getD j ([], 0)).1 x.1 = 0 ∧ (l0.getD j ([], 0)).1 = x.1 ∨ slt x.1 (l0.getD j ([], 0)).1 := by
              rcases bcmp_three (l0.getD j ([], 0)).1 x.1 with ⟨h, _⟩ | ⟨h, e⟩ | ⟨h, _⟩
              · exact absurd h hx
              · exact Or.inl ⟨e, h⟩
              · exact Or.inr h
            have hx2 : ¬ bcmp (l0.getD j ([], 0)).1 x.1 < 0 := fun q => hx (bcmp_neg.1 q)
            have hxd := Lib.hid hxs
            have hSm : Hid (∀ w4, Below wr.heap.size wr w4 → ∀ q, Calls Tryz.prog 14 #[.slice a4 n4 c4, .slice a3 n3 c3] (w4.drewN q) fun e w' => e = .returned (.bool (decide ((l0.getD j ([], 0)).1 = x.1))) ∧ ∃ p, w' = (w4.drewN q).drewN p) := fun w4 B4 q => quiet_same ((z3.below B).below B4) ((hSx.out.below B).below B4) q
            generalize bcmp (l0.getD j ([], 0)).1 x.1 = V' at *
            generalize hlv : (l0.getD j ([], 0)).2 = lv at *
            clear hx hxs z3 hv4 B hlv
            go_wp2_with fail
            go_quiet ((go_at_call 31; exact Calls.quiet_of (hC.out _)))
            have hP5 : Hid (PLs kpT w (.slice (some ⟨g, 0, none⟩) n0 c0) l0 (wr.drewN nq)) := hP2.out.below (below_drewN (Below.refl _ _) nq)
            have hSm2 := Lib.hid (hSm.out (wr.drewN nq) (below_drewN (Below.refl _ _) nq))
            have z1 : (wr.drewN nq).cell? ⟨g, j * 2, none⟩ = _ := z1
            have z2 : (wr.drewN nq).cell? ⟨g, j * 2 + 1, none⟩ = _ := z2
            have f2 : (wr.drewN nq).frozen? ⟨g, j * 2 + 1, none⟩ = _ := f2
            obtain ⟨q1, q2⟩ := hK.out (wr.drewN nq) hP5.out.below_
            generalize wr.drewN nq = w4 at *
            go_wp2_with fail
            by_cases hxe : (l0.getD j ([], 0)).1 = x.1
            · have hI2 := Lib.hid (hSet.out j hjn hxe)
              rw [decide_eq_true hxe] at hSm2
              have hput := hP5.out.below (w' := w4) (Below.refl _ _)
              clear hxe
              go_quiet ((go_at_call 14; exact Calls.quiet_of (hSm2.out _)))
              have hP6 := (hP5.out.below (below_drewN (Below.refl _ _) nq)).putVal (i := j) (by rw [← HN.out]; exact hjn) hvx.out
              have hP6 := Lib.hid hP6
              have z1 : (w4.drewN nq).cell? ⟨g, j * 2, none⟩ = _ := z1
              have z2 : (w4.drewN nq).cell? ⟨g, j * 2 + 1, none⟩ = _ := z2
              have f2 : (w4.drewN nq).frozen? ⟨g, j * 2 + 1, none⟩ = _ := f2
              have q1 : (w4.drewN nq).cell? (p.add (i * 2)) = _ := q1
              have q2 : (w4.drewN nq).cell? ⟨(p.add (i * 2)).block, (p.add (i * 2)).off + 1, none⟩ = _ := q2
              generalize w4.drewN nq = w5 at *
              generalize x.2 = vv at *
              go_wp2_with fail
              go_roundw
              case rel => exact ⟨i + 1, _, rfl, by omega, hP6, hI2⟩
              case measure => (simp [intOf]) <;> omega
            · have hxg : slt x.1 (l0.getD j ([], 0)).1 := by
                rcases hxd.out with ⟨_, h⟩ | h
                · exact absurd h hxe
                · exact h
              have hI := Lib.hid (hIns.out j hj hA.out (fun _ => hxg))
              rw [decide_eq_false hxe] at hSm2
              clear hxe hxg
              go_quiet ((go_at_call 14; exact Calls.quiet_of (hSm2.out _)))
              have hP5 : Hid (PLs kpT w (.slice (some ⟨g, 0, none⟩) n0 c0) l0 (w4.drewN nq)) := hP5.out.below (below_drewN (Below.refl _ _) nq)
              clear z1 z2 f1 f2 q1 q2
              generalize w4.drewN nq = w5 at *
              have hask := hP5.out.ask (x := []) (y := 0) (sl_nil w) ⟨by omega, by omega⟩ 22 (w5.alloc (.cells #[.slice none 0 0, .int .u64 0] kpT)) ((Below.refl _ w5).alloc (Nat.le_refl _) _)
              rw [← HN.out] at hask
              obtain ⟨es, bo, ho, hfin⟩ := hask
              have hfin := Lib.hid hfin
              have ho := Lib.hid ho
              have hnews := Lib.hid (pair_news w5 (.slice none 0 0) 0 kpT)
              have h1 := Lib.hid (oneP (a := none) (n := 0) (c := 0) (y := 0))
              go_wp2_with (at_builtin; go_loud (refine wpList_append_s rfl (.tmp 59) (.tmp 61) 22 rfl kpT _ 2 32 Tryz.underlying22 kpInfo rfl (by omega) (.slice (some ⟨g, 0, none⟩) n0 c0) rfl n0 (flat es) bo ho.out ⟨w5.heap.size, 0, none⟩ 1 1 [.slice none 0 0, .int .u64 0] rfl rfl hnews.out h1.out hb1.out hb2.out ?_); intro v1 w1 bo1 HO HM HN1; obtain ⟨a1, c1, hv1, _⟩ := HO.out.len; subst hv1)
              have hP6 : Hid (PLs kpT w (.slice a1 (n0 + 1) c1) (shiftL l0 n0 ([], 0)) w1) := by
                have := hfin.out _ w1 bo1 HO.out HM.out HN1.out
                rw [shiftL_end, ← HN.out] at this
                exact this
              clear hfin ho hnews HO HM HN1
              go_loopw [6] (fun vk wr3 => ∃ (k : Nat) (z : List Nat × Int), vk = .int .i64 (k : Nat) ∧ j ≤ k ∧ k ≤ n0 ∧ Hid (PLs kpT w (.slice a1 (n0 + 1) c1) (shiftL l0 k z) wr3)) (fun vk _ => (intOf vk).toNat)
              case atStart => exact ⟨n0, _, rfl, hj, Nat.le_refl _, hP6⟩
              case round =>
                clear hP6 hP5
                obtain ⟨k, z, rfl, hk1, hk2, hP7⟩ := hrel
                by_cases hkj : j < k
                · have hkj2 : (j : Int) < (k : Int) := by omega
                  obtain ⟨k', rfl⟩ : ∃ k', k = k' + 1 := ⟨k - 1, by omega⟩
                  have hkl : k' < l0.length := by have := HN.out; omega
                  obtain ⟨g', a5, n5, c5, rfl, y1, y2, y3, f1, f2, hv5⟩ := hP7.out.row' (i := k') (by rw [shiftL_len]; omega)
                  obtain ⟨g2, a6, n6, c6, e6, y4, y5, y6, f4, f5, hv6⟩ := hP7.out.row' (i := k' + 1) (by rw [shiftL_len]; omega)
                  rw [shiftL_get _ _ _ hkl] at y2 y3 hv5
                  obtain rfl := some_blk e6
                  have hst := hP7.out.put (k' + 1) y3 hv5
                  rw [shiftL_set _ _ _ _ (by omega), show ((l0.getD k' ([], 0)).1, (l0.getD k' ([], 0)).2) = l0.getD k' ([], 0) from rfl, shiftL_step _ _ hkl] at hst
                  have hst := Lib.hid hst
                  have hw0 : IntKind.i64.wrap (((k' + 1 : Nat) : Int) - 1) = (k' : Nat) := by rw [show ((k' + 1 : Nat) : Int) - 1 = (k' : Nat) by omega]; exact IntWalk.i64_in _ (by omega)
                  have m0 : (0 : Int) ≤ ((k' + 1 : Nat) : Int) := by omega
                  have m1 : (0 : Int) ≤ (k' : Int) := by omega
                  have m2 : (k' : Int) < ((n0 + 1 : Nat) : Int) := by omega
                  have m3 : ((k' + 1 : Nat) : Int) < ((n0 + 1 : Nat) : Int) := by omega
                  generalize ((shiftL l0 (k' + 1) z).getD (k' + 1) ([], 0)).2 = v6 at *
                  obtain ⟨zz, hzz⟩ : ∃ zz, zz = l0.getD k' ([], 0) := ⟨_, rfl⟩
                  rw [← hzz] at hst y2
                  generalize zz.2 = vv at *
                  clear y3 hv5 y6 hv6 e6 hzz
                  go_wp2_with fail
                  go_roundw
                  case rel => exact ⟨k', zz, (by first | rfl | go_num), by omega, by omega, hst⟩
                  case measure => (simp [intOf]) <;> omega
                · have hkj2 : ¬ (j : Int) < (k : Int) := by omega
                  obtain rfl : j = k := by omega
                  obtain ⟨g', a6, n6, c6, rfl, y4, y5, y6, f4, f5, hv6⟩ := hP7.out.row' (i := j) (by rw [shiftL_len, ← HN.out]; omega)
                  obtain ⟨q1, q2⟩ := hK.out wr hP7.out.below_
                  have hst := hP7.out.put j hSx.out hvx.out
                  rw [shiftL_set _ _ _ _ (by rw [← HN.out]; omega), show (x.1, x.2) = x from rfl] at hst
                  have hst := Lib.hid hst
                  have m1 : (0 : Int) ≤ (j : Int) := by omega
                  have m2 : (j : Int) < ((n0 + 1 : Nat) : Int) := by omega
                  generalize x.2 = vv at *
                  generalize ((shiftL l0 j z).getD j ([], 0)).2 = v6 at *
                  clear y6 hv6
                  go_wp2_with fail
                  go_roundw
                  case rel => exact ⟨i + 1, shiftL l0 j x, rfl, by omega, hst, hI⟩
                  case measure => (simp [intOf]) <;> omega

        · have j1 : ¬ (j : Int) < (n0 : Int) := by omega
          obtain rfl : j = n0 := by omega
          have hI := Lib.hid (hIns.out j (Nat.le_refl _) hA.out (fun h => absurd h (by omega)))
          go_wp2_with fail
          go_quiet (fail)
          have hP5 : Hid (PLs kpT w (.slice a0 j c0) l0 (wr.drewN nq)) := hP2.out.below (below_drewN (Below.refl _ _) nq)
          generalize wr.drewN nq = w4 at *
          go_wp2_with fail
          go_quiet (fail)
          have hP5 : Hid (PLs kpT w (.slice a0 j c0) l0 (w4.drewN nq)) := hP5.out.below (below_drewN (Below.refl _ _) nq)
          generalize w4.drewN nq = w5 at *
          have hask := hP5.out.ask (x := []) (y := 0) (sl_nil w) ⟨by omega, by omega⟩ 22 (w5.alloc (.cells #[.slice none 0 0, .int .u64 0] kpT)) ((Below.refl _ w5).alloc (Nat.le_refl _) _)
          rw [← HN.out] at hask
          obtain ⟨es, bo, ho, hfin⟩ := hask
          have hfin := Lib.hid hfin
          have ho := Lib.hid ho
          have hnews := Lib.hid (pair_news w5 (.slice none 0 0) 0 kpT)
          have h1 := Lib.hid (oneP (a := none) (n := 0) (c := 0) (y := 0))
          go_wp2_with (at_builtin; go_loud (refine wpList_append_s rfl (.tmp 59) (.tmp 61) 22 rfl kpT _ 2 32 Tryz.underlying22 kpInfo rfl (by omega) (.slice a0 j c0) rfl j (flat es) bo ho.out ⟨w5.heap.size, 0, none⟩ 1 1 [.slice none 0 0, .int .u64 0] rfl rfl hnews.out h1.out hb1.out hb2.out ?_); intro v1 w1 bo1 HO HM HN1; obtain ⟨a1, c1, hv1, _⟩ := HO.out.len; subst hv1)
          have hP6 : Hid (PLs kpT w (.slice a1 (j + 1) c1) (shiftL l0 j ([], 0)) w1) := by
            have := hfin.out _ w1 bo1 HO.out HM.out HN1.out
            rw [shiftL_end, ← HN.out] at this
            exact this
          clear hfin ho hnews HO HM HN1
          go_loopw [6] (fun vk wr3 => ∃ (k : Nat) (z : List Nat × Int), vk = .int .i64 (k : Nat) ∧ j ≤ k ∧ k ≤ j ∧ Hid (PLs kpT w (.slice a1 (j + 1) c1) (shiftL l0 k z) wr3)) (fun vk _ => (intOf vk).toNat)
          case atStart => exact ⟨j, _, rfl, hj, Nat.le_refl _, hP6⟩
          case round =>
            clear hP6 hP5
            obtain ⟨k, z, rfl, hk1, hk2, hP7⟩ := hrel
            by_cases hkj : j < k
            · exact absurd hkj (by omega)
            · have hkj2 : ¬ (j : Int) < (k : Int) := by omega
              obtain rfl : j = k := by omega
              obtain ⟨g', a6, n6, c6, rfl, y4, y5, y6, f4, f5, hv6⟩ := hP7.out.row' (i := j) (by rw [shiftL_len, ← HN.out]; omega)
              obtain ⟨q1, q2⟩ := hK.out wr hP7.out.below_
              have hst := hP7.out.put j hSx.out hvx.out
              rw [shiftL_set _ _ _ _ (by rw [← HN.out]; omega), show (x.1, x.2) = x from rfl] at hst
              have hst := Lib.hid hst
              have m1 : (0 : Int) ≤ (j : Int) := by omega
              have m2 : (j : Int) < ((j + 1 : Nat) : Int) := by omega
              generalize x.2 = vv at *
              generalize ((shiftL l0 j z).getD j ([], 0)).2 = v6 at *
              clear y6 hv6
              go_wp2_with fail
              go_roundw
              case rel => exact ⟨i + 1, shiftL l0 j x, rfl, by omega, hst, hI⟩
              case measure => (simp [intOf]) <;> omega

    · have hlt2 : ¬ (i : Int) < (n : Int) := by omega
      obtain rfl : i = n := by omega
      have hE : Hid (SrtI l l.length l0) := by rw [hl.out]; exact hS.out
      go_wp2_with fail
      go_ret
      exact ⟨_, l0, rfl, hP.out, hE.out⟩
end Go.Proofs.YtfhdiimcimafkaaGreatDoor
/- find: the walk down a tree. -/
namespace Go.Proofs.YtfhdiimcimafkaaGreatDoor
open Go.RowKit
/-- a node's part, laid anew -/
def npartPost (bs : List Nat) (w : World) (e : Ending) (w' : World) : Prop := ∃ a, e = .returned (.slice (some a) bs.length bs.length) ∧ Sl w' (some a) bs.length bs.length bs ∧ Below w.heap.size w w'
section
variable {w : World} {n : Nat} {o : Int} {bs : List Nat} {val : Int} {has : Bool} {kk : Option KV} {pv : Value} {bo : Option Nat} {kp : Option Addr} {Sk : Nat → Prop}
set_option maxRecDepth 100000 in
theorem nd_part_sl (h : NdIs w n o bs val has kk pv bo kp Sk) (h8 : ∀ x ∈ bs, x < 256) (hn : bs.length ≤ 140737488355328) : Calls Tryz.prog 63 #[.pointer (some ⟨n, 0, none⟩)] w (npartPost bs w) := by
  have c1 := h.c1
  have hmx : Hid (bs.length ≤ maxLen) := by show _ ≤ _; unfold maxLen; omega
  obtain ⟨pa, pc, hpv⟩ := h.own.len
  subst hpv
  have hl : (bV bs).length = bs.length := by simp [bV]
  rw [hl] at c1
  have hmk : ∀ w, (Instr.makeSlice 38 (.int .i64 (bs.length : Nat)) (.int .i64 (bs.length : Nat))).run Tryz.prog w = .ok (.slice (some ⟨w.heap.size, 0, none⟩) bs.length bs.length) (w.alloc (.cells (List.replicate bs.length (.int .u8 0)).toArray 5)) := fun w => make_u8 w _ hn
  have c1' : ∀ o, (w.alloc o).cell? ⟨n, 1, none⟩ = some (.slice pa bs.length pc) := fun o => (((Below.refl _ w).alloc (Nat.le_refl _) o).cell (p := ⟨n, 1, none⟩) h.lt).trans c1
  have hsz : (Tryz.prog.info? 5).map (·.size) = some 1 := by kernel_rfl
  have hg : Hid (∀ t, (w.alloc (.cells (Array.replicate bs.length (.int .u8 0)) t)).heap[w.heap.size]? = some (.cells (List.replicate bs.length (Value.int .u8 0)).toArray t (0, 0))) := fun t => by
    rw [heap_alloc_new]; simp
  have hcs : Hid ((bV bs).length = Nat.min bs.length bs.length) := by
    have : Nat.min bs.length bs.length = bs.length := Nat.min_self _
    show _ = _
    rw [hl, this]
  have hpos : Hid (∀ o, 0 < (bV bs).length → (some ⟨w.heap.size, 0, none⟩ : Option Addr) = some ⟨w.heap.size, 0, none⟩ ∧ ∃ ad, pa = some ad ∧ ∀ j v, (bV bs)[j]? = some v → (w.alloc o).cell? (ad.add j) = some v) := fun o hp => by
    obtain ⟨g, cap, e1, e2, _⟩ := h.own.at_ hp
    have e3 : pa = some ⟨g, 0, none⟩ := by simpa using (Value.slice.inj e2).1
    refine ⟨rfl, ⟨g, 0, none⟩, e3, fun j v hj => ?_⟩
    have hjl : j < (bV bs).length := (List.getElem?_eq_some_iff.1 hj).1
    have hv : (bV bs)[j] = v := (List.getElem?_eq_some_iff.1 hj).2
    obtain ⟨g', cap', q1, q2, q3, _⟩ := h.own.at_ hjl
    obtain rfl : g = g' := by rw [e1] at q1; simpa using q1
    have hlt := h.own
    rw [e1] at hlt
    have h2 : (⟨g, 0, none⟩ : Addr).add j = ⟨g, j, none⟩ := add0 g j
    rw [h2, ((Below.refl _ w).alloc (Nat.le_refl _) o).cell (p := ⟨g, j, none⟩) hlt.lt, q3, hv]
  have hfit : Hid (0 + (bV bs).length ≤ (List.replicate bs.length (Value.int .u8 0)).length) := by show _ ≤ _; simp [hl]
  have hone := Lib.hid (bV_one bs)
  have hB : Hid (∀ o, Below w.heap.size w (w.alloc o)) := fun o => (Below.refl _ w).alloc (Nat.le_refl _) o
  have hend : Hid (∀ w' t, w'.heap[w.heap.size]? = some (.cells (splice (List.replicate bs.length (Value.int .u8 0)) 0 (bV bs)).toArray t (0, 0)) → BytesAt w' (some ⟨w.heap.size, 0, none⟩) bs) := fun w' t q => by
    refine ⟨h8, fun i hi => ⟨_, rfl, ?_, ?_⟩⟩
    · rw [add0]
      exact (Array.getElem?_eq_some_iff.1 q).1
    · rw [add0, cell_of_blk q]
      simp [splice, hl, bV, List.getD, hi]
  clear h hn h8
  go_enter Tryz.func63, Tryz.ntmps63
  go_wp2_with (with_reducible show wpList _ _ _ (⟨some 17, _, _, _, _, _⟩ :: _) _ _; refine wpList_copy_splice (o := ⟨some 17, _, _, _, _, _⟩) rfl (.tmp 12) (.tmp 16) 38 38 rfl 5 cloneB_under hsz _ _ _ _ _ _ rfl rfl w.heap.size 0 _ _ (hg.out _) (bV bs) hcs.out (hpos.out _) hfit.out hone.out w.heap.size w (hB.out _) (Nat.le_refl _) ?_; intro w' hg2 hb2; have q := Lib.hid (hend.out _ _ hg2.out))
  go_ret
  exact ⟨_, rfl, ⟨rfl, q.out, Nat.le_refl _, hmx.out, fun e => by cases e⟩, hb2⟩
end
section
variable {w w' : World} {b kn kc at_ st : Nat} {v ka : Option Addr}
end
/-- nodes, a key, and a walk's variable that was made later -/
structure Way (w0 wN : World) (Q : List NP) (ka : Option Addr) (kn kc : Nat) (k : List Nat) (b : Nat) (wr : World) : Prop where
  st : StoreP NoB w0 wN Q
  key : Sl wN ka kn kc k
  new : wN.heap.size ≤ b
  since : Below wN.heap.size wN wr
theorem Way.next {w0 wN : World} {Q : List NP} {ka : Option Addr} {kn kc b : Nat} {k : List Nat} {wr w' : World} (h : Way w0 wN Q ka kn kc k b wr) (hb : Below wN.heap.size wr w') : Way w0 wN Q ka kn kc k b w' := ⟨h.st, h.key, h.new, h.since.trans hb⟩
end Go.Proofs.YtfhdiimcimafkaaGreatDoor
/- find.Get, Has: what the tree has. -/
namespace Go.Proofs.YtfhdiimcimafkaaGreatDoor
open Go.RowKit
/-- the kid that stands at a byte -/
theorem kid_find {Q : List NP} : ∀ {ks : Tr} {v : Value} {l : KV}, TreeIn Q 0 ks v l → TOk ks → IsK ks → ∀ c, ∃ (t : Tr) (a : Option Addr), (kget l c).getD (.pointer none) = .pointer a ∧ TreeV Q t (.pointer a) ∧ TOk t ∧ (∀ r, tget ks (c :: r) = tget t r) ∧ (∀ b x, (b, x) ∈ chain ks → b = c → t = x)
  | .nil, v, l, h, _, _, c => by
    have h : l = [] := h
    subst h
    exact ⟨.nil, none, rfl, Or.inl ⟨rfl, rfl⟩, trivial, fun _ => rfl, by simp [chain]⟩
  | .node .., _, _, _, _, hk, _ => hk.elim
  | .kid b t r, v, l, ⟨x, l', h1, h2, h3⟩, ⟨k1, k2, k3, k4, k5, k6⟩, _, c => by
    subst h1
    by_cases e : b = c
    · subst e
      obtain ⟨q, rfl⟩ := h2.isN k2
      refine ⟨t, some ⟨q, 0, none⟩, by simp [kget], Or.inr ⟨k2, h2⟩, k3, fun r => by simp [tget], fun b' x' hm e2 => ?_⟩
      subst e2
      rcases List.mem_cons.1 hm with hm | hm
      · exact ((Prod.mk.inj hm).2).symm
      · exfalso
        have hr := k5
        rw [← ofL_chain r k4 k5, tok_ofL] at hr
        have hf : ∀ y ∈ chain r, b' < y.1 := by
          intro y hy
          have : TOk (ofL ((b', t) :: chain r)) := by
            show TOk (.kid b' t (ofL (chain r)))
            rw [ofL_chain r k4 k5]
            exact ⟨k1, k2, k3, k4, k5, k6⟩
          have h2 := ((tok_ofL _).1 this).2
          rw [List.map_cons, List.pairwise_cons] at h2
          exact h2.1 y.1 (List.mem_map_of_mem hy)
        have := hf _ hm
        simp at this
    · obtain ⟨t', a, q1, q2, q3, q4, q5⟩ := kid_find h3 k5 k4 c
      refine ⟨t', a, ?_, q2, q3, fun s => ?_, fun b' x' hm e2 => ?_⟩
      · rw [← q1]
        have : kget ((b, x) :: l') c = kget l' c := by simp [kget, List.find?_cons, e]
        rw [this]
      · rw [← q4]; simp [tget, e]
      · rcases List.mem_cons.1 hm with hm | hm
        · have := (Prod.mk.inj hm).1
          omega
        · exact q5 b' x' hm e2
/-- what a look-up tells -/
def getVal (o : Option Int) : Value := .tuple #[.int .u64 (o.getD 0), .bool o.isSome]
end Go.Proofs.YtfhdiimcimafkaaGreatDoor
/- find.each: the beginnings of a key, one by one; how many nodes are gone into. -/
namespace Go.Proofs.YtfhdiimcimafkaaGreatDoor
open Go.RowKit
/-- a key's beginnings in a tree, by how long they are; at: what is used up -/
def tbeg : Tr → Nat → List Nat → List (Nat × Int)
  | .nil, _, _ => []
  | .kid b t r, m, k => match k with
    | [] => []
    | c :: k' => if b = c then tbeg t (m + 1) k' else tbeg r m k
  | .node bs v has _ ks, m, k => if bs <+: k then (if has then [(m + bs.length, v)] else []) ++ (if k.drop bs.length = [] then [] else tbeg ks (m + bs.length) (k.drop bs.length)) else []
/-- how many nodes are gone into -/
def tstep : Tr → List Nat → Nat
  | .nil, _ => 0
  | .kid b t r, k => match k with
    | [] => 0
    | c :: k' => if b = c then tstep t k' else tstep r k
  | .node bs v has _ ks, k => 1 + (if bs <+: k then (if k.drop bs.length = [] then 0 else tstep ks (k.drop bs.length)) else 0)
/-- as kid_find, for what is told besides -/
theorem kid_findE {Q : List NP} : ∀ {ks : Tr} {v : Value} {l : KV}, TreeIn Q 0 ks v l → TOk ks → IsK ks → ∀ c, ∃ (t : Tr) (a : Option Addr), (kget l c).getD (.pointer none) = .pointer a ∧ TreeV Q t (.pointer a) ∧ TOk t ∧ (∀ m r, tbeg ks m (c :: r) = tbeg t (m + 1) r) ∧ (∀ r, tstep ks (c :: r) = tstep t r)
  | .nil, v, l, h, _, _, c => by
    have h : l = [] := h
    subst h
    exact ⟨.nil, none, rfl, Or.inl ⟨rfl, rfl⟩, trivial, fun _ _ => rfl, fun _ => rfl⟩
  | .node .., _, _, _, _, hk, _ => hk.elim
  | .kid b t r, v, l, ⟨x, l', h1, h2, h3⟩, ⟨k1, k2, k3, k4, k5, k6⟩, _, c => by
    subst h1
    by_cases e : b = c
    · subst e
      obtain ⟨q, rfl⟩ := h2.isN k2
      exact ⟨t, some ⟨q, 0, none⟩, by simp [kget], Or.inr ⟨k2, h2⟩, k3, fun m r => by simp [tbeg], fun r => by simp [tstep]⟩
    · obtain ⟨t', a, q1, q2, q3, q4, q5⟩ := kid_findE h3 k5 k4 c
      refine ⟨t', a, ?_, q2, q3, fun m s => ?_, fun s => ?_⟩
      · rw [← q1]
        have : kget ((b, x) :: l') c = kget l' c := by simp [kget, List.find?_cons, e]
        rw [this]
      · rw [← q4]; simp [tbeg, e]
      · rw [← q5]; simp [tstep, e]
/-- what a callback holds: blocks F, and what it was told -/
structure CbS (S : (Nat → Prop) → List (Nat × Int) → World → Prop) (lo : Nat) : Prop where
  keep : ∀ F L w w', S F L w → (∀ j, F j → w'.heap[j]? = w.heap[j]?) → S F L w'
  low : ∀ F L w, S F L w → ∀ j, F j → lo ≤ j
  high : ∀ F L w, S F L w → ∀ j, F j → j < w.heap.size
def eachPost (S : (Nat → Prop) → List (Nat × Int) → World → Prop) (wN : World) (L : List (Nat × Int)) (m : Nat) (w : World) (e : Ending) (w' : World) : Prop :=
  e = .returned (.int .i64 (m : Nat)) ∧ Below wN.heap.size wN w' ∧ ∃ F, S F L w'
/-- what a callback does -/
def CbDoes (S : (Nat → Prop) → List (Nat × Int) → World → Prop) (wN : World) (kn : Nat) (f : FuncId) (args : Value → Value → Array Value) : Prop :=
  ∀ F L w x y, S F L w → x ≤ kn → 0 ≤ y → y < 18446744073709551616 → Below wN.heap.size wN w → L.length ≤ 2000 → Calls Tryz.prog f (args (.int .i64 ((x : Nat) : Int)) (.int .u64 y)) w fun e w' => e = .returned (.tuple #[]) ∧ ∃ F', S F' (L ++ [(x, y)]) w' ∧ Mod F w w' ∧ ∀ j, F' j → F j ∨ w.heap.size ≤ j
theorem Mod.belowLo {F : Nat → Prop} {lo : Nat} {w w' : World} (h : Mod F w w') (hl : ∀ j, F j → lo ≤ j) (hs : lo ≤ w.heap.size) : Below lo w w' :=
  ⟨h.os, h.tape, h.output, h.size, fun j hj => h.same j (by omega) (fun e => by have := hl j e; omega)⟩
section
variable {S : (Nat → Prop) → List (Nat × Int) → World → Prop} {w0 wN wr w' : World} {Q : List NP} {ka v : Option Addr} {kn kc b at_ st : Nat} {k : List Nat} {L : List (Nat × Int)}
end
end Go.Proofs.YtfhdiimcimafkaaGreatDoor
/- find.each, walked, for each of its callbacks. -/
namespace Go.Proofs.YtfhdiimcimafkaaGreatDoor
open Go.RowKit
end Go.Proofs.YtfhdiimcimafkaaGreatDoor
/- find's callbacks; Steps. -/
namespace Go.Proofs.YtfhdiimcimafkaaGreatDoor
open Go.RowKit
/-- nothing is held -/
def SNo (F : Nat → Prop) (L : List (Nat × Int)) (w : World) : Prop := F = NoB
theorem sno_cb (lo : Nat) : CbS SNo lo := ⟨fun F L w w' h _ => h, fun F L w h j hj => by rw [h] at hj; exact hj.elim, fun F L w h j hj => by rw [h] at hj; exact hj.elim⟩
/-- a clone, with where it lies -/
theorem clone_new {w : World} {a : Option Addr} {n c : Nat} {bs : List Nat} (h : Sl w a n c bs) (hn : n ≤ 140737488355328) : Calls Tryz.prog 38 #[.slice a n c] w fun e w' => ∃ a' c', e = .returned (.slice a' n c') ∧ Sl w' a' n c' bs ∧ Below w.heap.size w w' ∧ ∀ p : Addr, a' = some p → w.heap.size ≤ p.block ∧ p.block < w'.heap.size :=
  (cloneB_any w a n c bs h.len h.at_ hn (fun e => (h.nil e).1)).mono fun e w' q => by
    obtain ⟨v, bo, rfl, h1, h2, h3⟩ := q
    have hl := h.len
    rcases h1 with ⟨rfl, e, rfl⟩ | ⟨g, cap, cur, rfl, rfl, h4, h5, h6, h7, h8⟩
    · have : bs = [] := by simpa [bV] using e
      subst this
      obtain rfl : n = 0 := hl.symm
      exact ⟨none, 0, rfl, sl_nil _, h2, fun p e => by cases e⟩
    · have hbl : (bV bs).length = n := by simp [bV, hl]
      rw [hbl] at h5 h8
      refine ⟨some ⟨g, 0, none⟩, cap, by rw [hbl], ⟨hl, ⟨h.at_.1, fun i hi => ⟨_, rfl, ?_, ?_⟩⟩, h5, h6, fun e => by cases e⟩, h2, fun p e => ?_⟩
      · rw [add0]; exact (Array.getElem?_eq_some_iff.1 h4).1
      · rw [add0, cell_of_blk (c := cur.toList) (t := 5) (by simpa using h4)]
        have e := take_get (j := i) h8 (by omega)
        rw [e]
        simp [bV, List.getD, hi]
      · cases e
        rcases h3 with e | ⟨g', e, h3⟩
        · cases e
        · cases e; exact ⟨h3, (Array.getElem?_eq_some_iff.1 h4).1⟩
end Go.Proofs.YtfhdiimcimafkaaGreatDoor
/- find.Longest. -/
namespace Go.Proofs.YtfhdiimcimafkaaGreatDoor
open Go.RowKit
def lastP (ka : Option Addr) (kc : Nat) (L : List (Nat × Int)) : (Option Addr × Nat × Nat) × Int × Bool := match L.getLast? with
  | none => ((none, 0, 0), 0, false)
  | some (x, y) => ((ka, x, kc), y, true)
theorem lastP_snoc (ka : Option Addr) (kc : Nat) (L : List (Nat × Int)) (x : Nat) (y : Int) : lastP ka kc (L ++ [(x, y)]) = ((ka, x, kc), y, true) := by
  simp [lastP]
/-- what Longest's callback holds -/
def SLo (ka : Option Addr) (kc bp bi : Nat) (F : Nat → Prop) (L : List (Nat × Int)) (w : World) : Prop :=
  F = (fun j => j = bp ∨ j = bi) ∧
  w.heap[bp]? = some (.cells [.slice (lastP ka kc L).1.1 (lastP ka kc L).1.2.1 (lastP ka kc L).1.2.2, .int .u64 (lastP ka kc L).2.1].toArray apT (0, 0)) ∧
  w.heap[bi]? = some (.cells [.bool (lastP ka kc L).2.2].toArray 4 (0, 0))
theorem slo_cb (ka : Option Addr) (kc bp bi lo : Nat) (h2 : lo ≤ bp) (h3 : lo ≤ bi) : CbS (SLo ka kc bp bi) lo := by
  refine ⟨fun F L w w' ⟨e, q2, q3⟩ hk => ?_, fun F L w ⟨e, _⟩ j hj => ?_, fun F L w ⟨e, q2, q3⟩ j hj => ?_⟩
  · subst e
    exact ⟨rfl, (hk bp (Or.inl rfl)).trans q2, (hk bi (Or.inr rfl)).trans q3⟩
  · subst e; rcases hj with rfl | rfl <;> assumption
  · subst e
    rcases hj with rfl | rfl
    · exact (Array.getElem?_eq_some_iff.1 q2).1
    · exact (Array.getElem?_eq_some_iff.1 q3).1
/-- a pair that is told, and whether -/
def pairPost (key : List Nat) (val : Int) (is : Bool) (w : World) (e : Ending) (w' : World) : Prop :=
  ∃ a n c, e = .returned (.tuple #[.agg #[.slice a n c, .int .u64 val], .bool is]) ∧ Sl w' a n c key ∧ Below w.heap.size w w'
def lastK (k : List Nat) (L : List (Nat × Int)) : List Nat × Int × Bool := match L.getLast? with
  | none => ([], 0, false)
  | some (x, y) => (k.take x, y, true)
/-- how long beginnings are -/
theorem tbeg_le : ∀ (t : Tr) (m : Nat) (k : List Nat), ∀ p ∈ tbeg t m k, p.1 ≤ m + k.length
  | .nil, _, _, p, h => by simp [tbeg] at h
  | .kid b t r, m, [], p, h => by simp [tbeg] at h
  | .kid b t r, m, c :: k, p, h => by
    by_cases e : b = c
    · have h : p ∈ tbeg t (m + 1) k := by simpa [tbeg, e] using h
      have := tbeg_le t (m + 1) k p h
      simp; omega
    · have h : p ∈ tbeg r m (c :: k) := by simpa [tbeg, e] using h
      exact tbeg_le r m (c :: k) p h
  | .node bs v hs leaf ks, m, k, p, h => by
    unfold tbeg at h
    split at h
    · rename_i hp
      have hle := hp.length_le
      rcases List.mem_append.1 h with h | h
      · cases hs
        · simp at h
        · simp at h; subst h; simp; omega
      · split at h
        · simp at h
        · have := tbeg_le ks (m + bs.length) (k.drop bs.length) p h
          rw [List.length_drop] at this
          omega
    · simp at h
end Go.Proofs.YtfhdiimcimafkaaGreatDoor
/- find.Beginnings. -/
namespace Go.Proofs.YtfhdiimcimafkaaGreatDoor
open Go.RowKit
def begL (k : List Nat) (L : List (Nat × Int)) : PL := L.map fun x => (k.take x.1, x.2)
/-- what Beginnings' callback holds -/
structure SBe (k : List Nat) (lo bl : Nat) (F : Nat → Prop) (L : List (Nat × Int)) (w : World) (v : Value) (es : EL) (bo : Option Nat) : Prop where
  var : w.heap[bl]? = some (.cells [v].toArray 31 (0, 0))
  own : OwnS 2 apT w v L.length (flat es) bo
  ents : Ents w es (begL k L)
  fl : F bl
  fo : ∀ g, bo = some g → F g ∧ g ≠ bl
  fe : ∀ i (h : i < es.length) (p : Addr) n c, (es[i]).1 = .slice (some p) n c → F p.block ∧ p.block ≠ bl ∧ bo ≠ some p.block
  low : ∀ j, F j → lo ≤ j
  high : ∀ j, F j → j < w.heap.size
def SBeg (k : List Nat) (lo bl : Nat) (F : Nat → Prop) (L : List (Nat × Int)) (w : World) : Prop := ∃ v es bo, SBe k lo bl F L w v es bo
theorem ents_keep {w w' : World} {es : EL} {l : PL} (h : Ents w es l) {T : Nat → Prop} (hm : Mod T w w') (hT : ∀ i (h : i < es.length) (p : Addr) n c, (es[i]).1 = .slice (some p) n c → ¬ T p.block) : Ents w' es l := ⟨h.1, fun i h1 h2 => by
  obtain ⟨⟨a, n, c, e, q⟩, r⟩ := h.2 i h1 h2
  refine ⟨⟨a, n, c, e, q.len, bytes_keep q.at_ hm (fun p ep => hT i h1 p n c (by rw [e, ep])), q.cap, q.capm, q.nil⟩, r⟩⟩
theorem sbe_cb (k : List Nat) (lo bl : Nat) : CbS (SBeg k lo bl) lo := by
  refine ⟨fun F L w w' ⟨v, es, bo, h⟩ hk => ?_, fun F L w ⟨v, es, bo, h⟩ j hj => h.low j hj, fun F L w ⟨v, es, bo, h⟩ j hj => h.high j hj⟩
  refine ⟨v, es, bo, (hk bl h.fl).trans h.var, h.own.keep fun g e => hk g (h.fo g e).1, ⟨h.ents.1, fun i h1 h2 => ?_⟩, h.fl, h.fo, h.fe, h.low, fun j hj => ?_⟩
  · obtain ⟨⟨a, n, c, e, q⟩, r⟩ := h.ents.2 i h1 h2
    refine ⟨⟨a, n, c, e, q.len, ⟨q.at_.1, fun j hj => ?_⟩, q.cap, q.capm, q.nil⟩, r⟩
    obtain ⟨p, ep, z1, z2⟩ := q.at_.2 j hj
    subst ep
    have hF := (h.fe i h1 p n c e).1
    have e1 := hk p.block hF
    refine ⟨p, rfl, ?_, ?_⟩
    · rw [add_block] at z1 ⊢
      have : w'.heap[p.block]? = some _ := e1.trans (Array.getElem?_eq_getElem z1)
      exact (Array.getElem?_eq_some_iff.1 this).1
    · rw [← z2]
      unfold World.cell?
      rw [add_block, e1]
  · have e1 := hk j hj
    have : w'.heap[j]? = some _ := e1.trans (Array.getElem?_eq_getElem (h.high j hj))
    exact (Array.getElem?_eq_some_iff.1 this).1
/-- one more -/
theorem SBe.step {k : List Nat} {lo bl : Nat} {F : Nat → Prop} {L : List (Nat × Int)} {w wc w1 w2 w3 : World} {v v2 : Value} {es : EL} {bo bo2 : Option Nat} (h : SBe k lo bl F L w v es bo) (hlo : lo ≤ w.heap.size) {x : Nat} {y : Int} {a6 : Option Addr} {n6 c6 : Nat}
    (hb1 : Below w.heap.size w wc) (hs : Sl wc a6 n6 c6 (k.take x)) (hn : ∀ p : Addr, a6 = some p → w.heap.size ≤ p.block ∧ p.block < wc.heap.size) (hy : 0 ≤ y ∧ y < 18446744073709551616) (hb2 : Below wc.heap.size wc w1)
    (ho : OwnS 2 apT w2 v2 (L.length + 1) (flat es ++ [.slice a6 n6 c6, .int .u64 y]) bo2) (hm : Mod (fun j => bo = some j) w1 w2) (hn2 : NewOr w1 bo bo2) (h3 : w3 = w2.setCell ⟨bl, 0, none⟩ v2) :
    ∃ F', SBeg k lo bl F' (L ++ [(x, y)]) w3 ∧ Mod F w w3 ∧ ∀ j, F' j → F j ∨ w.heap.size ≤ j := by
  have s1 := hb1.size
  have s2 := hb2.size
  have s3 := hm.size
  have hbl := h.high bl h.fl
  have hB : Below w.heap.size w w1 := hb1.trans (hb2.mono s1)
  have hv : w2.heap[bl]? = some (.cells [v].toArray 31 (0, 0)) := (hm.same bl (by omega) (fun e => (h.fo bl e).2 rfl)).trans ((hB.block bl hbl).trans h.var)
  have hM2 : Mod F w w2 := (Mod.of_below hB).trans (hm.mono fun j _ e => (h.fo j e).1)
  have hM3 : Mod F w w3 := by rw [h3]; exact hM2.setCell ⟨bl, 0, none⟩ _ (fun _ => h.fl)
  have s4 : w3.heap.size = w2.heap.size := by rw [h3]; simp [World.setCell]
  have hbo2 : ∀ g, bo2 = some g → (F g ∨ w.heap.size ≤ g) ∧ g ≠ bl ∧ g < w2.heap.size := fun g e => by
    subst e
    refine ⟨?_, ?_, ho.lt⟩
    · rcases hn2 with e | ⟨g', e, hg⟩
      · exact Or.inl (h.fo g e.symm).1
      · cases e; exact Or.inr (by omega)
    · rcases hn2 with e | ⟨g', e, hg⟩
      · exact (h.fo g e.symm).2
      · cases e; omega
  have hneq : ∀ p : Addr, a6 = some p → bo2 ≠ some p.block := fun p e e2 => by
    have h1 := hn p e
    rcases hn2 with e3 | ⟨g', e3, hg⟩
    · rw [e3] at e2
      have := h.high _ (h.fo _ e2).1
      omega
    · rw [e3] at e2
      cases e2
      omega
  have hold : ∀ i (hi : i < es.length) (p : Addr) n c, (es[i]).1 = .slice (some p) n c → bo2 ≠ some p.block := fun i hi p n c e e2 => by
    have h1 := h.fe i hi p n c e
    rcases hn2 with e3 | ⟨g', e3, hg⟩
    · exact h1.2.2 (e3 ▸ e2)
    · rw [e3] at e2
      cases e2
      have := h.high _ h1.1
      omega
  refine ⟨fun j => F j ∨ (w.heap.size ≤ j ∧ j < w3.heap.size), ⟨v2, es ++ [(.slice a6 n6 c6, y)], bo2, ?_, ?_, ?_, Or.inl h.fl, ?_, ?_, ?_, ?_⟩, hM3, fun j hj => by rcases hj with e | e; exact Or.inl e; exact Or.inr e.1⟩
  · rw [h3, setCell_list _ _ _ _ _ _ hv, setRow_heap _ _ _ _ _ _ hv]; rfl
  · rw [flat_append, List.length_append]
    rw [h3]
    refine OwnS.keep ho fun g e => Below.heap_setCell _ _ _ _ (hbo2 g e).2.1
  · have hm3 : Mod (fun j => bo = some j ∨ j = bl) w1 w3 := by rw [h3]; exact (hm.mono (fun j _ e => Or.inl e)).setCell ⟨bl, 0, none⟩ _ (fun _ => Or.inr rfl)
    have e1 : begL k (L ++ [(x, y)]) = begL k L ++ [(k.take x, y)] := by simp [begL]
    rw [e1]
    have hE : Ents w3 es (begL k L) := ents_keep (h.ents.below hB) hm3 (fun i hi p n c e t => by
      have q := h.fe i hi p n c e
      rcases t with t | t
      · exact q.2.2 t
      · exact q.2.1 t)
    have hs1 := hs.below hb2
    refine hE.snoc ⟨⟨_, _, _, rfl, hs1.len, bytes_keep hs1.at_ hm3 (fun p e t => ?_), hs1.cap, hs1.capm, hs1.nil⟩, rfl, hy⟩
    have q := hn p e
    rcases t with t | t
    · have := h.high _ (h.fo _ t).1; omega
    · omega
  · intro g e
    have q := hbo2 g e
    exact ⟨by rcases q.1 with r | r; exact Or.inl r; exact Or.inr ⟨r, by omega⟩, q.2.1⟩
  · intro i hi p n c e
    by_cases hi2 : i < es.length
    · rw [List.getElem_append_left hi2] at e
      have q := h.fe i hi2 p n c e
      exact ⟨Or.inl q.1, q.2.1, hold i hi2 p n c e⟩
    · have ei : i = es.length := by simp at hi; omega
      subst ei
      have e' : (Value.slice a6 n6 c6) = .slice (some p) n c := by simpa using e
      injection e' with e'
      have q := hn p e'
      exact ⟨Or.inr ⟨q.1, by omega⟩, by omega, hneq p e'⟩
  · intro j hj
    rcases hj with e | e
    · exact h.low j e
    · omega
  · intro j hj
    rcases hj with e | e
    · have := h.high j e; omega
    · exact e.2
end Go.Proofs.YtfhdiimcimafkaaGreatDoor
/- find.Beginnings; what find tells is what the pairs have. -/
namespace Go.Proofs.YtfhdiimcimafkaaGreatDoor
open Go.RowKit
def prsPost (l : PL) (w : World) (e : Ending) (w' : World) : Prop := ∃ a c, e = .returned (.slice a l.length c) ∧ Prs w' a l.length c l ∧ Below w.heap.size w w'
/-! What find tells, by the pairs. -/
def begF (k : List Nat) (l : PL) : PL := l.filter fun p => decide (p.1 <+: k)
theorem begF_append (k : List Nat) (l m : PL) : begF k (l ++ m) = begF k l ++ begF k m := by simp [begF]
theorem begF_pre (p : List Nat) (l : PL) (k : List Nat) : begF k (pre p l) = if p <+: k then pre p (begF (k.drop p.length) l) else [] := by
  unfold begF pre
  rw [List.filter_map]
  split
  · rename_i h
    obtain ⟨r, rfl⟩ := h
    rw [List.drop_left]
    congr 1
    refine List.filter_congr fun x _ => ?_
    simp [List.prefix_append_right_inj]
  · rename_i h
    have : l.filter ((fun p => decide (p.1 <+: k)) ∘ fun x : List Nat × Int => (p ++ x.1, x.2)) = [] := by
      rw [List.filter_eq_nil_iff]
      intro x _
      simp only [Function.comp, decide_eq_true_eq]
      exact fun q => h ((List.prefix_append p x.1).trans q)
    rw [this]; rfl
theorem begF_none {k : List Nat} {l : PL} (h : ∀ p ∈ l, ¬ p.1 <+: k) : begF k l = [] := by
  unfold begF
  rw [List.filter_eq_nil_iff]
  intro p hp
  simpa using h p hp
/-- beginnings of what is left, told with what is used up -/
theorem tbeg_pairs : ∀ (t : Tr) (m : Nat) (k : List Nat), TOk t → ∀ k0 : List Nat, k0.length = m → (tbeg t m k).map (fun x => ((k0 ++ k).take x.1, x.2)) = pre k0 (begF k (tl t))
  | .nil, m, k, _, k0, _ => rfl
  | .kid b t r, m, [], ⟨h1, h2, h3, h4, h5, h6⟩, k0, hk => by
    have : begF [] (tl (.kid b t r)) = [] := begF_none fun p hp q => by
      obtain ⟨c, s, e, _⟩ := tl_heads (.kid b t r) trivial ⟨h1, h2, h3, h4, h5, h6⟩ p hp
      rw [e] at q
      simp at q
    rw [this]; rfl
  | .kid b t r, m, c :: k, ⟨h1, h2, h3, h4, h5, h6⟩, k0, hk => by
    unfold tl
    rw [begF_append, begF_pre]
    by_cases e : b = c
    · subst e
      have hr : begF (b :: k) (tl r) = [] := begF_none fun p hp q => by
        obtain ⟨c, s, e, hc⟩ := tl_from r b h4 h5 h6 p hp
        rw [e, List.cons_prefix_cons] at q
        omega
      have := tbeg_pairs t (m + 1) k h3 (k0 ++ [b]) (by simp [hk])
      rw [hr, List.append_nil, if_pos ⟨k, rfl⟩, pre_pre]
      simp only [tbeg, if_true, List.append_assoc, List.singleton_append] at this ⊢
      exact this
    · have hn : ¬ [b] <+: c :: k := fun q => e (List.cons_prefix_cons.1 q).1
      rw [if_neg hn, List.nil_append]
      have := tbeg_pairs r m (c :: k) h5 k0 hk
      simpa [tbeg, e] using this
  | .node bs v hs leaf ks, m, k, ⟨h1, h2, h3, h4, h5, h6, h7⟩, k0, hk => by
    unfold tl tbeg
    rw [begF_append, begF_pre]
    by_cases hp : bs <+: k
    · rw [if_pos hp, if_pos hp]
      obtain ⟨r, rfl⟩ := hp
      rw [List.drop_left, pre_append, pre_pre, List.map_append]
      congr 1
      · cases hs
        · rfl
        · simp only [if_true, begF, List.filter_cons, List.prefix_append, decide_true, List.filter_nil, List.map_cons, List.map_nil, pre]
          have : (k0 ++ (bs ++ r)).take (m + bs.length) = k0 ++ bs := by
            rw [← List.append_assoc, List.take_left' (by simp [hk])]
          rw [this]
      · by_cases hr : r = []
        · subst hr
          have : begF [] (tl ks) = [] := begF_none fun p hp q => by
            obtain ⟨c, s, e, _⟩ := tl_heads ks h6 h7 p hp
            rw [e] at q
            simp at q
          rw [this]; simp
        · rw [if_neg hr]
          have := tbeg_pairs ks (m + bs.length) r h7 (k0 ++ bs) (by simp [hk])
          rw [List.append_assoc] at this
          exact this
    · rw [if_neg hp, if_neg hp]
      have : begF k (if hs = true then [(bs, v)] else []) = [] := begF_none fun p hpm q => by
        cases hs
        · simp at hpm
        · simp at hpm; subst hpm; exact hp q
      rw [this]; rfl
theorem begL_pairs (t : Tr) (k : List Nat) (h : TOk t) : begL k (tbeg t 0 k) = begF k (tl t) := by
  have := tbeg_pairs t 0 k h [] rfl
  simpa [begL] using this
def lastL (l : PL) : List Nat × Int × Bool := match l.getLast? with
  | none => ([], 0, false)
  | some p => (p.1, p.2, true)
theorem lastK_pairs (t : Tr) (k : List Nat) (h : TOk t) : lastK k (tbeg t 0 k) = lastL (begF k (tl t)) := by
  rw [← begL_pairs t k h]
  unfold lastK lastL begL
  rw [List.getLast?_map]
  cases (tbeg t 0 k).getLast? with
  | none => rfl
  | some x => rfl
end Go.Proofs.YtfhdiimcimafkaaGreatDoor
/- A canonical tree is told by its pairs. No program. -/
namespace Go.Proofs.YtfhdiimcimafkaaGreatDoor
def sh : Tr → Tr
  | .nil => .nil
  | .kid b t r => .kid b (sh t) (sh r)
  | .node bs v has _ ks => .node bs v has false (sh ks)
theorem tstep_sh : ∀ (t : Tr) (k : List Nat), tstep (sh t) k = tstep t k
  | .nil, _ => rfl
  | .kid b t r, [] => rfl
  | .kid b t r, c :: k => by simp only [sh, tstep, tstep_sh t k, tstep_sh r (c :: k)]
  | .node bs v has leaf ks, k => by simp only [sh, tstep, tstep_sh ks]
theorem tl_ne : ∀ (t : Tr), IsN t → TOk t → Can t → tl t ≠ []
  | .nil, h, _, _ => h.elim
  | .kid .., h, _, _ => h.elim
  | .node bs v has leaf ks, _, ⟨h1, h2, h3, h4, h5, h6, h7⟩, ⟨c1, c2⟩ => by
    cases has with
    | true => simp [tl]
    | false =>
      have hl : leaf = false := by
        cases leaf with
        | false => rfl
        | true => exact absurd (h5 rfl).1 (by simp)
      have := c2 hl
      match ks, h6, h7, c1, this with
      | .nil, _, _, _, q => simp [chain] at q
      | .node .., h, _, _, _ => exact h.elim
      | .kid b t r, _, ⟨k1, k2, k3, k4, k5, k6⟩, ⟨d1, d2⟩, q =>
        have := tl_ne t k2 k3 d1
        simp [tl, pre, this]
theorem pre_inj {p : List Nat} {l m : PL} (h : pre p l = pre p m) : l = m := by
  have := congrArg (strip p.length) h
  simpa [strip, pre, Function.comp_def] using this
theorem part_long {bs : List Nat} {v : Int} {has leaf : Bool} {ks : Tr} (hO : TOk (.node bs v has leaf ks)) (hC : Can (.node bs v has leaf ks)) (c : Nat) (r : List Nat) : ¬ ∀ p ∈ tl (.node bs v has leaf ks), (bs ++ c :: r) <+: p.1 := by
  intro h
  obtain ⟨h1, h2, h3, h4, h5, h6, h7⟩ := hO
  obtain ⟨c1, c2⟩ := hC
  cases has with
  | true =>
    have := (h (bs, v) (by simp [tl])).length_le
    simp at this
    omega
  | false =>
    have hl : leaf = false := by
      cases leaf with
      | false => rfl
      | true => exact absurd (h5 rfl).1 (by simp)
    have := c2 hl
    match ks, h6, h7, c1, this with
    | .nil, _, _, _, q => simp [chain] at q
    | .node .., h, _, _, _ => exact h.elim
    | .kid b t .nil, _, _, _, q => simp [chain] at q
    | .kid b t (.node ..), _, ⟨_, _, _, k4, _⟩, _, q => exact k4.elim
    | .kid b t (.kid b2 t2 r2), _, ⟨k1, k2, k3, k4, ⟨m1, m2, m3, m4, m5, m6⟩, k6⟩, ⟨d1, d2, d3⟩, q =>
      have k6 : b < b2 := k6
      obtain ⟨x, hx⟩ := List.exists_mem_of_ne_nil _ (tl_ne t k2 k3 d1)
      obtain ⟨y, hy⟩ := List.exists_mem_of_ne_nil _ (tl_ne t2 m2 m3 d2)
      have e1 := h (bs ++ b :: x.1, x.2) (by
        simp only [tl, pre_append, pre_pre, List.mem_append]
        exact Or.inr (Or.inl (List.mem_map.2 ⟨x, hx, by simp⟩)))
      have e2 := h (bs ++ b2 :: y.1, y.2) (by
        simp only [tl, pre_append, pre_pre, List.mem_append]
        exact Or.inr (Or.inr (Or.inl (List.mem_map.2 ⟨y, hy, by simp⟩))))
      rw [List.prefix_append_right_inj, List.cons_prefix_cons] at e1 e2
      omega
theorem tl_begins {bs : List Nat} {v : Int} {has leaf : Bool} {ks : Tr} : ∀ p ∈ tl (.node bs v has leaf ks), bs <+: p.1 := fun p hp => by
  unfold tl at hp
  rcases List.mem_append.1 hp with hp | hp
  · cases has
    · simp at hp
    · simp at hp; subst hp; exact List.prefix_refl _
  · obtain ⟨q, hq, rfl⟩ := List.mem_map.1 hp
    exact List.prefix_append _ _
theorem pre_split {p : List Nat} : ∀ {q : List Nat} {k : List Nat}, p <+: k → q <+: k → (p = q ∨ (∃ c r, q = p ++ c :: r) ∨ ∃ c r, p = q ++ c :: r) := by
  intro q k h1 h2
  rcases Nat.lt_trichotomy p.length q.length with h | h | h
  · obtain ⟨r, rfl⟩ := List.prefix_of_prefix_length_le h1 h2 (by omega)
    cases r with
    | nil => simp at h
    | cons c r => exact Or.inr (Or.inl ⟨c, r, rfl⟩)
  · exact Or.inl ((List.prefix_of_prefix_length_le h1 h2 (by omega)).eq_of_length h)
  · obtain ⟨r, rfl⟩ := List.prefix_of_prefix_length_le h2 h1 (by omega)
    cases r with
    | nil => simp at h
    | cons c r => exact Or.inr (Or.inr ⟨c, r, rfl⟩)
def hd (b : Nat) (p : List Nat × Int) : Bool := p.1.head? == some b
theorem hd_pre (b : Nat) (l : PL) : (pre [b] l).filter (hd b) = pre [b] l := by
  rw [List.filter_eq_self]
  intro x hx
  obtain ⟨q, hq, rfl⟩ := List.mem_map.1 hx
  simp [hd]
theorem hd_pre' (b : Nat) (l : PL) : (pre [b] l).filter (fun x => !hd b x) = [] := by
  rw [List.filter_eq_nil_iff]
  intro x hx
  obtain ⟨q, hq, rfl⟩ := List.mem_map.1 hx
  simp [hd]
theorem hd_from {b : Nat} {r : Tr} (h1 : IsK r) (h2 : TOk r) (h3 : From b r) : (tl r).filter (hd b) = [] ∧ (tl r).filter (fun x => !hd b x) = tl r := by
  have key : ∀ p ∈ tl r, hd b p = false := fun p hp => by
    obtain ⟨c, s, e, hc⟩ := tl_from r b h1 h2 h3 p hp
    simp [hd, e]
    omega
  exact ⟨List.filter_eq_nil_iff.2 fun p hp => by simp [key p hp], List.filter_eq_self.2 fun p hp => by simp [key p hp]⟩
theorem sh_eq : ∀ (t t' : Tr), (IsN t ∧ IsN t' ∨ IsK t ∧ IsK t') → TOk t → TOk t' → Can t → Can t' → tl t = tl t' → sh t = sh t'
  | .nil, .nil, _, _, _, _, _, _ => rfl
  | .nil, .node .., h, _, _, _, _, _ => by rcases h with ⟨h, _⟩ | ⟨_, h⟩ <;> exact h.elim
  | .kid .., .node .., h, _, _, _, _, _ => by rcases h with ⟨h, _⟩ | ⟨_, h⟩ <;> exact h.elim
  | .node .., .nil, h, _, _, _, _, _ => by rcases h with ⟨_, h⟩ | ⟨h, _⟩ <;> exact h.elim
  | .node .., .kid .., h, _, _, _, _, _ => by rcases h with ⟨_, h⟩ | ⟨h, _⟩ <;> exact h.elim
  | .nil, .kid b t r, _, _, ⟨_, h2, h3, _⟩, _, ⟨c1, _⟩, e => by
    have := tl_ne t h2 h3 c1
    simp [tl, pre, this] at e
  | .kid b t r, .nil, _, ⟨_, h2, h3, _⟩, _, ⟨c1, _⟩, _, e => by
    have := tl_ne t h2 h3 c1
    simp [tl, pre, this] at e
  | .kid b t r, .kid b' t' r', _, ⟨h1, h2, h3, h4, h5, h6⟩, ⟨k1, k2, k3, k4, k5, k6⟩, ⟨c1, c2⟩, ⟨d1, d2⟩, e => by
    unfold tl at e
    obtain rfl : b = b' := by
      cases e1 : tl t with
      | nil => exact absurd e1 (tl_ne t h2 h3 c1)
      | cons x l =>
        cases e2 : tl t' with
        | nil => exact absurd e2 (tl_ne t' k2 k3 d1)
        | cons y m =>
          rw [e1, e2] at e
          simp [pre] at e
          exact e.1.1.1
    have f1 := congrArg (List.filter (hd b)) e
    have f2 := congrArg (List.filter (fun x => !hd b x)) e
    rw [List.filter_append, List.filter_append, hd_pre, hd_pre, (hd_from h4 h5 h6).1, (hd_from k4 k5 k6).1, List.append_nil, List.append_nil] at f1
    rw [List.filter_append, List.filter_append, hd_pre', hd_pre', (hd_from h4 h5 h6).2, (hd_from k4 k5 k6).2, List.nil_append, List.nil_append] at f2
    simp only [sh, sh_eq t t' (Or.inl ⟨h2, k2⟩) h3 k3 c1 d1 (pre_inj f1), sh_eq r r' (Or.inr ⟨h4, k4⟩) h5 k5 c2 d2 f2]
  | .node bs v has leaf ks, .node bs' v' has' leaf' ks', _, hO, hO', hC, hC', e => by
    obtain rfl : bs = bs' := by
      obtain ⟨x, hx⟩ := List.exists_mem_of_ne_nil _ (tl_ne (.node bs v has leaf ks) trivial hO hC)
      rcases pre_split (tl_begins x hx) (tl_begins x (by rw [← e]; exact hx)) with q | ⟨c, r, q⟩ | ⟨c, r, q⟩
      · exact q
      · exact absurd (fun p hp => by rw [← q]; exact tl_begins p (by rw [← e]; exact hp)) (part_long hO hC c r)
      · exact absurd (fun p hp => by rw [← q]; exact tl_begins p (by rw [e]; exact hp)) (part_long hO' hC' c r)
    obtain ⟨h1, h2, h3, h4, h5, h6, h7⟩ := hO
    obtain ⟨k1, k2, k3, k4, k5, k6, k7⟩ := hO'
    unfold tl at e
    have hno : ∀ {l : Tr} {w : Int} {m : PL}, IsK l → TOk l → ∀ x, (bs, x) ∉ pre bs (tl l) := fun {l w m} a1 a2 x q => by
      obtain ⟨y, hy, ey⟩ := List.mem_map.1 q
      obtain ⟨c, s, e2, _⟩ := tl_heads l a1 a2 y hy
      rw [e2] at ey
      have := congrArg (fun z => z.1.length) ey
      simp at this
    have hhas : has = has' ∧ v = v' ∧ tl ks = tl ks' := by
      cases has <;> cases has'
      · simp only [Bool.false_eq_true, if_false, List.nil_append] at e
        exact ⟨rfl, (h4 rfl).trans (k4 rfl).symm, pre_inj e⟩
      · simp only [Bool.false_eq_true, if_false, List.nil_append, if_true] at e
        exact absurd (by rw [e]; simp) (hno (w := 0) (m := []) h6 h7 v')
      · simp only [Bool.false_eq_true, if_false, List.nil_append, if_true] at e
        exact absurd (by rw [← e]; simp) (hno (w := 0) (m := []) k6 k7 v)
      · simp only [if_true, List.singleton_append, List.cons.injEq, Prod.mk.injEq, true_and] at e
        exact ⟨rfl, e.1, pre_inj e.2⟩
    obtain ⟨rfl, rfl, e3⟩ := hhas
    simp only [sh, sh_eq ks ks' (Or.inr ⟨h6, k6⟩) h7 k7 hC.1 hC'.1 e3]
end Go.Proofs.YtfhdiimcimafkaaGreatDoor
/- The document's Begins, Get, Beginnings, Longest. -/
namespace Go.Proofs.YtfhdiimcimafkaaGreatDoor
open Go.RowKit
theorem quiet_common {w : World} {a b : Option Addr} {n c m d : Nat} {s t : List Nat} (h : Sl w a n c s) (k : Sl w b m d t) (q : Nat) : Calls Tryz.prog 39 #[.slice a n c, .slice b m d] (w.drewN q) fun e w' => e = .returned (.int .i64 (lcp s t : Nat)) ∧ ∃ p, w' = (w.drewN q).drewN p :=
  ref_common (w.drewN q) a b n c m d s t (h.drewN q).at_ (k.drewN q).at_ h.len k.len (Nat.le_trans h.cap h.capm) (Nat.le_trans k.cap k.capm)
theorem ref_begins {w : World} {a b : Option Addr} {n c m d : Nat} {k p : List Nat} (h : Sl w a n c k) (h2 : Sl w b m d p) : Calls Tryz.prog 66 #[.slice a n c, .slice b m d] w fun e w' => e = .returned (.bool (decide (p <+: k))) ∧ ∃ q, w' = w.drewN q := by
  have hC := Lib.hid (fun q => quiet_common h h2 q)
  have hm := h2.len
  by_cases e : p <+: k
  · have hR : Hid (decide (p <+: k) = true) := by show _ = _; simp [e]
    have e1 : (lcp k p) = m := by rw [← hm]; exact (lcp_isPrefix k p).2 e
    rw [hR.out]
    rw [e1] at hC
    clear h h2 hm e e1 hR
    go_enter Tryz.func66, Tryz.ntmps66
    go_wp2_with (go_at_call 39; refine (hC.out 0).mono ?_; rintro e w2 ⟨rfl, nq, rfl⟩)
    go_ret
    exact ⟨rfl, nq, rfl⟩
  · have hR : Hid (decide (p <+: k) = false) := by show _ = _; simp [e]
    have e1 : ¬ (lcp k p) = m := fun q => e ((lcp_isPrefix k p).1 (by rw [q, hm]))
    have e2 : ¬ ((lcp k p : Nat) : Int) = (m : Nat) := by omega
    rw [hR.out]
    generalize lcp k p = L at *
    clear h h2 hm e e1 hR
    go_enter Tryz.func66, Tryz.ntmps66
    go_wp2_with (go_at_call 39; refine (hC.out 0).mono ?_; rintro e w2 ⟨rfl, nq, rfl⟩)
    go_ret
    exact ⟨by show Ending.returned (.bool ((L : Int) == (m : Int))) = _; rw [beq_eq_false_iff_ne.2 e2], nq, rfl⟩
theorem quiet_begins {w : World} {a b : Option Addr} {n c m d : Nat} {k p : List Nat} (h : Sl w a n c k) (h2 : Sl w b m d p) (q : Nat) : Calls Tryz.prog 66 #[.slice a n c, .slice b m d] (w.drewN q) fun e w' => e = .returned (.bool (decide (p <+: k))) ∧ ∃ p, w' = (w.drewN q).drewN p :=
  ref_begins (h.drewN q) (h2.drewN q)
theorem plook_at {l : PL} {k : List Nat} {i : Nat} (hA : ∀ j, j < i → (l.getD j ([], 0)).1 ≠ k) (hi : i < l.length) (e : (l.getD i ([], 0)).1 = k) : plook l k = some (l.getD i ([], 0)).2 := by
  unfold plook
  have : l.find? (fun p => p.1 == k) = some (l.getD i ([], 0)) := by
    rw [List.find?_eq_some_iff_getElem]
    refine ⟨by simpa using e, i, hi, by rw [getD_of_lt hi], fun j hj => ?_⟩
    have := hA j hj
    rw [getD_of_lt (by omega)] at this
    simpa using this
  rw [this]; rfl
theorem plook_no {l : PL} {k : List Nat} (hA : ∀ j, j < l.length → (l.getD j ([], 0)).1 ≠ k) : plook l k = none := plook_none fun p hp => by
  obtain ⟨i, hi, rfl⟩ := List.getElem_of_mem hp
  have := hA i hi
  rwa [getD_of_lt hi] at this
def plsPost (ty : Nat) (l : PL) (w : World) (e : Ending) (w' : World) : Prop := ∃ v, e = .returned v ∧ PLs ty w v l w'
theorem begF_take {k : List Nat} {l : PL} {i : Nat} (hi : i < l.length) : begF k (l.take (i + 1)) = begF k (l.take i) ++ if (l.getD i ([], 0)).1 <+: k then [l.getD i ([], 0)] else [] := by
  rw [List.take_succ_eq_append_getElem hi, begF_append, getD_of_lt hi]
  congr 1
  simp [begF, List.filter_cons]
/-- a block of a pair holds no bytes -/
theorem sl_off_pair {w w' : World} {b : Nat} {t : Nat} {a : Option Addr} {n c : Nat} {bs : List Nat} (h : Sl w a n c bs) (hb : w.heap[b]? = some (.cells [.slice none 0 0, .int .u64 0].toArray t (0, 0))) (hm : Mod (fun j => j = b) w w') : Sl w' a n c bs := by
  refine ⟨h.len, ⟨h.at_.1, fun i hi => ?_⟩, h.cap, h.capm, h.nil⟩
  obtain ⟨p, e, h1, h2⟩ := h.at_.2 i hi
  have hne : (p.add i).block ≠ b := fun q => by
    rw [World.cell?, q, hb] at h2
    simp only at h2
    split at h2
    · cases h2
    · rcases ho : (p.add i).off with _ | _ | o <;> rw [ho] at h2 <;> simp at h2
  refine ⟨p, e, Nat.lt_of_lt_of_le h1 hm.size, ?_⟩
  rw [← h2]
  unfold World.cell?
  rw [hm.same _ h1 hne]
theorem lastL_at {l : PL} {n : Nat} (h : l.length = n + 1) : lastL l = ((l.getD n ([], 0)).1, (l.getD n ([], 0)).2, true) := by
  unfold lastL
  rw [List.getLast?_eq_getElem?, h, Nat.add_sub_cancel, List.getElem?_eq_getElem (by omega), getD_of_lt (by omega)]
end Go.Proofs.YtfhdiimcimafkaaGreatDoor
/- Trees: how many nodes are gone into, how deep they are. No program. -/
namespace Go.Proofs.YtfhdiimcimafkaaGreatDoor
/-- how deep a tree is; of a row: the deepest one -/
def tdep : Tr → Nat
  | .nil => 0
  | .kid _ t r => max (tdep t) (tdep r)
  | .node _ _ _ _ ks => 1 + tdep ks
theorem tstep_dep : ∀ (t : Tr) (k : List Nat), tstep t k ≤ tdep t
  | .nil, _ => Nat.le_refl _
  | .kid b t r, [] => Nat.zero_le _
  | .kid b t r, c :: k => by
    have h1 := tstep_dep t k
    have h2 := tstep_dep r (c :: k)
    simp only [tstep, tdep]
    split <;> omega
  | .node bs v has leaf ks, k => by
    have h1 := tstep_dep ks (k.drop bs.length)
    simp only [tstep, tdep]
    split
    · split <;> omega
    · omega
theorem tstep_len : ∀ (t : Tr) (k : List Nat), TOk t → (IsN t → tstep t k ≤ k.length + 1) ∧ (IsK t → tstep t k ≤ k.length)
  | .nil, _, _ => ⟨fun h => h.elim, fun _ => Nat.zero_le _⟩
  | .kid b t r, [], _ => ⟨fun h => h.elim, fun _ => Nat.zero_le _⟩
  | .kid b t r, c :: k, ⟨h1, h2, h3, h4, h5, h6⟩ => ⟨fun h => h.elim, fun _ => by
    have a1 := (tstep_len t k h3).1 h2
    have a2 := (tstep_len r (c :: k) h5).2 h4
    simp only [tstep, List.length_cons] at *
    split <;> omega⟩
  | .node bs v has leaf ks, k, ⟨h1, h2, h3, h4, h5, h6, h7⟩ => ⟨fun _ => by
    have a := (tstep_len ks (k.drop bs.length) h7).2 h6
    rw [List.length_drop] at a
    simp only [tstep]
    split
    · split <;> omega
    · omega, fun h => h.elim⟩
theorem tdep_sh : ∀ (t : Tr), tdep (sh t) = tdep t
  | .nil => rfl
  | .kid b t r => by simp only [sh, tdep, tdep_sh t, tdep_sh r]
  | .node bs v has leaf ks => by simp only [sh, tdep, tdep_sh ks]
theorem tstep_le {t : Tr} (k : List Nat) (h : t = .nil ∨ IsN t) (hO : TOk t) : tstep t k ≤ k.length + 1 := by
  rcases h with rfl | h
  · exact Nat.zero_le _
  · exact (tstep_len t k hO).1 h
/-- two canonical trees of the same pairs are gone into alike -/
theorem tstep_same {t t' : Tr} (k : List Nat) (h1 : TOk t) (h2 : TOk t') (c1 : Can t) (c2 : Can t') (n1 : t = .nil ∨ IsN t) (n2 : t' = .nil ∨ IsN t') (e : tl t = tl t') : tstep t k = tstep t' k := by
  rcases n1 with rfl | n1
  · rcases n2 with rfl | n2
    · rfl
    · exact absurd e.symm (tl_ne _ n2 h2 c2)
  · rcases n2 with rfl | n2
    · exact absurd e (tl_ne _ n1 h1 c1)
    · rw [← tstep_sh t, ← tstep_sh t', sh_eq t t' (Or.inl ⟨n1, n2⟩) h1 h2 c1 c2 e]
end Go.Proofs.YtfhdiimcimafkaaGreatDoor
/- What a tree's shape is, as bytes. No program. -/
namespace Go.Proofs.YtfhdiimcimafkaaGreatDoor
/-- a digit's byte -/
def hexN (d : Nat) : Nat := if d < 10 then 48 + d else 87 + d
/-- a byte's two digits -/
def hexB (b : Nat) : List Nat := [hexN (b / 16), hexN (b % 16)]
/-- the text of bytes -/
def hexL (bs : List Nat) : List Nat := bs.flatMap hexB
theorem hexN_lt {d : Nat} (h : d < 16) : hexN d < 256 := by unfold hexN; split <;> omega
theorem hexL_lt {bs : List Nat} (h : ∀ b ∈ bs, b < 256) : ∀ x ∈ hexL bs, x < 256 := fun x hx => by
  unfold hexL hexB at hx
  simp only [List.mem_flatMap, List.mem_cons, List.not_mem_nil, or_false] at hx
  obtain ⟨b, hb, rfl | rfl⟩ := hx
  · exact hexN_lt (by have := h b hb; omega)
  · exact hexN_lt (by omega)
theorem hexL_len (bs : List Nat) : (hexL bs).length = 2 * bs.length := by
  induction bs with
  | nil => rfl
  | cons b bs ih => simp only [hexL, List.flatMap_cons, List.length_append, List.length_cons] at *; rw [ih]; simp [hexB]; omega
theorem hexL_snoc (bs : List Nat) (b : Nat) : hexL (bs ++ [b]) = hexL bs ++ hexB b := by simp [hexL]
/-- bytes as they stand in texts -/
def u8s (l : List Nat) : List UInt8 := l.map UInt8.ofNat
theorem u8s_app (a b : List Nat) : u8s (a ++ b) = u8s a ++ u8s b := by simp [u8s]
/-- a number's digits -/
def decU (n : Nat) : List UInt8 := Lib.decDigits n
/-- how many kids -/
def krowC : Tr → Nat
  | .kid _ _ r => 1 + krowC r
  | _ => 0
/-- the shape of a node; of the kids of a row, one behind the other -/
def shp : Tr → List UInt8
  | .nil => []
  | .kid b t r => 58 :: (u8s (hexL [b]) ++ (shp t ++ shp r))
  | .node bs v has leaf ks => (if leaf then [76] else decU (kindOf (krowC ks)) ++ [60]) ++ (u8s (hexL bs) ++ ((if has then 61 :: decU v.toNat else []) ++ (if leaf then [] else shp ks ++ [62])))
/-- the shape of a tree -/
def shpT (t : Tr) : List UInt8 := match t with | .nil => [46] | t => shp t
theorem krowC_chain : ∀ (t : Tr), IsK t → krowC t = (chain t).length
  | .nil, _ => rfl
  | .node .., h => h.elim
  | .kid b t r, _ => by
    cases r with
    | nil => rfl
    | node => rfl
    | kid c t2 r2 =>
      have := krowC_chain (.kid c t2 r2) trivial
      simp only [krowC, chain, List.length_cons] at *
      omega
theorem decU_len {n : Nat} (h : n < 18446744073709551616) : (decU n).length ≤ 20 := by
  unfold decU
  rw [Lib.decDigits_length]
  by_cases h0 : n = 0
  · subst h0; rw [Lib.nDigits_small (by omega)]; omega
  · have := Lib.numDigits_eq n (by omega) h
    split at this <;> omega
end Go.Proofs.YtfhdiimcimafkaaGreatDoor
/- Numbers' bytes. No program but in how its operations count. -/
namespace Go.Proofs.YtfhdiimcimafkaaGreatDoor
/-- a number's bytes, seven bits each -/
def numL (n : Nat) : List Nat := if h : n < 128 then [n] else (128 + n % 128) :: numL (n / 128)
termination_by n
decreasing_by exact Nat.div_lt_self (by omega) (by omega)
theorem numL_lt {n : Nat} (h : n < 128) : numL n = [n] := by rw [numL, dif_pos h]
theorem numL_ge {n : Nat} (h : ¬ n < 128) : numL n = (128 + n % 128) :: numL (n / 128) := by rw [numL, dif_neg h]
theorem numL_byte (n : Nat) : ∀ x ∈ numL n, x < 256 := by
  induction n using Nat.strongRecOn with
  | ind n ih =>
    by_cases h : n < 128
    · rw [numL_lt h]; intro x hx; simp at hx; omega
    · rw [numL_ge h]
      intro x hx
      rcases List.mem_cons.1 hx with rfl | hx
      · omega
      · exact ih (n / 128) (Nat.div_lt_self (by omega) (by omega)) x hx
theorem numL_mono (n : Nat) : ∀ m, m ≤ n → (numL m).length ≤ (numL n).length := by
  induction n using Nat.strongRecOn with
  | ind n ih =>
    intro m hm
    by_cases h : n < 128
    · rw [numL_lt h, numL_lt (by omega : m < 128)]; simp
    · by_cases h2 : m < 128
      · rw [numL_ge h, numL_lt h2]; simp
      · rw [numL_ge h, numL_ge h2]
        simp only [List.length_cons]
        have := ih (n / 128) (Nat.div_lt_self (by omega) (by omega)) (m / 128) (Nat.div_le_div_right hm)
        omega
theorem numL_len : ∀ (k n : Nat), n < 128 ^ (k + 1) → (numL n).length ≤ k + 1
  | 0, n, h => by rw [numL_lt (by simpa using h)]; simp
  | k + 1, n, h => by
    by_cases h1 : n < 128
    · rw [numL_lt h1]; simp
    · rw [numL_ge h1, List.length_cons]
      have := numL_len k (n / 128) (by
        rw [Nat.div_lt_iff_lt_mul (by omega)]
        rw [Nat.pow_succ] at h
        exact h)
      omega
theorem numL_ten {n : Nat} (h : n < 18446744073709551616) : (numL n).length ≤ 10 := numL_len 9 n (by omega)
theorem numL_pos (n : Nat) : 1 ≤ (numL n).length := by
  by_cases h : n < 128
  · rw [numL_lt h]; simp
  · rw [numL_ge h]; simp
theorem or128 (x : Nat) (h : x < 128) : (x ||| 128) = 128 + x := by
  have : ∀ x : Fin 128, (x.val ||| 128) = 128 + x.val := by decide
  exact this ⟨x, h⟩
theorem bv_or (x : Nat) (h : x < 128) : (BitVec.ofInt 8 (x : Int) ||| BitVec.ofInt 8 128).toNat = 128 + x := by
  rw [BitVec.toNat_or]
  have h1 : (BitVec.ofInt 8 (x : Int)).toNat = x := by
    rw [BitVec.toNat_ofInt]; omega
  rw [h1]
  exact or128 x h
theorem wrap_u8 {x : Nat} (h : x < 256) : IntKind.u8.wrap (x : Int) = (x : Int) := IntWalk.u8_in _ (by omega)
theorem wrap_u64 {x : Nat} (h : x < 18446744073709551616) : IntKind.u64.wrap (x : Int) = (x : Int) := IntWalk.u64_in _ (by omega)
theorem tmod128 (k : Nat) : (k : Int).tmod 128 = ((k % 128 : Nat) : Int) := by rw [Int.tmod_eq_emod_of_nonneg (by omega)]; omega
theorem tdiv128 (k : Nat) : (k : Int).tdiv 128 = ((k / 128 : Nat) : Int) := by rw [Int.tdiv_eq_ediv_of_nonneg (by omega)]; omega
theorem fdiv128 (k : Nat) : (k : Int).fdiv 128 = ((k / 128 : Nat) : Int) := by rw [Int.fdiv_eq_ediv_of_nonneg _ (by omega)]; omega
theorem run_or (P : Program) (t : TypeId) (x : Nat) (h : x < 128) (w : World) : (binOp .or t (.int .u8 (x : Nat)) (.int .u8 128)).run P w = .ok (.int .u8 ((128 + x : Nat) : Int)) w := by
  have e : (BitVec.ofInt IntKind.u8.bits (x : Int) ||| BitVec.ofInt IntKind.u8.bits 128).toNat = 128 + x := bv_or x h
  show (Op.intBits .or .u8 (x : Int) 128).run P w = _
  simp only [Op.intBits, e]
  rw [wrap_u8 (by omega)]
  rfl
theorem bits_or (x : Nat) (h : x < 128) : bits .or .u8 (x : Int) 128 = ((128 + x : Nat) : Int) := by
  have e : (BitVec.ofInt IntKind.u8.bits (x : Int) ||| BitVec.ofInt IntKind.u8.bits 128).toNat = 128 + x := bv_or x h
  unfold bits
  simp only [e]
  exact wrap_u8 (by omega)
theorem run_shr7 (P : Program) (t : TypeId) (k : Nat) (w : World) : (binOp .shr t (.int .u64 (k : Nat)) (.int .u64 7)).run P w = .ok (.int .u64 ((k / 128 : Nat) : Int)) w := by
  have e : (k : Int).fdiv (2 ^ (min (7 : Int).toNat IntKind.u64.bits)) = ((k / 128 : Nat) : Int) := fdiv128 k
  show (Op.shift .shr .u64 (k : Int) .u64 7).run P w = _
  simp only [Op.shift, show ¬ (7 : Int) < 0 by omega, if_false, e]
  rfl
end Go.Proofs.YtfhdiimcimafkaaGreatDoor
/- alive of law 14. -/
namespace Go.Proofs.YtfhdiimcimafkaaGreatDoor
open Go.RowKit
theorem sl_one (w : World) (x : Nat) (t : TypeId) (hx : x < 256) : Sl (w.alloc (.cells #[.int .u8 (x : Nat)] t)) (some ⟨w.heap.size, 0, none⟩) 1 1 [x] := by
  have hb : (w.alloc (.cells #[.int .u8 (x : Nat)] t)).heap[w.heap.size]? = some (.cells [.int .u8 (x : Nat)].toArray t (0, 0)) := heap_alloc_new w _
  refine ⟨rfl, ⟨by simpa using hx, fun i hi => ⟨_, rfl, ?_, ?_⟩⟩, Nat.le_refl _, by unfold maxLen; omega, fun e => by cases e⟩
  · rw [add0]; simp
  · rw [add0, cell_of_blk hb]
    have hi : i < 1 := hi
    obtain rfl : i = 0 := by omega
    rfl
theorem sl_two (w : World) (x y : Nat) (t : TypeId) (hx : x < 256) (hy : y < 256) : Sl (w.alloc (.cells #[.int .u8 (x : Nat), .int .u8 (y : Nat)] t)) (some ⟨w.heap.size, 0, none⟩) 2 2 [x, y] := by
  have hb : (w.alloc (.cells #[.int .u8 (x : Nat), .int .u8 (y : Nat)] t)).heap[w.heap.size]? = some (.cells [.int .u8 (x : Nat), .int .u8 (y : Nat)].toArray t (0, 0)) := heap_alloc_new w _
  refine ⟨rfl, ⟨by simp [hx, hy], fun i hi => ⟨_, rfl, ?_, ?_⟩⟩, Nat.le_refl _, by unfold maxLen; omega, fun e => by cases e⟩
  · rw [add0]; simp
  · rw [add0, cell_of_blk hb]
    have hi : i < 2 := hi
    obtain rfl | rfl : i = 0 ∨ i = 1 := by omega
    · rfl
    · rfl
def alL : PL := [([1], 5), ([1, 2], 6)]
def alT : Tr := .node [1] 5 true false (.kid 2 (.node [] 6 true true .nil) .nil)
theorem alT_ok : TOk alT := by simp [alT, TOk, IsN, IsK, From]
theorem alT_can : Can alT := by simp [alT, Can, chain]
theorem alT_l : tl alT = alL := rfl
theorem TreeV.node {Q : List NP} {t : Tr} {v : Value} (h : TreeV Q t v) (hne : tl t ≠ []) : IsN t := by
  rcases h with ⟨rfl, _⟩ | ⟨h, _⟩
  · exact absurd rfl hne
  · exact h
theorem al_steps {t : Tr} (hk : IsN t) (h1 : TOk t) (h2 : Can t) (h3 : tl t = alL) : tstep t [1, 2] = 2 := by
  rw [← tstep_sh, sh_eq t alT (Or.inl ⟨hk, trivial⟩) h1 alT_ok h2 alT_can (h3.trans alT_l.symm), tstep_sh]
  rfl
theorem al_prs (w : World) (t1 t2 t3 : TypeId) : Prs (((w.alloc (.cells #[.int .u8 1] t1)).alloc (.cells #[.int .u8 1, .int .u8 2] t2)).alloc (.cells #[.slice (some ⟨w.heap.size, 0, none⟩) 1 1, .int .u64 5, .slice (some ⟨w.heap.size + 1, 0, none⟩) 2 2, .int .u64 6] t3)) (some ⟨w.heap.size + 1 + 1, 0, none⟩) 2 2 alL := by
  obtain ⟨w1, h1⟩ : ∃ w1, w1 = w.alloc (.cells #[.int .u8 1] t1) := ⟨_, rfl⟩
  obtain ⟨w2, h2⟩ : ∃ w2, w2 = w1.alloc (.cells #[.int .u8 1, .int .u8 2] t2) := ⟨_, rfl⟩
  have s1 : w1.heap.size = w.heap.size + 1 := by rw [h1]; simp
  have s2 : w2.heap.size = w.heap.size + 1 + 1 := by rw [h2, World.size_alloc, s1]
  rw [← h1, ← h2]
  obtain ⟨w3, h3⟩ : ∃ w3, w3 = w2.alloc (.cells #[.slice (some ⟨w.heap.size, 0, none⟩) 1 1, .int .u64 5, .slice (some ⟨w.heap.size + 1, 0, none⟩) 2 2, .int .u64 6] t3) := ⟨_, rfl⟩
  rw [← h3]
  have b3 : Below w2.heap.size w2 w3 := by rw [h3]; exact (Below.refl _ _).alloc (Nat.le_refl _) _
  have b2 : Below w1.heap.size w1 w2 := by rw [h2]; exact (Below.refl _ _).alloc (Nat.le_refl _) _
  have k1 : Sl w3 (some ⟨w.heap.size, 0, none⟩) 1 1 [1] := by
    have := sl_one w 1 t1 (by omega)
    have : Sl w1 (some ⟨w.heap.size, 0, none⟩) 1 1 [1] := by rw [h1]; exact this
    exact (this.below b2).below b3
  have k2 : Sl w3 (some ⟨w.heap.size + 1, 0, none⟩) 2 2 [1, 2] := by
    have := sl_two w1 1 2 t2 (by omega) (by omega)
    rw [s1] at this
    have : Sl w2 (some ⟨w.heap.size + 1, 0, none⟩) 2 2 [1, 2] := by rw [h2]; exact this
    exact this.below b3
  have hb : w3.heap[w.heap.size + 1 + 1]? = some (.cells [.slice (some ⟨w.heap.size, 0, none⟩) 1 1, .int .u64 5, .slice (some ⟨w.heap.size + 1, 0, none⟩) 2 2, .int .u64 6].toArray t3 (0, 0)) := by
    have := heap_alloc_new w2 (.cells #[.slice (some ⟨w.heap.size, 0, none⟩) 1 1, .int .u64 5, .slice (some ⟨w.heap.size + 1, 0, none⟩) 2 2, .int .u64 6] t3)
    rw [s2] at this
    rw [h3]; exact this
  have s3 : w3.heap.size = w.heap.size + 1 + 1 + 1 := by rw [h3, World.size_alloc, s2]
  refine ⟨rfl, Nat.le_refl _, by unfold maxLen; omega, (fun e => by cases e), (by simp [alL]), fun i hi => ⟨_, rfl, ?_⟩⟩
  have hi : i < 2 := hi
  obtain rfl | rfl : i = 0 ∨ i = 1 := by omega
  · refine ⟨by rw [add0]; show w.heap.size + 1 + 1 < _; omega, _, _, _, ?_, ?_, k1⟩
    · rw [add0, cell_of_blk hb]; rfl
    · rw [add0, cell_of_blk hb]; rfl
  · refine ⟨by rw [add0]; show w.heap.size + 1 + 1 < _; omega, _, _, _, ?_, ?_, k2⟩
    · rw [add0, cell_of_blk hb]; rfl
    · rw [add0, cell_of_blk hb]; rfl
theorem al_srt : PSrt alL := by
  refine List.pairwise_cons.2 ⟨fun y hy => ?_, List.pairwise_singleton _ _⟩
  simp at hy; subst hy; rfl
theorem al_get : getVal (plook alL [1, 2]) = .tuple #[.int .u64 6, .bool true] := rfl
theorem al_has : (plook alL [1, 3]).isSome = false := rfl
theorem al_long : lastL (begF [1, 3] alL) = ([1], 5, true) := by decide
theorem al_begs : (begF [1, 2] alL).length = 2 := by decide
end Go.Proofs.YtfhdiimcimafkaaGreatDoor
/- The law FindGets. -/
namespace Go.Proofs.YtfhdiimcimafkaaGreatDoor
open Go.RowKit
/-- what a law of 14 finds -/
def truePost (w : World) (e : Ending) (w' : World) : Prop := e = .returned (.bool true) ∧ Below w.heap.size w w'
theorem far_no {n n2 : Nat} {l : PL} (h : (decide (300 < n) || decide (600 < n2) || farL 300 l) = false) : n ≤ 300 ∧ n2 ≤ 600 ∧ ∀ x ∈ l, x.1.length ≤ 300 := by
  simp only [Bool.or_eq_false_iff, decide_eq_false_iff_not] at h
  refine ⟨by omega, by omega, fun x hx => ?_⟩
  have := h.2
  unfold farL at this
  rw [List.any_eq_false] at this
  have := this x hx
  simp at this
  exact this
theorem SrtI.short {l l0 : PL} {i m : Nat} (h : SrtI l i l0) (hk : ∀ x ∈ l, x.1.length ≤ m) : ∀ x ∈ l0, x.1.length ≤ m := fun x hx => by
  obtain ⟨z, hz, e⟩ := h.keys x hx
  rw [← e]; exact hk z hz
/-- a pair in a cell of its own -/
structure PairC (w0 w : World) (b : Nat) (x : List Nat) (a : Option Addr) (n c : Nat) (y : Int) : Prop where
  k : ∀ w', Below w.heap.size w w' → w'.cell? ⟨b, 0, none⟩ = some (.slice a n c) ∧ w'.cell? ⟨b, 1, none⟩ = some (.int .u64 y) ∧ Sl w' a n c x
theorem PairC.new {w0 w : World} {a : Option Addr} {n c : Nat} {x : List Nat} {y : Int} (t : TypeId) (h : Sl w a n c x) : PairC w0 (w.alloc (.cells #[.slice a n c, .int .u64 y] t)) w.heap.size x a n c y := ⟨fun w' hb => by
  have hk : (w.alloc (.cells #[.slice a n c, .int .u64 y] t)).heap[w.heap.size]? = some (.cells [.slice a n c, .int .u64 y].toArray t (0, 0)) := heap_alloc_new w _
  have hk' := (hb.block w.heap.size (by simp)).trans hk
  exact ⟨by rw [cell_of_blk hk']; rfl, by rw [cell_of_blk hk']; rfl, (h.below ((Below.refl _ w).alloc (Nat.le_refl _) _)).below hb⟩⟩
theorem same_true {w : World} {a b : Option Addr} {n c m d : Nat} {s : List Nat} (h : Sl w a n c s) (k : Sl w b m d s) : Calls Tryz.prog 14 #[.slice a n c, .slice b m d] w (belowPost (.bool true) w) := by
  have := quiet_same h k 0
  rw [decide_eq_true rfl] at this
  exact this.mono fun e w2 ⟨h1, q, h2⟩ => ⟨h1, by rw [h2]; exact below_drewN (Below.refl _ _) _⟩
/-- two pairs at one place of two slices -/
theorem rows_two {w wr : World} {a b : Option Addr} {n c d : Nat} {B : PL} (hA : Prs w a n c B) (hB : Prs w b n d B) (hb : Below w.heap.size w wr) {i : Nat} (hi : i < n) : ∃ p q a3 n3 c3 a4 n4 c4 y, a = some p ∧ b = some q ∧ wr.cell? (p.add (i * 2)) = some (.slice a3 n3 c3) ∧ wr.cell? ⟨(p.add (i * 2)).block, (p.add (i * 2)).off + 1, none⟩ = some (.int .u64 y) ∧ wr.cell? (q.add (i * 2)) = some (.slice a4 n4 c4) ∧ wr.cell? ⟨(q.add (i * 2)).block, (q.add (i * 2)).off + 1, none⟩ = some (.int .u64 y) ∧
    ∀ q, Calls Tryz.prog 14 #[.slice a3 n3 c3, .slice a4 n4 c4] (wr.drewN q) fun e w' => e = .returned (.bool true) ∧ ∃ p, w' = (wr.drewN q).drewN p := by
  obtain ⟨p, a3, n3, c3, e1, q1, q2, q3⟩ := prs_row (hA.below hb) hi
  obtain ⟨q, a4, n4, c4, e2, q4, q5, q6⟩ := prs_row (hB.below hb) hi
  exact ⟨p, q, a3, n3, c3, a4, n4, c4, _, e1, e2, q1, q2, q4, q5, fun j => by have := quiet_same q3 q6 j; rw [decide_eq_true rfl] at this; exact this⟩
end Go.Proofs.YtfhdiimcimafkaaGreatDoor
/- The law FindAll. -/
namespace Go.Proofs.YtfhdiimcimafkaaGreatDoor
open Go.RowKit
theorem psrt_look {l : PL} (h : PSrt l) {i : Nat} (hi : i < l.length) : plook l (l.getD i ([], 0)).1 = some (l.getD i ([], 0)).2 :=
  plook_at (fun j hj e => by
    have := h.at_ (i := j) (j := i) hj hi
    rw [e] at this
    exact slt_irrefl _ this) hi rfl
theorem sl_of_own {w : World} {v : Value} {bs : List Nat} {n : Nat} {bo : Option Nat} (h : OwnS 1 u8T w v n (bV bs) bo) (hb : ∀ x ∈ bs, x < 256) : ∃ a c, v = .slice a n c ∧ Sl w a n c bs := by
  rcases h with ⟨rfl, rfl, e, rfl⟩ | ⟨g, cap, cur, rfl, rfl, h4, h5, h6, h7, h8, h9⟩
  · have : bs = [] := by simpa [bV] using e
    subst this
    exact ⟨none, 0, rfl, sl_nil w⟩
  · have hl : bs.length = n := by simpa [bV] using h9
    refine ⟨_, _, rfl, hl, ⟨hb, fun i hi => ⟨_, rfl, ?_, ?_⟩⟩, h5, h6, fun e => by cases e⟩
    · rw [add0]; exact (Array.getElem?_eq_some_iff.1 h4).1
    · rw [add0]
      have h4' : w.heap[g]? = some (.cells cur.toList.toArray u8T (0, 0)) := h4
      rw [cell_of_blk h4']
      have : (cur.toList.take (n * 1))[i]? = (bV bs)[i]? := by rw [h8]
      rw [List.getElem?_take, if_pos (by omega), bV_get, List.getElem?_eq_getElem hi] at this
      rw [this]
      simp [List.getD, hi]
theorem sl_news {w : World} {p : Addr} {n c : Nat} {bs : List Nat} (h : Sl w (some p) n c bs) {w' : World} (hb : Below w.heap.size w w') : ∀ j u, (bV bs)[j]? = some u → w'.cell? (p.add j) = some u := fun j u hj => by
  rw [bV_get] at hj
  have hj2 : j < bs.length := by
    by_cases h : j < bs.length
    · exact h
    · rw [List.getElem?_eq_none (by omega)] at hj; simp at hj
  rw [List.getElem?_eq_getElem hj2] at hj
  simp only [Option.map_some, Option.some.injEq] at hj
  subst hj
  obtain ⟨p', hp, h1, h2⟩ := h.at_.2 j hj2
  obtain rfl : p = p' := by simpa using hp
  rw [hb.cell h1, h2]
  simp [List.getD, hj2]
theorem run_append_nn (w : World) (t ty : TypeId) (ht : Tryz.prog.underlying t = some (.slice u8T)) (c : Nat) : (Builtin.append_ #[t, t] ty #[.slice none 0 0, .slice none 0 c]).run Tryz.prog w = .ok (.slice none 0 0) w := by
  obtain ⟨i, hi, hz, hsize, hby⟩ := info_parts cloneB_info
  have hu : ∀ w, (underlying t).run Tryz.prog w = .ok (.slice u8T) w := fun w => by simp [underlying, go_sem, ht]
  have hs : ∀ w, (sizeOf u8T).run Tryz.prog w = .ok 1 w := fun w => by
    have hi' : Tryz.prog.info? u8T = some i := hi
    simp [sizeOf, typeInfo, go_sem, hi', hsize]
  simp only [Builtin.append_, Sem.run_bind, Result.andThen_ok, hu, hs, List.getElem?_toArray, List.getElem?_cons_zero, List.getElem?_cons_succ]
  simp [go_sem, hu, hs]
theorem wpList_append_b {w : World} {ops : Array Oper} {rest : List Oper} {o : Oper} {a : Act} {Q : Exit → Act → World → Prop} (hgd : o.guard = none) (s x : Operand) (t : TypeId)
    (ho : o.op = .call { callee := .builtin .append, args := #[s, x], argTypes := #[t, t] }) (ht : Tryz.prog.underlying t = some (.slice u8T)) (hs : a.eval s = .slice none 0 0)
    (a3 : Option Addr) (n3 c3 : Nat) (bs : List Nat) (hx : a.eval x = .slice a3 n3 c3) (hS : Sl w a3 n3 c3 bs) (hn : n3 ≤ 1000)
    (h : ∀ v' w' bo', Hid (OwnS 1 u8T w' v' n3 (bV bs) bo') → Hid (Below w.heap.size w w') → Hid (NewOr w none bo') → wpList Tryz.prog ops Q rest (a.put o.dst v') w') : wpList Tryz.prog ops Q (o :: rest) a w := by
  have hl := hS.len
  cases a3 with
  | none =>
    obtain ⟨rfl, rfl⟩ := hS.nil rfl
    obtain rfl : bs = [] := List.eq_nil_of_length_eq_zero hl
    refine wpList_plain hgd fun K hK => ?_
    have hr := run_append_nn w t o.type ht 0
    unfold Oper.wp execOp
    simp only [ho, resolve, invoke, builtin, Sem.run_bind, Sem.run_pure, Result.andThen_ok, List.map_toArray, List.map_cons, List.map_nil, hs, hx, hr]
    exact hK _ _ (h _ w none (OwnS.nil _ _ _) (Below.refl _ w) (Or.inl rfl))
  | some p =>
    refine wpList_append_s hgd s x t ho u8T (.int .u8 0) 1 1 ht cloneB_info rfl (by omega) (.slice none 0 0) hs 0 [] none (OwnS.nil _ _ _) p n3 c3 (bV bs) hx (by simp [bV, hl]) (sl_news hS (Below.refl _ w)) (bV_one bs) (by unfold maxLen; omega) (by omega) ?_
    intro v' w' bo' H1 H2 H3
    have H1' := H1.out
    rw [Nat.zero_add, List.nil_append] at H1'
    exact h v' w' bo' H1' (H2.out.belowOf (Nat.le_refl _) (fun _ e => by cases e)) H3
/-- behind the two appends -/
theorem all_aft {w3 wr w4 : World} {a3 : Option Addr} {n3 c3 : Nat} {x : List Nat} {y : Int} {t : TypeId} {bo1 : Option Nat} {b : Nat} (hb : b < 256) (hR : Below w3.heap.size w3 wr) (hM : Below (wr.alloc (.cells #[.slice a3 n3 c3, .int .u64 y] t)).heap.size (wr.alloc (.cells #[.slice a3 n3 c3, .int .u64 y] t)) w4) (hN : NewOr (wr.alloc (.cells #[.slice a3 n3 c3, .int .u64 y] t)) none bo1) (hx : ∀ z ∈ x, z < 256) :
    ∀ v2 w5 bo2, OwnS 1 u8T w5 v2 (n3 + 1) (bV x ++ [.int .u8 (b : Nat)]) bo2 → Mod (fun k => bo1 = some k) (w4.alloc (.cells #[.int .u8 (b : Nat)] 5)) w5 → ∃ a5 c5, v2 = .slice a5 (n3 + 1) c5 ∧ w5.cell? ⟨wr.heap.size, 0, none⟩ = some (.slice a3 n3 c3) ∧ w5.cell? ⟨wr.heap.size, 1, none⟩ = some (.int .u64 y) ∧ Sl w5 a5 (n3 + 1) c5 (x ++ [b]) ∧ Below wr.heap.size wr w5 := fun v2 w5 bo2 hO hm => by
  have hk : (wr.alloc (.cells #[.slice a3 n3 c3, .int .u64 y] t)).heap[wr.heap.size]? = some (.cells [.slice a3 n3 c3, .int .u64 y].toArray t (0, 0)) := heap_alloc_new wr _
  obtain ⟨wB, hwB⟩ : ∃ wB, wB = wr.alloc (.cells #[.slice a3 n3 c3, .int .u64 y] t) := ⟨_, rfl⟩
  have b0 : Below wr.heap.size wr wB := by rw [hwB]; exact (Below.refl _ _).alloc (Nat.le_refl _) _
  have sB : wB.heap.size = wr.heap.size + 1 := by rw [hwB]; simp
  rw [← hwB] at hM hN hk
  have bo : bo1 = none ∨ ∃ g, bo1 = some g ∧ wB.heap.size ≤ g := by
    rcases hN with e | ⟨g, e, h⟩
    · exact Or.inl e
    · exact Or.inr ⟨g, e, h⟩
  have h1 : Below wB.heap.size wB (w4.alloc (.cells #[.int .u8 (b : Nat)] 5)) := hM.alloc hM.size _
  have h2 : Below wB.heap.size wB w5 := h1.trans (hm.sinceOf bo h1.size)
  have hk5 := (h2.block wr.heap.size (by omega)).trans hk
  have hbv : bV x ++ [.int .u8 (b : Nat)] = bV (x ++ [b]) := by simp [bV]
  rw [hbv] at hO
  obtain ⟨a5, c5, e, hS⟩ := sl_of_own hO (by
    intro z hz
    rcases List.mem_append.1 hz with hz | hz
    · exact hx z hz
    · rw [List.mem_singleton.1 hz]; exact hb)
  exact ⟨a5, c5, e, by rw [cell_of_blk hk5]; rfl, by rw [cell_of_blk hk5]; rfl, hS, b0.trans (h2.mono b0.size)⟩
end Go.Proofs.YtfhdiimcimafkaaGreatDoor
/- The document's trees in memory, and one that is under way. -/
namespace Go.Proofs.YtfhdiimcimafkaaGreatDoor
open Go.RowKit
abbrev rnT : Nat := 53
theorem rnInfo : (Tryz.prog.info? rnT).map (fun i => (i.zero, i.size, i.bytes)) = some (some (.agg #[.int .i64 0, .slice none 0 0, .bool false, .int .u64 0, .slice none 0 0, .slice none 0 0]), 6, 96) := by kernel_rfl
/-- bytes that stand in some blocks -/
structure SlG (w : World) (G : Nat → Prop) (a : Option Addr) (n c : Nat) (bs : List Nat) : Prop where
  sl : Sl w a n c bs
  ok : bs ≠ [] → ∀ p, a = some p → G p.block
section
variable {w w' : World} {G G' : Nat → Prop} {a : Option Addr} {n c : Nat} {bs : List Nat}
theorem SlG.keep (h : SlG w G a n c bs) (hs : w.heap.size ≤ w'.heap.size) (hk : ∀ j, G j → w'.heap[j]? = w.heap[j]?) : SlG w' G a n c bs :=
  ⟨⟨h.sl.len, ⟨h.sl.at_.1, fun i hi => by
    obtain ⟨p, e, q1, q2⟩ := h.sl.at_.2 i hi
    refine ⟨p, e, Nat.lt_of_lt_of_le q1 hs, ?_⟩
    rw [← q2]
    unfold World.cell?
    rw [add_block, hk p.block (h.ok (by rintro rfl; simp at hi) p e)]⟩, h.sl.cap, h.sl.capm, h.sl.nil⟩, h.ok⟩
theorem SlG.mono (h : SlG w G a n c bs) (hG : ∀ j, G j → G' j) : SlG w G' a n c bs := ⟨h.sl, fun e p q => hG _ (h.ok e p q)⟩
theorem SlG.of (h : Sl w a n c bs) (hG : ∀ j, j < w.heap.size → G j) : SlG w G a n c bs := ⟨h, fun e p q => by
  have hl : 0 < bs.length := List.length_pos_iff.2 e
  obtain ⟨p', e', q1, _⟩ := h.at_.2 0 hl
  rw [q] at e'
  obtain rfl : p = p' := by simpa using e'
  rw [add_block] at q1
  exact hG _ q1⟩
end
/-- a node's first cell -/
def rkind (leaf : Bool) (ks : Tr) : Nat := if leaf then 1 else kindOf (chain ks).length
/-- a tree of the document's: a node by its six cells; a row of kids by where it stands -/
def RT (w : World) (G : Nat → Prop) : Tr → Option Addr → Nat → List Value → Prop
  | .nil, _, _, _ => True
  | .kid b t r, ka, i, _ => (∃ g c, ka = some ⟨g, 0, none⟩ ∧ G g ∧ c.length = 6 ∧ (∀ j, j < 6 → w.cell? ⟨g, i * 6 + j, none⟩ = c[j]?) ∧ RT w G t none 0 c) ∧ RT w G r ka (i + 1) []
  | .node bs v has leaf ks, _, _, c => ∃ pa pn pc ba bn bc ka kn kc, c = [.int .i64 (rkind leaf ks : Nat), .slice pa pn pc, .bool has, .int .u64 v, .slice ba bn bc, .slice ka kn kc] ∧ SlG w G pa pn pc bs ∧ SlG w G ba bn bc ((chain ks).map (·.1)) ∧ kn = (chain ks).length ∧ kn ≤ kc ∧ RT w G ks ka 0 []
theorem RT.keep {w w' : World} {G : Nat → Prop} (hs : w.heap.size ≤ w'.heap.size) (hk : ∀ j, G j → w'.heap[j]? = w.heap[j]?) : ∀ {t : Tr} {ka : Option Addr} {i : Nat} {c : List Value}, RT w G t ka i c → RT w' G t ka i c
  | .nil, _, _, _, _ => trivial
  | .kid b t r, ka, i, c, ⟨⟨g, d, h1, h2, h3, h4, h5⟩, h6⟩ => ⟨⟨g, d, h1, h2, h3, fun j hj => by
      rw [← h4 j hj]
      unfold World.cell?
      show (match w'.heap[g]? with | _ => _) = _
      rw [hk g h2], RT.keep hs hk h5⟩, RT.keep hs hk h6⟩
  | .node bs v has leaf ks, ka, i, c, ⟨pa, pn, pc, ba, bn, bc, ka', kn, kc, h1, h2, h3, h4, h5, h6⟩ => ⟨pa, pn, pc, ba, bn, bc, ka', kn, kc, h1, h2.keep hs hk, h3.keep hs hk, h4, h5, RT.keep hs hk h6⟩
theorem RT.mono {w : World} {G G' : Nat → Prop} (hG : ∀ j, G j → G' j) : ∀ {t : Tr} {ka : Option Addr} {i : Nat} {c : List Value}, RT w G t ka i c → RT w G' t ka i c
  | .nil, _, _, _, _ => trivial
  | .kid b t r, ka, i, c, ⟨⟨g, d, h1, h2, h3, h4, h5⟩, h6⟩ => ⟨⟨g, d, h1, hG g h2, h3, h4, RT.mono hG h5⟩, RT.mono hG h6⟩
  | .node bs v has leaf ks, ka, i, c, ⟨pa, pn, pc, ba, bn, bc, ka', kn, kc, h1, h2, h3, h4, h5, h6⟩ => ⟨pa, pn, pc, ba, bn, bc, ka', kn, kc, h1, h2.mono hG, h3.mono hG, h4, h5, RT.mono hG h6⟩
theorem flat6_get : ∀ (cs : List (List Value)), (∀ c ∈ cs, c.length = 6) → ∀ (q : Nat) (c : List Value), cs[q]? = some c → ∀ j, j < 6 → (cs.flatten)[q * 6 + j]? = c[j]?
  | [], _, q, c, h, _, _ => by simp at h
  | x :: cs, h, 0, c, e, j, hj => by
    have hx := h x (by simp)
    obtain rfl : x = c := by simpa using e
    rw [List.flatten_cons, List.getElem?_append_left (by omega)]
    simp
  | x :: cs, h, q + 1, c, e, j, hj => by
    have hx := h x (by simp)
    rw [List.flatten_cons, List.getElem?_append_right (by omega)]
    have := flat6_get cs (fun y hy => h y (by simp [hy])) q c (by simpa using e) j hj
    rw [← this]
    congr 1
    omega
theorem rt_row {w : World} {G : Nat → Prop} {g : Nat} (hg : G g) : ∀ (L : List (Nat × Tr)) (i : Nat), (∀ q x, L[q]? = some x → ∃ c, c.length = 6 ∧ (∀ j, j < 6 → w.cell? ⟨g, (i + q) * 6 + j, none⟩ = c[j]?) ∧ RT w G x.2 none 0 c) → RT w G (ofL L) (some ⟨g, 0, none⟩) i []
  | [], _, _ => trivial
  | x :: L, i, h => by
    obtain ⟨c, h1, h2, h3⟩ := h 0 x rfl
    refine ⟨⟨g, c, rfl, hg, h1, by simpa using h2, h3⟩, rt_row hg L (i + 1) fun q y hy => ?_⟩
    obtain ⟨d, k1, k2, k3⟩ := h (q + 1) y (by simpa using hy)
    exact ⟨d, k1, fun j hj => by rw [← k2 j hj]; congr 3; omega, k3⟩
/-- what the kids' trees may read, while a node is under way -/
def Gd (w0 w : World) (nb : Nat) (bo1 bo2 : Option Nat) (wr : World) (j : Nat) : Prop := (j < w0.heap.size ∨ w.heap.size ≤ j) ∧ j < wr.heap.size ∧ j ≠ nb ∧ bo1 ≠ some j ∧ bo2 ≠ some j
/-- what a tree that is made reads -/
def Gn (w0 w : World) (wr : World) (j : Nat) : Prop := (j < w0.heap.size ∨ w.heap.size ≤ j) ∧ j < wr.heap.size
/-- a node under way: its box, the bytes and the kids so far -/
structure VB (w0 w : World) (nb : Nat) (pv : Value) (hs : Bool) (val : Int) (B : List Nat) (T : List Tr) (cs : List (List Value)) (bv kv : Value) (bo1 bo2 : Option Nat) (wr : World) : Prop where
  since : Below w.heap.size w wr
  nbn : w.heap.size ≤ nb
  box : wr.heap[nb]? = some (.cells [.int .i64 0, pv, .bool hs, .int .u64 val, bv, kv].toArray rnT (0, 0))
  ob : OwnS 1 u8T wr bv B.length (bV B) bo1
  ok : OwnS 6 rnT wr kv T.length cs.flatten bo2
  n1 : bo1 = none ∨ ∃ g, bo1 = some g ∧ w.heap.size ≤ g
  n2 : bo2 = none ∨ ∃ g, bo2 = some g ∧ w.heap.size ≤ g
  ne1 : bo1 ≠ some nb
  ne2 : bo2 ≠ some nb
  ne : ∀ g, bo1 = some g → bo2 ≠ some g
  len : cs.length = T.length
  six : ∀ c ∈ cs, c.length = 6
  kids : ∀ (i : Nat) (t : Tr) (c : List Value), T[i]? = some t → cs[i]? = some c → RT wr (Gd w0 w nb bo1 bo2 wr) t none 0 c
section
variable {w0 w wr w' : World} {nb : Nat} {pv : Value} {hs : Bool} {val : Int} {B : List Nat} {T : List Tr} {cs : List (List Value)} {bv kv : Value} {bo1 bo2 : Option Nat}
theorem VB.lt (h : VB w0 w nb pv hs val B T cs bv kv bo1 bo2 wr) : nb < wr.heap.size := (Array.getElem?_eq_some_iff.1 h.box).1
theorem VB.lt1 (h : VB w0 w nb pv hs val B T cs bv kv bo1 bo2 wr) {g : Nat} (e : bo1 = some g) : g < wr.heap.size := by have := h.ob; rw [e] at this; exact this.lt
theorem VB.lt2 (h : VB w0 w nb pv hs val B T cs bv kv bo1 bo2 wr) {g : Nat} (e : bo2 = some g) : g < wr.heap.size := by have := h.ok; rw [e] at this; exact this.lt
theorem VB.below (h : VB w0 w nb pv hs val B T cs bv kv bo1 bo2 wr) (hb : Below wr.heap.size wr w') : VB w0 w nb pv hs val B T cs bv kv bo1 bo2 w' where
  since := h.since.trans (hb.mono h.since.size)
  nbn := h.nbn
  box := (hb.block nb h.lt).trans h.box
  ob := h.ob.below hb
  ok := h.ok.below hb
  n1 := h.n1
  n2 := h.n2
  ne1 := h.ne1
  ne2 := h.ne2
  ne := h.ne
  len := h.len
  six := h.six
  kids := fun i t c ht hc => ((h.kids i t c ht hc).keep hb.size (fun j hj => hb.block j hj.2.1)).mono fun j hj => ⟨hj.1, Nat.lt_of_lt_of_le hj.2.1 hb.size, hj.2.2⟩
theorem VB.drewN (h : VB w0 w nb pv hs val B T cs bv kv bo1 bo2 wr) (k : Nat) : VB w0 w nb pv hs val B T cs bv kv bo1 bo2 (wr.drewN k) := h.below (below_drewN (Below.refl _ _) k)
/-- what stands in its box -/
theorem VB.facts (h : VB w0 w nb pv hs val B T cs bv kv bo1 bo2 wr) : wr.cell? ⟨nb, 0, none⟩ = some (.int .i64 0) ∧ wr.cell? ⟨nb, 1, none⟩ = some pv ∧ wr.cell? ⟨nb, 2, none⟩ = some (.bool hs) ∧ wr.cell? ⟨nb, 3, none⟩ = some (.int .u64 val) ∧ wr.cell? ⟨nb, 4, none⟩ = some bv ∧ wr.cell? ⟨nb, 5, none⟩ = some kv ∧ ∀ j, wr.frozen? ⟨nb, j, none⟩ = false :=
  ⟨by rw [cell_of_blk h.box]; rfl, by rw [cell_of_blk h.box]; rfl, by rw [cell_of_blk h.box]; rfl, by rw [cell_of_blk h.box]; rfl, by rw [cell_of_blk h.box]; rfl, by rw [cell_of_blk h.box]; rfl, fun j => frozen_of_blk h.box j⟩
/-- a byte more -/
theorem VB.byte (h : VB w0 w nb pv hs val B T cs bv kv bo1 bo2 wr) (b : Nat) {v' : Value} {bo' : Option Nat} (h1 : OwnS 1 u8T w' v' (B.length + 1) (bV B ++ [.int .u8 (b : Nat)]) bo') (hm : Mod (fun k => bo1 = some k) wr w') (hn : NewOr wr bo1 bo') :
    VB w0 w nb pv hs val (B ++ [b]) T cs v' kv bo' bo2 (w'.setCell ⟨nb, 4, none⟩ v') := by
  have hlt := h.lt
  have hbox : w'.heap[nb]? = some (.cells [.int .i64 0, pv, .bool hs, .int .u64 val, bv, kv].toArray rnT (0, 0)) := (hm.same nb hlt h.ne1).trans h.box
  have hM2 : Mod (fun k => k = nb) w' (w'.setCell ⟨nb, 4, none⟩ v') := (Mod.refl _ w').setCell ⟨nb, 4, none⟩ _ (fun _ => rfl)
  have hsz : wr.heap.size ≤ (w'.setCell ⟨nb, 4, none⟩ v').heap.size := Nat.le_trans hm.size hM2.size
  have hsub : ∀ j, Gd w0 w nb bo1 bo2 wr j → Gd w0 w nb bo' bo2 (w'.setCell ⟨nb, 4, none⟩ v') j := fun j ⟨q1, q2, q3, q4, q5⟩ => ⟨q1, Nat.lt_of_lt_of_le q2 hsz, q3, fun e => by
    rcases hn with e2 | ⟨g, e2, hg⟩
    · rw [e2] at e; exact q4 e
    · rw [e2] at e; cases e; omega, q5⟩
  have hsame : ∀ j, Gd w0 w nb bo1 bo2 wr j → (w'.setCell ⟨nb, 4, none⟩ v').heap[j]? = wr.heap[j]? := fun j ⟨q1, q2, q3, q4, q5⟩ => (hM2.same j (Nat.lt_of_lt_of_le q2 hm.size) q3).trans (hm.same j q2 q4)
  have hne1 : bo' ≠ some nb := fun e => by
    rcases hn with e2 | ⟨g, e2, hg⟩
    · rw [e2] at e; exact h.ne1 e
    · rw [e2] at e; cases e; omega
  refine ⟨?_, h.nbn, ?_, ?_, ?_, ?_, h.n2, hne1, h.ne2, fun g e1 e2 => ?_, h.len, h.six, fun i t c ht hc => ((h.kids i t c ht hc).keep hsz hsame).mono hsub⟩
  · refine (h.since.trans (?_ : Below w.heap.size wr w')).setCell (p := ⟨nb, 4, none⟩) h.nbn _
    exact OwnS.modNew h.ob h.n1 hm h.since.size
  · rw [setCell_list _ _ _ _ _ _ hbox, setRow_heap _ _ _ _ _ _ hbox]; rfl
  · have e : bV (B ++ [b]) = bV B ++ [.int .u8 (b : Nat)] := by simp [bV]
    rw [e, List.length_append]
    exact h1.keep fun g e => hM2.same g (by subst e; exact h1.lt) (fun q => hne1 (by rw [e, q]))
  · exact (h.ok.keep fun g e => hm.same g (h.lt2 e) (fun q => h.ne g q e)).keep fun g e => hM2.same g (Nat.lt_of_lt_of_le (h.lt2 e) hm.size) (fun q => h.ne2 (by rw [e, q]))
  · rcases hn with e2 | ⟨g, e2, hg⟩
    · rw [e2]; exact h.n1
    · exact Or.inr ⟨g, e2, Nat.le_trans h.since.size hg⟩
  · rcases hn with e3 | ⟨g', e3, hg⟩
    · rw [e3] at e1; exact h.ne g e1 e2
    · rw [e3] at e1; cases e1; have := h.lt2 e2; omega
/-- a kid more -/
theorem VB.kid (h : VB w0 w nb pv hs val B T cs bv kv bo1 bo2 wr) (t : Tr) (c : List Value) (h6 : c.length = 6) (ht : RT wr (Gd w0 w nb bo1 bo2 wr) t none 0 c) {v' : Value} {bo' : Option Nat} (h1 : OwnS 6 rnT w' v' (T.length + 1) (cs.flatten ++ c) bo') (hm : Mod (fun k => bo2 = some k) wr w') (hn : NewOr wr bo2 bo') :
    VB w0 w nb pv hs val B (T ++ [t]) (cs ++ [c]) bv v' bo1 bo' (w'.setCell ⟨nb, 5, none⟩ v') := by
  have hlt := h.lt
  have hbox : w'.heap[nb]? = some (.cells [.int .i64 0, pv, .bool hs, .int .u64 val, bv, kv].toArray rnT (0, 0)) := (hm.same nb hlt h.ne2).trans h.box
  have hM2 : Mod (fun k => k = nb) w' (w'.setCell ⟨nb, 5, none⟩ v') := (Mod.refl _ w').setCell ⟨nb, 5, none⟩ _ (fun _ => rfl)
  have hsz : wr.heap.size ≤ (w'.setCell ⟨nb, 5, none⟩ v').heap.size := Nat.le_trans hm.size hM2.size
  have hsub : ∀ j, Gd w0 w nb bo1 bo2 wr j → Gd w0 w nb bo1 bo' (w'.setCell ⟨nb, 5, none⟩ v') j := fun j ⟨q1, q2, q3, q4, q5⟩ => ⟨q1, Nat.lt_of_lt_of_le q2 hsz, q3, q4, fun e => by
    rcases hn with e2 | ⟨g, e2, hg⟩
    · rw [e2] at e; exact q5 e
    · rw [e2] at e; cases e; omega⟩
  have hsame : ∀ j, Gd w0 w nb bo1 bo2 wr j → (w'.setCell ⟨nb, 5, none⟩ v').heap[j]? = wr.heap[j]? := fun j ⟨q1, q2, q3, q4, q5⟩ => (hM2.same j (Nat.lt_of_lt_of_le q2 hm.size) q3).trans (hm.same j q2 q5)
  have hne2 : bo' ≠ some nb := fun e => by
    rcases hn with e2 | ⟨g, e2, hg⟩
    · rw [e2] at e; exact h.ne2 e
    · rw [e2] at e; cases e; omega
  refine ⟨?_, h.nbn, ?_, ?_, ?_, h.n1, ?_, h.ne1, hne2, fun g e1 e2 => ?_, by simp [h.len], fun d hd => ?_, fun i t' c' ht' hc' => ?_⟩
  · refine (h.since.trans (?_ : Below w.heap.size wr w')).setCell (p := ⟨nb, 5, none⟩) h.nbn _
    exact OwnS.modNew h.ok h.n2 hm h.since.size
  · rw [setCell_list _ _ _ _ _ _ hbox, setRow_heap _ _ _ _ _ _ hbox]; rfl
  · exact (h.ob.keep fun g e => hm.same g (h.lt1 e) (fun q => h.ne g e q)).keep fun g e => hM2.same g (Nat.lt_of_lt_of_le (h.lt1 e) hm.size) (fun q => h.ne1 (by rw [e, q]))
  · rw [List.length_append, List.flatten_append]
    have : [c].flatten = c := by simp
    rw [this]
    exact h1.keep fun g e => hM2.same g (by subst e; exact h1.lt) (fun q => hne2 (by rw [e, q]))
  · rcases hn with e2 | ⟨g, e2, hg⟩
    · rw [e2]; exact h.n2
    · exact Or.inr ⟨g, e2, Nat.le_trans h.since.size hg⟩
  · rcases hn with e3 | ⟨g', e3, hg⟩
    · rw [e3] at e2; exact h.ne g e1 e2
    · rw [e3] at e2; cases e2; have := h.lt1 e1; omega
  · rcases List.mem_append.1 hd with hd | hd
    · exact h.six d hd
    · obtain rfl := List.mem_singleton.1 hd; exact h6
  · by_cases hi : i < T.length
    · rw [List.getElem?_append_left hi] at ht'
      rw [List.getElem?_append_left (by rw [h.len]; exact hi)] at hc'
      exact ((h.kids i t' c' ht' hc').keep hsz hsame).mono hsub
    · have hi2 := (List.getElem?_eq_some_iff.1 ht').1
      rw [List.length_append, List.length_singleton] at hi2
      obtain rfl : i = T.length := by omega
      rw [List.getElem?_append_right (Nat.le_refl _), Nat.sub_self] at ht'
      rw [List.getElem?_append_right (by rw [h.len]; exact Nat.le_refl _), h.len, Nat.sub_self] at hc'
      obtain rfl : t = t' := by simpa using ht'
      obtain rfl : c = c' := by simpa using hc'
      exact (ht.keep hsz hsame).mono hsub
/-- the tree, once the kind stands in its box -/
theorem VB.done {L : List (Nat × Tr)} {bs : List Nat} (h : VB w0 w nb pv hs val (L.map (·.1)) (L.map (·.2)) cs bv kv bo1 bo2 wr) {pa : Option Addr} {pn pc : Nat} (hpv : pv = .slice pa pn pc) (hp : Sl w0 pa pn pc bs) (h0 : Below w0.heap.size w0 w) (hB : ∀ x ∈ L.map (·.1), x < 256) (x : Value) :
    RT (wr.setCell ⟨nb, 0, none⟩ x) (Gn w0 w (wr.setCell ⟨nb, 0, none⟩ x)) (.node bs val hs false (ofL L)) none 0 [.int .i64 (kindOf L.length : Nat), pv, .bool hs, .int .u64 val, bv, kv] := by
  have hM2 : Mod (fun k => k = nb) wr (wr.setCell ⟨nb, 0, none⟩ x) := (Mod.refl _ wr).setCell ⟨nb, 0, none⟩ _ (fun _ => rfl)
  have hw0 : w0.heap.size ≤ wr.heap.size := Nat.le_trans h0.size h.since.size
  have hsp : SlG (wr.setCell ⟨nb, 0, none⟩ x) (Gn w0 w (wr.setCell ⟨nb, 0, none⟩ x)) pa pn pc bs := by
    have q : SlG w0 (fun j => j < w0.heap.size) pa pn pc bs := SlG.of hp fun j hj => hj
    refine (q.keep (Nat.le_trans hw0 hM2.size) fun j hj => ?_).mono fun j hj => ⟨Or.inl hj, Nat.lt_of_lt_of_le hj (Nat.le_trans hw0 hM2.size)⟩
    have := h0.size
    have := h.nbn
    rw [hM2.same j (by omega) (by omega), h.since.block j (by omega), h0.block j hj]
  have hb1 : OwnS 1 u8T (wr.setCell ⟨nb, 0, none⟩ x) bv (L.map (·.1)).length (bV (L.map (·.1))) bo1 := h.ob.keep fun g e => hM2.same g (h.lt1 e) (fun q => h.ne1 (by rw [e, q]))
  have hk1 : OwnS 6 rnT (wr.setCell ⟨nb, 0, none⟩ x) kv (L.map (·.2)).length cs.flatten bo2 := h.ok.keep fun g e => hM2.same g (h.lt2 e) (fun q => h.ne2 (by rw [e, q]))
  obtain ⟨ba, bc, rfl, hb2, hb3, hb4⟩ := hb1.len
  obtain ⟨ka, kc, rfl, hk2, hk3, hk4⟩ := hk1.len
  rw [List.length_map] at hb1 hb2 hb4 hk1 hk2 hk4
  refine ⟨pa, pn, pc, ba, L.length, bc, ka, L.length, kc, by rw [hpv]; simp [rkind, chain_ofL], hsp, ⟨⟨by rw [chain_ofL, List.length_map], ⟨by rw [chain_ofL]; exact hB, fun i hi => ?_⟩, by simpa using hb2, hb3, by simpa using hb4⟩, fun hne p e => ?_⟩, by rw [chain_ofL], by simpa using hk2, ?_⟩
  · rw [chain_ofL, List.length_map] at hi
    obtain ⟨g, cap, e1, e2, e3, _⟩ := hb1.at_ (j := i) (by omega)
    have e4 : ba = some ⟨g, 0, none⟩ := (Value.slice.inj e2).1
    have hlt : g < (wr.setCell ⟨nb, 0, none⟩ x).heap.size := Nat.lt_of_lt_of_le (h.lt1 e1) hM2.size
    refine ⟨⟨g, 0, none⟩, e4, by rw [add_block]; exact hlt, ?_⟩
    rw [add0, e3, bV_get, chain_ofL]
    simp [List.getD, hi]
  · rw [chain_ofL] at hne
    have hl : 0 < L.length := by cases L with | nil => simp at hne | cons => simp
    obtain ⟨g, cap, e1, e2, _⟩ := hb1.at_ (j := 0) (by omega)
    have e4 : ba = some ⟨g, 0, none⟩ := (Value.slice.inj e2).1
    rw [e4] at e
    obtain rfl : (⟨g, 0, none⟩ : Addr) = p := by simpa using e
    refine ⟨Or.inr ?_, Nat.lt_of_lt_of_le (h.lt1 e1) hM2.size⟩
    rcases h.n1 with q | ⟨g', q, hg⟩
    · rw [q] at e1; cases e1
    · rw [q] at e1; cases e1; exact hg
  · by_cases hl : L = []
    · subst hl; trivial
    · have hl : 0 < L.length := List.length_pos_iff.2 hl
      obtain ⟨g, cap, e1, e2, _⟩ := hk1.at_ (j := 0) (by omega)
      have e4 : ka = some ⟨g, 0, none⟩ := (Value.slice.inj e2).1
      rw [e4]
      have hgn : w.heap.size ≤ g := by
        rcases h.n2 with q | ⟨g', q, hg⟩
        · rw [q] at e1; cases e1
        · rw [q] at e1; cases e1; exact hg
      refine rt_row (g := g) ⟨Or.inr hgn, Nat.lt_of_lt_of_le (h.lt2 e1) hM2.size⟩ L 0 fun q y hy => ?_
      have hq := (List.getElem?_eq_some_iff.1 hy).1
      have hlen := h.len
      rw [List.length_map] at hlen
      have hc : cs[q]? = some cs[q] := List.getElem?_eq_getElem (by omega)
      refine ⟨cs[q], h.six _ (List.getElem_mem _), fun j hj => ?_, ?_⟩
      · obtain ⟨g', cap', e1', _, e3, _⟩ := hk1.at_ (j := q * 6 + j) (by omega)
        obtain rfl : g = g' := by rw [e1] at e1'; simpa using e1'
        rw [Nat.zero_add, e3]
        exact flat6_get cs h.six q _ hc j hj
      · have := h.kids q y.2 cs[q] (by rw [List.getElem?_map, hy]; rfl) hc
        exact (this.keep hM2.size fun j hj => hM2.same j hj.2.1 hj.2.2.1).mono fun j hj => ⟨hj.1, Nat.lt_of_lt_of_le hj.2.1 hM2.size⟩
end
end Go.Proofs.YtfhdiimcimafkaaGreatDoor
/- The document's shared: how many bytes the keys of pairs that rise begin with alike. -/
namespace Go.Proofs.YtfhdiimcimafkaaGreatDoor
open Go.RowKit
theorem srt_lcp {l : PL} (hs : PSrt l) (h2 : 2 ≤ l.length) {j : Nat} (hj : j < l.length) : lcp (l.getD 0 ([], 0)).1 (l.getD (l.length - 1) ([], 0)).1 ≤ lcp (l.getD 0 ([], 0)).1 (l.getD j ([], 0)).1 := by
  obtain ⟨bs, l2, hS, e1, e2⟩ := start_of hs h2
  have hl := congrArg List.length hS.eq
  rw [pre_length] at hl
  rw [← e1, hS.eq, pre_getD _ (by omega), pre_getD _ (by omega), lcp_pre]
  omega
set_option maxHeartbeats 1000000 in
set_option maxRecDepth 100000 in
theorem ref_shared {w : World} {a : Option Addr} {n c : Nat} {l : PL} (h : Prs w a n c l) (hs : PSrt l) (h2 : 2 ≤ n) (hn : n ≤ 1000000) (hk : ∀ x ∈ l, x.1.length ≤ 65535) : Calls Tryz.prog 81 #[.slice a n c] w fun e w' => e = .returned (.int .i64 (lcp (l.getD 0 ([], 0)).1 (l.getD (n - 1) ([], 0)).1 : Nat)) ∧ ∃ k, w' = w.drewN k := by
  have hl := h.len
  have hle : Hid (∀ j, j < n → lcp (l.getD 0 ([], 0)).1 (l.getD (n - 1) ([], 0)).1 ≤ lcp (l.getD 0 ([], 0)).1 (l.getD j ([], 0)).1) := fun j hj => by
    have := srt_lcp hs (by omega) (j := j) (by omega)
    rwa [hl] at this
  have hl0 : Hid (lcp (l.getD 0 ([], 0)).1 (l.getD (n - 1) ([], 0)).1 ≤ (l.getD 0 ([], 0)).1.length) := (lcp_le _ _).1
  obtain ⟨p, a0, m0, c0, rfl, q1, _, q3⟩ := prs_first h (by omega)
  have hm0 := q3.len
  have hm1 : m0 ≤ 65535 := by rw [← hm0]; exact hk _ (mem_getD (by omega))
  have H := Lib.hid h
  have hS0 := Lib.hid q3
  generalize hL : lcp (l.getD 0 ([], 0)).1 (l.getD (n - 1) ([], 0)).1 = L at *
  rw [hm0] at hl0
  have HL := Lib.hid hL
  clear hL h hs hl hk q3
  go_enter Tryz.func81, Tryz.ntmps81
  go_wp2_with fail
  go_loopw [3, 4] (fun v3 v4 wr => ∃ m i : Nat, v3 = .int .i64 (m : Nat) ∧ v4 = .int .i64 (i : Nat) ∧ 1 ≤ i ∧ i ≤ n ∧ L ≤ m ∧ m ≤ m0 ∧ Hid (∀ j, 1 ≤ j → j < i → m ≤ lcp (l.getD 0 ([], 0)).1 (l.getD j ([], 0)).1) ∧ Hid (∃ k, wr = w.drewN k)) (fun _ v4 _ => (n - intOf v4).toNat)
  case atStart => exact ⟨m0, 1, rfl, rfl, by omega, by omega, hl0.out, by omega, fun j h1 h2 => absurd h2 (by omega), 0, rfl⟩
  case round =>
    obtain ⟨m, i, rfl, rfl, hi1, hin, hLm, hmm, hA, hw⟩ := hrel
    have hB : Hid (Below w.heap.size w wr) := by obtain ⟨k, rfl⟩ := hw.out; exact below_drewN (Below.refl _ _) k
    by_cases hlt : i < n
    · have j1 : (i : Int) < (n : Int) := by omega
      have j0 : (0 : Int) ≤ (i : Int) := by omega
      have j2 : (0 : Int) < (n : Int) := by omega
      obtain ⟨p', a3, n3, c3, hp, z1, _, z3⟩ := prs_row (H.out.below hB.out) hlt
      obtain rfl : p = p' := by simpa using hp
      have z0 := (hB.out.cell (cell_lt q1)).trans q1
      have hC := Lib.hid (fun q => quiet_common (hS0.out.below hB.out) z3 q)
      have hA2 := Lib.hid (fun (M : Nat) (hM : M = min m (lcp (l.getD 0 ([], 0)).1 (l.getD i ([], 0)).1)) => (show (∀ j, 1 ≤ j → j < i + 1 → M ≤ lcp (l.getD 0 ([], 0)).1 (l.getD j ([], 0)).1) from fun j h1 h2 => by
        by_cases e : j = i
        · subst e; omega
        · have := hA.out j h1 (by omega); omega))
      have hLi := hle.out i hlt
      generalize hV : lcp (l.getD 0 ([], 0)).1 (l.getD i ([], 0)).1 = V at *
      have hw8 : IntKind.i64.wrap (((i : Nat) : Int) + 1) = ((i + 1 : Nat) : Int) := by rw [show ((i : Nat) : Int) + 1 = ((i + 1 : Nat) : Int) by omega]; exact IntWalk.i64_in _ (by omega)
      have hmin : min (m : Int) (V : Int) = ((min m V : Nat) : Int) := by omega
      clear hp z3 hA hV
      go_wp2_with fail
      go_quiet ((go_at_call 39; exact Calls.quiet_of (hC.out _)))
      go_wp2_with fail
      go_roundw
      case rel => exact ⟨min m V, i + 1, (by first | rfl | (simp only [hmin])), (by first | rfl | go_num), by omega, by omega, by omega, by omega, hA2.out _ rfl, by obtain ⟨k, rfl⟩ := hw.out; exact ⟨k + nq, by simp⟩⟩
      case measure => (simp [intOf]) <;> omega
    · have j1 : ¬ (i : Int) < (n : Int) := by omega
      have hmL : m = L := by
        have := hA.out (n - 1) (by omega) (by omega)
        rw [HL.out] at this
        omega
      subst hmL
      go_wp2_with fail
      go_ret
      obtain ⟨k, rfl⟩ := hw.out
      exact ⟨rfl, k, rfl⟩
end Go.Proofs.YtfhdiimcimafkaaGreatDoor
/- The document's build: what it leaves; of one pair. -/
namespace Go.Proofs.YtfhdiimcimafkaaGreatDoor
open Go.RowKit
def bldPost (w0 : World) (l : PL) (w : World) (e : Ending) (w' : World) : Prop :=
  ∃ (t : Tr) (kd : Int) (pa : Option Addr) (pn pc : Nat) (hs : Bool) (v : Int) (ba : Option Addr) (bn bc : Nat) (ka : Option Addr) (kn kc : Nat),
    e = .returned (.agg #[.int .i64 kd, .slice pa pn pc, .bool hs, .int .u64 v, .slice ba bn bc, .slice ka kn kc]) ∧ RT w' (Gn w0 w w') t none 0 [.int .i64 kd, .slice pa pn pc, .bool hs, .int .u64 v, .slice ba bn bc, .slice ka kn kc] ∧ IsN t ∧ TOk t ∧ Can t ∧ tl t = l ∧ Below w.heap.size w w'
def BuildAsk (w0 : World) (N : Nat) : Prop := ∀ (l : PL) (pfx : List Nat) (a : Option Addr) (n c : Nat) (w : World), l.length ≤ N → l ≠ [] → Prs w0 a n c (pre pfx l) → PSrt l → (∀ x ∈ pre pfx l, x.1.length ≤ 65535) → Below w0.heap.size w0 w → Calls Tryz.prog 59 #[.slice a n c, .int .i64 (pfx.length : Nat)] w (bldPost w0 l w)
/-! a box of six -/
theorem six_facts {w : World} {rb : Nat} {x0 x1 x2 x3 x4 x5 : Value} {t : TypeId} (h : w.heap[rb]? = some (.cells [x0, x1, x2, x3, x4, x5].toArray t (0, 0))) :
    w.cell? ⟨rb, 0, none⟩ = some x0 ∧ w.cell? ⟨rb, 1, none⟩ = some x1 ∧ w.cell? ⟨rb, 2, none⟩ = some x2 ∧ w.cell? ⟨rb, 3, none⟩ = some x3 ∧ w.cell? ⟨rb, 4, none⟩ = some x4 ∧ w.cell? ⟨rb, 5, none⟩ = some x5 ∧ w.frozen? ⟨rb, 0, none⟩ = false ∧ w.frozen? ⟨rb, 1, none⟩ = false ∧ w.frozen? ⟨rb, 2, none⟩ = false ∧ w.frozen? ⟨rb, 3, none⟩ = false ∧ w.frozen? ⟨rb, 4, none⟩ = false ∧ w.frozen? ⟨rb, 5, none⟩ = false :=
  ⟨by rw [cell_of_blk h]; rfl, by rw [cell_of_blk h]; rfl, by rw [cell_of_blk h]; rfl, by rw [cell_of_blk h]; rfl, by rw [cell_of_blk h]; rfl, by rw [cell_of_blk h]; rfl, frozen_of_blk h 0, frozen_of_blk h 1, frozen_of_blk h 2, frozen_of_blk h 3, frozen_of_blk h 4, frozen_of_blk h 5⟩
theorem six_new (w : World) (x0 x1 x2 x3 x4 x5 : Value) (t : TypeId) : (w.alloc (.cells #[x0, x1, x2, x3, x4, x5] t)).heap[w.heap.size]? = some (.cells [x0, x1, x2, x3, x4, x5].toArray t (0, 0)) := heap_alloc_new w _
theorem six_fin {w : World} {rb : Nat} {x0 x1 x2 x3 x4 x5 : Value} {t : TypeId} (h : w.heap[rb]? = some (.cells [x0, x1, x2, x3, x4, x5].toArray t (0, 0))) (v0 v1 v2 v3 v4 v5 : Value) (w8 : World) (e : w8 = (((((w.setCell ⟨rb, 0, none⟩ v0).setCell ⟨rb, 1, none⟩ v1).setCell ⟨rb, 2, none⟩ v2).setCell ⟨rb, 3, none⟩ v3).setCell ⟨rb, 4, none⟩ v4).setCell ⟨rb, 5, none⟩ v5) :
    w8.heap[rb]? = some (.cells [v0, v1, v2, v3, v4, v5].toArray t (0, 0)) ∧ Mod (fun j => j = rb) w w8 := by
  subst e
  have z0 : (w.setCell ⟨rb, 0, none⟩ v0).heap[rb]? = some (.cells [v0, x1, x2, x3, x4, x5].toArray t (0, 0)) := by
    rw [setCell_list _ _ _ _ _ _ h, setRow_heap _ _ _ _ _ _ h]; rfl
  have z1 : ((w.setCell ⟨rb, 0, none⟩ v0).setCell ⟨rb, 1, none⟩ v1).heap[rb]? = some (.cells [v0, v1, x2, x3, x4, x5].toArray t (0, 0)) := by
    rw [setCell_list _ _ _ _ _ _ z0, setRow_heap _ _ _ _ _ _ z0]; rfl
  have z2 : (((w.setCell ⟨rb, 0, none⟩ v0).setCell ⟨rb, 1, none⟩ v1).setCell ⟨rb, 2, none⟩ v2).heap[rb]? = some (.cells [v0, v1, v2, x3, x4, x5].toArray t (0, 0)) := by
    rw [setCell_list _ _ _ _ _ _ z1, setRow_heap _ _ _ _ _ _ z1]; rfl
  have z3 : ((((w.setCell ⟨rb, 0, none⟩ v0).setCell ⟨rb, 1, none⟩ v1).setCell ⟨rb, 2, none⟩ v2).setCell ⟨rb, 3, none⟩ v3).heap[rb]? = some (.cells [v0, v1, v2, v3, x4, x5].toArray t (0, 0)) := by
    rw [setCell_list _ _ _ _ _ _ z2, setRow_heap _ _ _ _ _ _ z2]; rfl
  have z4 : (((((w.setCell ⟨rb, 0, none⟩ v0).setCell ⟨rb, 1, none⟩ v1).setCell ⟨rb, 2, none⟩ v2).setCell ⟨rb, 3, none⟩ v3).setCell ⟨rb, 4, none⟩ v4).heap[rb]? = some (.cells [v0, v1, v2, v3, v4, x5].toArray t (0, 0)) := by
    rw [setCell_list _ _ _ _ _ _ z3, setRow_heap _ _ _ _ _ _ z3]; rfl
  refine ⟨by rw [setCell_list _ _ _ _ _ _ z4, setRow_heap _ _ _ _ _ _ z4]; rfl, ?_⟩
  exact ((((((Mod.refl (fun j => j = rb) w).setCell ⟨rb, 0, none⟩ _ (fun _ => rfl)).setCell ⟨rb, 1, none⟩ _ (fun _ => rfl)).setCell ⟨rb, 2, none⟩ _ (fun _ => rfl)).setCell ⟨rb, 3, none⟩ _ (fun _ => rfl)).setCell ⟨rb, 4, none⟩ _ (fun _ => rfl)).setCell ⟨rb, 5, none⟩ _ (fun _ => rfl)
/-- the result's box -/
abbrev rnW (w : World) : World := w.alloc (.cells #[.int .i64 0, .slice none 0 0, .bool false, .int .u64 0, .slice none 0 0, .slice none 0 0] rnT)
set_option maxHeartbeats 1000000 in
set_option maxRecDepth 100000 in
theorem bld_one {w0 : World} (k : List Nat) (v : Int) (pfx : List Nat) (a : Option Addr) (c : Nat) (w : World) (h : Prs w0 a 1 c (pre pfx [(k, v)])) (hk : (pfx ++ k).length ≤ 65535) (hb0 : Below w0.heap.size w0 w) :
    Calls Tryz.prog 59 #[.slice a 1 c, .int .i64 (pfx.length : Nat)] w (bldPost w0 [(k, v)] w) := by
  obtain ⟨p, rfl, q⟩ := h.at_ 0 (by simp)
  obtain ⟨a3, n3, c3, q1, q2, q3⟩ := q.cells
  have hv := h.val (pfx ++ k, v) (by simp [pre])
  have q1 : w0.cell? p = some (.slice a3 n3 c3) := by rw [← Addr.add_zero' p]; simpa using q1
  have q2 : w0.cell? ⟨p.block, p.off + 1, none⟩ = some (.int .u64 v) := by
    simp only [Nat.zero_mul, Addr.add_zero'] at q2
    exact q2
  have q3 : Sl w0 a3 n3 c3 (pfx ++ k) := q3
  obtain ⟨at_, hat⟩ : ∃ m, m = pfx.length := ⟨_, rfl⟩
  have hn3 := q3.len
  rw [List.length_append] at hk hn3
  have hc3 := q3.cap
  have hs := q3.from_ (lo := at_) (by omega)
  rw [hat, List.drop_left, ← hat] at hs
  have hcut : ∀ w, (Instr.slice 38 (.slice a3 n3 c3) (some (.int .i64 (at_ : Nat))) none none).run Tryz.prog w = .ok (.slice (cutA a3 c3 at_ 1) (n3 - at_) (c3 - at_)) w := fun w => run_from8 w a3 n3 c3 at_ (by omega)
  rw [← hat]
  have hB1 : Below w0.heap.size w0 (rnW w) := hb0.alloc hb0.size _
  have q4 := (hB1.cell (cell_lt q1)).trans q1
  have q5 := (hB1.cell (p := ⟨p.block, p.off + 1, none⟩) (cell_lt q2)).trans q2
  have hbox := six_new w (.int .i64 0) (.slice none 0 0) (.bool false) (.int .u64 0) (.slice none 0 0) (.slice none 0 0) rnT
  have i0 : (0 : Int) ≤ (at_ : Int) := by omega
  have i1 : (at_ : Int) ≤ (n3 : Int) := by omega
  have h8 : ∀ x ∈ k, x < 256 := fun x hx => q3.at_.1 x (by simp [hx])
  generalize cutA a3 c3 at_ 1 = a4 at *
  generalize n3 - at_ = n4 at *
  generalize c3 - at_ = c4 at *
  have hsz : (rnW w).heap.size = w.heap.size + 1 := World.size_alloc _ _
  have hBw : Below w.heap.size w (rnW w) := (Below.refl _ w).alloc (Nat.le_refl _) _
  have hfin : Hid (∀ w8, w8 = ((((((rnW w).setCell ⟨w.heap.size, 0, none⟩ (.int .i64 1)).setCell ⟨w.heap.size, 1, none⟩ (.slice a4 n4 c4)).setCell ⟨w.heap.size, 2, none⟩ (.bool true)).setCell ⟨w.heap.size, 3, none⟩ (.int .u64 v)).setCell ⟨w.heap.size, 4, none⟩ (.slice none 0 0)).setCell ⟨w.heap.size, 5, none⟩ (.slice none 0 0) →
      (w8.cell? ⟨w.heap.size, 0, none⟩ = some (.int .i64 1) ∧ w8.cell? ⟨w.heap.size, 1, none⟩ = some (.slice a4 n4 c4) ∧ w8.cell? ⟨w.heap.size, 2, none⟩ = some (.bool true) ∧ w8.cell? ⟨w.heap.size, 3, none⟩ = some (.int .u64 v) ∧ w8.cell? ⟨w.heap.size, 4, none⟩ = some (.slice none 0 0) ∧ w8.cell? ⟨w.heap.size, 5, none⟩ = some (.slice none 0 0)) ∧
      bldPost w0 [(k, v)] w (.returned (.agg #[.int .i64 1, .slice a4 n4 c4, .bool true, .int .u64 v, .slice none 0 0, .slice none 0 0])) w8.drew) := fun w8 e8 => by
    obtain ⟨y1, y2⟩ := six_fin (w := rnW w) hbox _ _ _ _ _ _ w8 e8
    obtain ⟨f0, f1, f2, f3, f4, f5, _⟩ := six_facts y1
    have hBelow : Below w.heap.size w w8 := ⟨y2.os.trans hBw.os, y2.tape.trans hBw.tape, y2.output.trans hBw.output, Nat.le_trans hBw.size y2.size, fun j hj => (y2.same j (by show j < (rnW w).heap.size; omega) (by omega)).trans (hBw.block j hj)⟩
    have hBelow0 : Below w0.heap.size w0 w8 := hb0.trans (hBelow.mono hb0.size)
    have q : SlG w8 (Gn w0 w w8) a4 n4 c4 k := by
      have q : SlG w0 (fun j => j < w0.heap.size) a4 n4 c4 k := SlG.of hs fun j hj => hj
      exact (q.keep hBelow0.size fun j hj => hBelow0.block j hj).mono fun j hj => ⟨Or.inl hj, Nat.lt_of_lt_of_le hj hBelow0.size⟩
    refine ⟨⟨f0, f1, f2, f3, f4, f5⟩, ?_⟩
    replace q : SlG w8.drew (Gn w0 w w8.drew) a4 n4 c4 k := q.keep (w' := w8.drew) (Nat.le_refl _) (fun j _ => rfl)
    refine ⟨.node k v true true .nil, 1, a4, n4, c4, true, v, none, 0, 0, none, 0, 0, rfl, ⟨a4, n4, c4, none, 0, 0, none, 0, 0, rfl, q, ⟨sl_nil _, fun e => absurd rfl e⟩, rfl, Nat.le_refl _, trivial⟩, trivial, ⟨h8, hv.1, hv.2, by simp, fun _ => ⟨rfl, rfl⟩, trivial, trivial⟩, ⟨trivial, by simp⟩, by simp [tl], hBelow.drew⟩
  obtain ⟨x0, x1, x2, x3, x4, x5, y0, y1, y2, y3, y4, y5⟩ := six_facts (w := rnW w) hbox
  clear h q hv q3 hat hn3 hk hc3 hs q1 q2 hB1 hbox hsz hBw hb0 h8
  go_enter Tryz.func59, Tryz.ntmps59
  go_wp2_with fail
  change Code.wp _ _ _ _ (rnW w)
  generalize rnW w = wb at *
  go_still_tail 11, (by kernel_rfl)
  change wpList _ _ _ _ _ wb.drew
  go_wp2_with fail
  obtain ⟨⟨f0, f1, f2, f3, f4, f5⟩, hp⟩ := hfin.out _ rfl
  refine bodyPost_ret (v := .agg #[.int .i64 1, .slice a4 n4 c4, .bool true, .int .u64 v, .slice none 0 0, .slice none 0 0]) (by simp [results, Tryz.results59, go_sem, f0, f1, f2, f3, f4, f5]) rfl hp
end Go.Proofs.YtfhdiimcimafkaaGreatDoor
/- The document's build: its node under way, what it needs. -/
namespace Go.Proofs.YtfhdiimcimafkaaGreatDoor
open Go.RowKit
theorem news_alloc (w : World) (xs : List Value) (t : TypeId) : ∀ j u, xs[j]? = some u → (w.alloc (.cells xs.toArray t)).cell? ((⟨w.heap.size, 0, none⟩ : Addr).add j) = some u := fun j u h => by
  have hb : (w.alloc (.cells xs.toArray t)).heap[w.heap.size]? = some (.cells xs.toArray t (0, 0)) := heap_alloc_new w _
  rw [add0, cell_of_blk hb]; exact h
theorem hz6 : (Value.agg #[.int .i64 0, .slice none 0 0, .bool false, .int .u64 0, .slice none 0 0, .slice none 0 0]).cells.size = 6 := rfl
theorem append_rn {w : World} {ops : Array Oper} {rest : List Oper} {o : Oper} {a : Act} {Q : Exit → Act → World → Prop} (hgd : o.guard = none) (s x : Operand)
    (ho : o.op = .call { callee := .builtin .append, args := #[s, x], argTypes := #[51, 51] })
    (v : Value) (hs : a.eval s = v) (n : Nat) (xs : List Value) (bo : Option Nat) (hown : OwnS 6 rnT w v n xs bo)
    (ad : Addr) (c : Nat) (news : List Value) (hx : a.eval x = .slice (some ad) 1 c) (hl : news.length = 6) (hnews : ∀ j u, news[j]? = some u → w.cell? (ad.add j) = some u) (h1 : ∀ u ∈ news, u.oneCell' = true)
    (hn : n ≤ 256)
    (h : ∀ v' w' bo', Hid (OwnS 6 rnT w' v' (n + 1) (xs ++ news) bo') → Hid (Mod (fun k => bo = some k) w w') → Hid (NewOr w bo bo') → wpList Tryz.prog ops Q rest (a.put o.dst v') w') : wpList Tryz.prog ops Q (o :: rest) a w :=
  wpList_append_s hgd s x 51 ho rnT _ 6 96 Tryz.underlying51 rnInfo hz6 (by omega) v hs n xs bo hown ad 1 c news hx hl hnews h1 (by unfold maxLen; omega) (by omega) h
theorem step_rn {w : World} {ops : Array Oper} {o : Oper} {a : Act} {K : Act → World → Prop} {Q : Exit → Act → World → Prop} {E : Prop} (hgd : o.guard = none) (s x : Operand)
    (ho : o.op = .call { callee := .builtin .append, args := #[s, x], argTypes := #[51, 51] })
    (v : Value) (hs : a.eval s = v) (n : Nat) (xs : List Value) (bo : Option Nat) (hown : OwnS 6 rnT w v n xs bo)
    (ad : Addr) (c : Nat) (news : List Value) (hx : a.eval x = .slice (some ad) 1 c) (hl : news.length = 6) (hnews : ∀ j u, news[j]? = some u → w.cell? (ad.add j) = some u) (h1 : ∀ u ∈ news, u.oneCell' = true)
    (hn : n ≤ 256)
    (h : ∀ v' w' bo', Hid (OwnS 6 rnT w' v' (n + 1) (xs ++ news) bo') → Hid (Mod (fun k => bo = some k) w w') → Hid (NewOr w bo bo') → K (a.put o.dst v') w') : if Region.wanted o (yielded ops a.tmps) = true then Oper.wp Tryz.prog o a w K Q else E :=
  step_append_s hgd s x 51 ho rnT _ 6 96 Tryz.underlying51 rnInfo hz6 (by omega) v hs n xs bo hown ad 1 c news hx hl hnews h1 (by unfold maxLen; omega) (by omega) h
theorem step_b {w : World} {ops : Array Oper} {o : Oper} {a : Act} {K : Act → World → Prop} {Q : Exit → Act → World → Prop} {E : Prop} (hgd : o.guard = none) (s x : Operand)
    (ho : o.op = .call { callee := .builtin .append, args := #[s, x], argTypes := #[38, 38] })
    (v : Value) (hs : a.eval s = v) (n : Nat) (xs : List Value) (bo : Option Nat) (hown : OwnS 1 u8T w v n xs bo)
    (ad : Addr) (c : Nat) (news : List Value) (hx : a.eval x = .slice (some ad) 1 c) (hl : news.length = 1) (hnews : ∀ j u, news[j]? = some u → w.cell? (ad.add j) = some u) (h1 : ∀ u ∈ news, u.oneCell' = true)
    (hn : n ≤ 256)
    (h : ∀ v' w' bo', Hid (OwnS 1 u8T w' v' (n + 1) (xs ++ news) bo') → Hid (Mod (fun k => bo = some k) w w') → Hid (NewOr w bo bo') → K (a.put o.dst v') w') : if Region.wanted o (yielded ops a.tmps) = true then Oper.wp Tryz.prog o a w K Q else E :=
  step_append_s hgd s x 38 ho u8T _ 1 1 Tryz.underlying38 cloneB_info rfl (by omega) v hs n xs bo hown ad 1 c news hx hl hnews h1 (by unfold maxLen; omega) (by omega) h
theorem ups_len : ∀ {l : List Nat} {m : Nat}, l.Pairwise (· < ·) → (∀ x ∈ l, m ≤ x ∧ x < 256) → l.length + m ≤ 256 ∨ l = []
  | [], _, _, _ => Or.inr rfl
  | x :: l, m, h, hx => by
    left
    have h1 := hx x (by simp)
    obtain ⟨h2, h3⟩ := List.pairwise_cons.1 h
    rcases ups_len (m := x + 1) h3 (fun y hy => ⟨h2 y hy, (hx y (by simp [hy])).2⟩) with h4 | rfl
    · rw [List.length_cons]; omega
    · simp; omega
theorem ups256 {l : List Nat} (h : l.Pairwise (· < ·)) (hx : ∀ x ∈ l, x < 256) : l.length ≤ 256 := by
  rcases ups_len (m := 0) h (fun x q => ⟨Nat.zero_le _, hx x q⟩) with h | rfl
  · omega
  · simp
section
variable {w0 w wr w' : World} {nb : Nat} {pv : Value} {hs : Bool} {val : Int} {B : List Nat} {T : List Tr} {cs : List (List Value)} {bv kv : Value} {bo1 bo2 : Option Nat}
theorem VB.start (h : Below w.heap.size w wr) (pv : Value) : VB w0 w wr.heap.size pv false 0 [] [] [] (.slice none 0 0) (.slice none 0 0) none none (wr.alloc (.cells #[.int .i64 0, pv, .bool false, .int .u64 0, .slice none 0 0, .slice none 0 0] rnT)) where
  since := h.alloc h.size _
  nbn := h.size
  box := six_new wr _ _ _ _ _ _ rnT
  ob := OwnS.nil _ _ _
  ok := OwnS.nil _ _ _
  n1 := Or.inl rfl
  n2 := Or.inl rfl
  ne1 := by simp
  ne2 := by simp
  ne := fun g e => by cases e
  len := rfl
  six := by simp
  kids := fun i t c h => by simp at h
theorem VB.has (h : VB w0 w nb pv false 0 [] [] [] (.slice none 0 0) (.slice none 0 0) none none wr) (val : Int) : VB w0 w nb pv true val [] [] [] (.slice none 0 0) (.slice none 0 0) none none ((wr.setCell ⟨nb, 2, none⟩ (.bool true)).setCell ⟨nb, 3, none⟩ (.int .u64 val)) where
  since := (h.since.setCell (p := ⟨nb, 2, none⟩) h.nbn _).setCell (p := ⟨nb, 3, none⟩) h.nbn _
  nbn := h.nbn
  box := by
    have z1 : (wr.setCell ⟨nb, 2, none⟩ (.bool true)).heap[nb]? = some (.cells [.int .i64 0, pv, .bool true, .int .u64 0, .slice none 0 0, .slice none 0 0].toArray rnT (0, 0)) := by
      rw [setCell_list _ _ _ _ _ _ h.box, setRow_heap _ _ _ _ _ _ h.box]; rfl
    rw [setCell_list _ _ _ _ _ _ z1, setRow_heap _ _ _ _ _ _ z1]; rfl
  ob := OwnS.nil _ _ _
  ok := OwnS.nil _ _ _
  n1 := Or.inl rfl
  n2 := Or.inl rfl
  ne1 := by simp
  ne2 := by simp
  ne := fun g e => by cases e
  len := rfl
  six := by simp
  kids := fun i t c h => by simp at h
/-- what a kid's tree reads may be read -/
theorem VB.gd (h : VB w0 w nb pv hs val B T cs bv kv bo1 bo2 wr) (h0 : w0.heap.size ≤ w.heap.size) (hs2 : wr.heap.size ≤ w'.heap.size) : ∀ j, Gn w0 wr w' j → Gd w0 w nb bo1 bo2 w' j := fun j ⟨q1, q2⟩ => by
  have hn := h.nbn
  have hl := h.lt
  have hsz := h.since.size
  refine ⟨by rcases q1 with q | q <;> omega, q2, ?_, ?_, ?_⟩
  · rintro rfl; rcases q1 with q | q <;> omega
  · intro e
    have := h.lt1 e
    rcases h.n1 with e2 | ⟨g, e2, hg⟩
    · rw [e2] at e; cases e
    · rw [e2] at e; cases e; rcases q1 with q | q <;> omega
  · intro e
    have := h.lt2 e
    rcases h.n2 with e2 | ⟨g, e2, hg⟩
    · rw [e2] at e; cases e
    · rw [e2] at e; cases e; rcases q1 with q | q <;> omega
/-- its box behind an append elsewhere -/
theorem VB.boxAt (h : VB w0 w nb pv hs val B T cs bv kv bo1 bo2 wr) {bo : Option Nat} (hm : Mod (fun k => bo = some k) wr w') (hne : bo ≠ some nb) : w'.cell? ⟨nb, 4, none⟩ = some bv ∧ w'.cell? ⟨nb, 5, none⟩ = some kv ∧ w'.frozen? ⟨nb, 4, none⟩ = false ∧ w'.frozen? ⟨nb, 5, none⟩ = false := by
  have hb : w'.heap[nb]? = _ := (hm.same nb h.lt hne).trans h.box
  exact ⟨by rw [cell_of_blk hb]; rfl, by rw [cell_of_blk hb]; rfl, frozen_of_blk hb 4, frozen_of_blk hb 5⟩
end
/-- the node is done, and copied into the result's box -/
theorem bld_end {w0 w w1 wo : World} {nn : Nat} {ab : Option Addr} {pn pc : Nat} {hs : Bool} {val : Int} {L : List (Nat × Tr)} {cs : List (List Value)} {ba : Option Addr} {bn bc : Nat} {ka : Option Addr} {kn kc : Nat} {bo1 bo2 : Option Nat} {bs : List Nat} {l : PL}
    (HV : VB w0 w1 nn (.slice ab pn pc) hs val (L.map (·.1)) (L.map (·.2)) cs (.slice ba bn bc) (.slice ka kn kc) bo1 bo2 wo) (hp : Sl w0 ab pn pc bs) (h0 : Below w0.heap.size w0 w) (hW : Below w.heap.size w w1) (hsz : w1.heap.size = w.heap.size + 1)
    (hRB : w1.heap[w.heap.size]? = some (.cells [.int .i64 0, .slice none 0 0, .bool false, .int .u64 0, .slice none 0 0, .slice none 0 0].toArray rnT (0, 0))) (hB : ∀ x ∈ L.map (·.1), x < 256)
    (hT : TOk (.node bs val hs false (ofL L)) ∧ Can (.node bs val hs false (ofL L)) ∧ tl (.node bs val hs false (ofL L)) = l) (T : World) (hTe : T = wo.setCell ⟨nn, 0, none⟩ (.int .i64 (kindOf L.length : Nat))) :
    T.heap[nn]? = some (.cells [.int .i64 (kindOf L.length : Nat), .slice ab pn pc, .bool hs, .int .u64 val, .slice ba bn bc, .slice ka kn kc].toArray rnT (0, 0)) ∧
    T.heap[w.heap.size]? = some (.cells [.int .i64 0, .slice none 0 0, .bool false, .int .u64 0, .slice none 0 0, .slice none 0 0].toArray rnT (0, 0)) ∧
    ∀ w8, w8 = (((((T.setCell ⟨w.heap.size, 0, none⟩ (.int .i64 (kindOf L.length : Nat))).setCell ⟨w.heap.size, 1, none⟩ (.slice ab pn pc)).setCell ⟨w.heap.size, 2, none⟩ (.bool hs)).setCell ⟨w.heap.size, 3, none⟩ (.int .u64 val)).setCell ⟨w.heap.size, 4, none⟩ (.slice ba bn bc)).setCell ⟨w.heap.size, 5, none⟩ (.slice ka kn kc) →
      (w8.cell? ⟨w.heap.size, 0, none⟩ = some (.int .i64 (kindOf L.length : Nat)) ∧ w8.cell? ⟨w.heap.size, 1, none⟩ = some (.slice ab pn pc) ∧ w8.cell? ⟨w.heap.size, 2, none⟩ = some (.bool hs) ∧ w8.cell? ⟨w.heap.size, 3, none⟩ = some (.int .u64 val) ∧ w8.cell? ⟨w.heap.size, 4, none⟩ = some (.slice ba bn bc) ∧ w8.cell? ⟨w.heap.size, 5, none⟩ = some (.slice ka kn kc)) ∧
      bldPost w0 l w (.returned (.agg #[.int .i64 (kindOf L.length : Nat), .slice ab pn pc, .bool hs, .int .u64 val, .slice ba bn bc, .slice ka kn kc])) w8 := by
  have hnn := HV.nbn
  have hlt := HV.lt
  have hRT := HV.done rfl hp (h0.trans (hW.mono h0.size)) hB (.int .i64 (kindOf L.length : Nat))
  rw [← hTe] at hRT
  have hM : Mod (fun k => k = nn) wo T := by rw [hTe]; exact (Mod.refl _ wo).setCell ⟨nn, 0, none⟩ _ (fun _ => rfl)
  have y1 : T.heap[nn]? = some (.cells [.int .i64 (kindOf L.length : Nat), .slice ab pn pc, .bool hs, .int .u64 val, .slice ba bn bc, .slice ka kn kc].toArray rnT (0, 0)) := by
    rw [hTe, setCell_list _ _ _ _ _ _ HV.box, setRow_heap _ _ _ _ _ _ HV.box]; rfl
  have hso := HV.since.size
  have y2 : T.heap[w.heap.size]? = some (.cells [.int .i64 0, .slice none 0 0, .bool false, .int .u64 0, .slice none 0 0, .slice none 0 0].toArray rnT (0, 0)) := by
    rw [hM.same _ (by omega) (by omega), HV.since.block _ (by omega)]; exact hRB
  refine ⟨y1, y2, fun w8 e8 => ?_⟩
  obtain ⟨z1, z2⟩ := six_fin y2 _ _ _ _ _ _ w8 e8
  obtain ⟨f0, f1, f2, f3, f4, f5, _⟩ := six_facts z1
  have hbw : Below w.heap.size w T := by
    rw [hTe]
    exact ((hW.trans (HV.since.mono hW.size)).setCell (p := ⟨nn, 0, none⟩) (by show w.heap.size ≤ nn; omega) _)
  have hb8 : Below w.heap.size w w8 := ⟨z2.os.trans hbw.os, z2.tape.trans hbw.tape, z2.output.trans hbw.output, Nat.le_trans hbw.size z2.size, fun j hj => (z2.same j (Nat.lt_of_lt_of_le hj hbw.size) (by omega)).trans (hbw.block j hj)⟩
  have h0s := h0.size
  have hR8 := (hRT.keep (w' := w8) z2.size fun j hj => z2.same j hj.2 (by rcases hj.1 with q | q <;> omega)).mono (G' := Gn w0 w w8) fun j hj => ⟨by rcases hj.1 with q | q <;> omega, Nat.lt_of_lt_of_le hj.2 z2.size⟩
  exact ⟨⟨f0, f1, f2, f3, f4, f5⟩, .node bs val hs false (ofL L), _, _, _, _, _, _, _, _, _, _, _, _, rfl, hR8, trivial, hT.1, hT.2.1, hT.2.2, hb8⟩
/-- where a pair of what is left stands among all -/
theorem left_at {l2 dn r : PL} {i : Nat} (h : l2 = dn ++ r) (hi : dn.length = i) (m : Nat) : l2.getD (i + m) ([], 0) = r.getD m ([], 0) := by
  subst h; subst hi
  rw [List.getD, List.getD, List.getElem?_append_right (by omega), Nat.add_sub_cancel_left]
end Go.Proofs.YtfhdiimcimafkaaGreatDoor
/- ser's num and Num, and the document's Num. -/
namespace Go.Proofs.YtfhdiimcimafkaaGreatDoor
open Go.RowKit
theorem append_b1 {w : World} {ops : Array Oper} {rest : List Oper} {o : Oper} {a : Act} {Q : Exit → Act → World → Prop} (hgd : o.guard = none) (s x : Operand)
    (ho : o.op = .call { callee := .builtin .append, args := #[s, x], argTypes := #[38, 38] })
    (v : Value) (hs : a.eval s = v) (n : Nat) (xs : List Value) (bo : Option Nat) (hown : OwnS 1 u8T w v n xs bo)
    (ad : Addr) (m c : Nat) (news : List Value) (hx : a.eval x = .slice (some ad) m c) (hl : news.length = m) (hnews : ∀ j u, news[j]? = some u → w.cell? (ad.add j) = some u) (h1 : ∀ u ∈ news, u.oneCell' = true)
    (hn : n ≤ 1000000) (hm : m ≤ 1000000)
    (h : ∀ v' w' bo', Hid (OwnS 1 u8T w' v' (n + m) (xs ++ news) bo') → Hid (Mod (fun k => bo = some k) w w') → Hid (NewOr w bo bo') → wpList Tryz.prog ops Q rest (a.put o.dst v') w') : wpList Tryz.prog ops Q (o :: rest) a w :=
  wpList_append_s hgd s x 38 ho u8T _ 1 1 Tryz.underlying38 cloneB_info rfl (by omega) v hs n xs bo hown ad m c news hx (by rw [hl]; omega) hnews h1 (by unfold maxLen; omega) (by omega) h
theorem mod_step {w wr X w5 : World} {bo0 bo bo' : Option Nat} (h1 : Mod (fun j => bo0 = some j) w wr) (n1 : NewOr w bo0 bo) (hX : Below wr.heap.size wr X) (hm : Mod (fun j => bo = some j) X w5) (n2 : NewOr X bo bo') : Mod (fun j => bo0 = some j) w w5 ∧ NewOr w bo0 bo' := by
  refine ⟨⟨hm.os.trans (hX.os.trans h1.os), hm.tape.trans (hX.tape.trans h1.tape), hm.output.trans (hX.output.trans h1.output), Nat.le_trans h1.size (Nat.le_trans hX.size hm.size), fun j hj hne => ?_⟩, ?_⟩
  · have hjw := Nat.lt_of_lt_of_le hj h1.size
    rw [hm.same j (Nat.lt_of_lt_of_le hjw hX.size) (fun e => ?_), hX.block j hjw, h1.same j hj hne]
    rcases n1 with e1 | ⟨g, e1, hg⟩
    · rw [e1] at e; exact hne e
    · rw [e1] at e; cases e; omega
  · rcases n2 with e2 | ⟨g, e2, hg⟩
    · rw [e2]; exact n1
    · exact Or.inr ⟨g, e2, Nat.le_trans h1.size (Nat.le_trans hX.size hg)⟩
/-- what num leaves: the bytes behind others; only their own block, or a new one, is written -/
def numPost (bo : Option Nat) (w : World) (xs : List Nat) (n : Nat) (e : Ending) (w' : World) : Prop :=
  ∃ (v' : Value) (M : Nat) (bo' : Option Nat), e = .returned v' ∧ M = xs.length + (numL n).length ∧ OwnS 1 u8T w' v' M (bV (xs ++ numL n)) bo' ∧ Mod (fun j => bo = some j) w w' ∧ NewOr w bo bo'
/-- so far -/
structure NumI (bo0 : Option Nat) (w : World) (xs : List Nat) (n : Nat) (ys : List Nat) (k M : Nat) (v : Value) (bo : Option Nat) (wr : World) : Prop where
  own : OwnS 1 u8T wr v M (bV (xs ++ ys)) bo
  len : M = xs.length + ys.length
  eq : ys ++ numL k = numL n
  mod : Mod (fun j => bo0 = some j) w wr
  new : NewOr w bo0 bo
section
variable {bo0 bo bo' : Option Nat} {w wr w5 : World} {xs ys : List Nat} {n k M b k' : Nat} {v v' : Value} {t : TypeId}
theorem NumI.small (h : NumI bo0 w xs n ys k M v bo wr) (hn : n < 18446744073709551616) (hx : xs.length ≤ 900000) : M ≤ 900010 := by
  have h1 := congrArg List.length h.eq
  rw [List.length_append] at h1
  have := numL_ten hn
  have := h.len
  omega
/-- a byte more -/
theorem NumI.more (h : NumI bo0 w xs n ys k M v bo wr) (e : numL k = b :: numL k') (hO : OwnS 1 u8T w5 v' (M + 1) (bV (xs ++ ys) ++ [.int .u8 (b : Nat)]) bo') (hm : Mod (fun k => bo = some k) (wr.alloc (.cells #[.int .u8 (b : Nat)] t)) w5) (hn : NewOr (wr.alloc (.cells #[.int .u8 (b : Nat)] t)) bo bo') : NumI bo0 w xs n (ys ++ [b]) k' (M + 1) v' bo' w5 := by
  have hA : Below wr.heap.size wr (wr.alloc (.cells #[.int .u8 (b : Nat)] t)) := (Below.refl _ _).alloc (Nat.le_refl _) _
  obtain ⟨q1, q2⟩ := mod_step h.mod h.new hA hm hn
  refine ⟨?_, by rw [List.length_append, h.len]; simp; omega, by rw [← h.eq, e]; simp, q1, q2⟩
  have e2 : bV (xs ++ (ys ++ [b])) = bV (xs ++ ys) ++ [.int .u8 (b : Nat)] := by simp [bV]
  rw [e2]
  exact hO
theorem NumI.last (h : NumI bo0 w xs n ys k M v bo wr) (e : numL k = [k]) (hO : OwnS 1 u8T w5 v' (M + 1) (bV (xs ++ ys) ++ [.int .u8 (k : Nat)]) bo') (hm : Mod (fun k => bo = some k) (wr.alloc (.cells #[.int .u8 (k : Nat)] t)) w5) (hn : NewOr (wr.alloc (.cells #[.int .u8 (k : Nat)] t)) bo bo') : numPost bo0 w xs n (.returned v') w5 := by
  have hA : Below wr.heap.size wr (wr.alloc (.cells #[.int .u8 (k : Nat)] t)) := (Below.refl _ _).alloc (Nat.le_refl _) _
  obtain ⟨q1, q2⟩ := mod_step h.mod h.new hA hm hn
  have he := h.eq
  rw [e] at he
  refine ⟨v', M + 1, bo', rfl, by rw [← he, List.length_append, h.len]; simp; omega, ?_, q1, q2⟩
  have e2 : bV (xs ++ numL n) = bV (xs ++ ys) ++ [.int .u8 (k : Nat)] := by rw [← he]; simp [bV]
  rw [e2]
  exact hO
end
end Go.Proofs.YtfhdiimcimafkaaGreatDoor
/- A leaf, and nobody: how many, head, laid, encoded. -/
namespace Go.Proofs.YtfhdiimcimafkaaGreatDoor
open Go.RowKit
theorem row_len : ∀ (r : Tr), IsK r → TOk r → Can r → (chain r).length ≤ (tl r).length
  | .nil, _, _, _ => by simp [chain]
  | .node .., h, _, _ => h.elim
  | .kid b t r, _, ⟨h1, h2, h3, h4, h5, h6⟩, ⟨c1, c2⟩ => by
    have h := row_len r h4 h5 c2
    have h0 : 0 < (tl t).length := List.length_pos_iff.2 (tl_ne t h2 h3 c1)
    simp only [chain, tl, List.length_cons, List.length_append, pre_length]
    omega
theorem one_leaf {t : Tr} {k : List Nat} {v : Int} (hn : IsN t) (hO : TOk t) (hC : Can t) (h : tl t = [(k, v)]) : t = .node k v true true .nil := by
  cases t with
  | nil => exact hn.elim
  | kid => exact hn.elim
  | node bs y has leaf ks =>
    obtain ⟨o1, o2, o3, o4, o5, o6, o7⟩ := hO
    obtain ⟨c1, c2⟩ := hC
    cases leaf with
    | true =>
      obtain ⟨rfl, rfl⟩ := o5 rfl
      simp [tl] at h
      obtain ⟨rfl, rfl⟩ := h
      rfl
    | false =>
      exfalso
      have h1 := row_len ks o6 o7 c1
      have h2 := c2 rfl
      have h3 := congrArg List.length h
      simp only [tl, List.length_append, pre_length] at h3
      cases has <;> simp only [Bool.false_eq_true, if_false, if_true, List.length_nil, List.length_cons] at h2 h3 <;> omega
/-- a part, and where it is laid -/
def partAt (bs : List Nat) (w : World) (e : Ending) (w' : World) : Prop := e = .returned (.slice (some ⟨w.heap.size, 0, none⟩) bs.length bs.length) ∧ Sl w' (some ⟨w.heap.size, 0, none⟩) bs.length bs.length bs ∧ Below w.heap.size w w'
section
variable {w : World} {n : Nat} {o : Int} {bs : List Nat} {val : Int} {has : Bool} {kk : Option KV} {pv : Value} {bo : Option Nat} {kp : Option Addr} {Sk : Nat → Prop}
set_option maxRecDepth 100000 in
theorem nd_part_at (h : NdIs w n o bs val has kk pv bo kp Sk) (h8 : ∀ x ∈ bs, x < 256) (hn : bs.length ≤ 140737488355328) : Calls Tryz.prog 63 #[.pointer (some ⟨n, 0, none⟩)] w (partAt bs w) := by
  have c1 := h.c1
  have hmx : Hid (bs.length ≤ maxLen) := by show _ ≤ _; unfold maxLen; omega
  obtain ⟨pa, pc, hpv⟩ := h.own.len
  subst hpv
  have hl : (bV bs).length = bs.length := by simp [bV]
  rw [hl] at c1
  have hmk : ∀ w, (Instr.makeSlice 38 (.int .i64 (bs.length : Nat)) (.int .i64 (bs.length : Nat))).run Tryz.prog w = .ok (.slice (some ⟨w.heap.size, 0, none⟩) bs.length bs.length) (w.alloc (.cells (List.replicate bs.length (.int .u8 0)).toArray 5)) := fun w => make_u8 w _ hn
  have c1' : ∀ o, (w.alloc o).cell? ⟨n, 1, none⟩ = some (.slice pa bs.length pc) := fun o => (((Below.refl _ w).alloc (Nat.le_refl _) o).cell (p := ⟨n, 1, none⟩) h.lt).trans c1
  have hsz : (Tryz.prog.info? 5).map (·.size) = some 1 := by kernel_rfl
  have hg : Hid (∀ t, (w.alloc (.cells (Array.replicate bs.length (.int .u8 0)) t)).heap[w.heap.size]? = some (.cells (List.replicate bs.length (Value.int .u8 0)).toArray t (0, 0))) := fun t => by
    rw [heap_alloc_new]; simp
  have hcs : Hid ((bV bs).length = Nat.min bs.length bs.length) := by
    have : Nat.min bs.length bs.length = bs.length := Nat.min_self _
    show _ = _
    rw [hl, this]
  have hpos : Hid (∀ o, 0 < (bV bs).length → (some ⟨w.heap.size, 0, none⟩ : Option Addr) = some ⟨w.heap.size, 0, none⟩ ∧ ∃ ad, pa = some ad ∧ ∀ j v, (bV bs)[j]? = some v → (w.alloc o).cell? (ad.add j) = some v) := fun o hp => by
    obtain ⟨g, cap, e1, e2, _⟩ := h.own.at_ hp
    have e3 : pa = some ⟨g, 0, none⟩ := by simpa using (Value.slice.inj e2).1
    refine ⟨rfl, ⟨g, 0, none⟩, e3, fun j v hj => ?_⟩
    have hjl : j < (bV bs).length := (List.getElem?_eq_some_iff.1 hj).1
    have hv : (bV bs)[j] = v := (List.getElem?_eq_some_iff.1 hj).2
    obtain ⟨g', cap', q1, q2, q3, _⟩ := h.own.at_ hjl
    obtain rfl : g = g' := by rw [e1] at q1; simpa using q1
    have hlt := h.own
    rw [e1] at hlt
    have h2 : (⟨g, 0, none⟩ : Addr).add j = ⟨g, j, none⟩ := add0 g j
    rw [h2, ((Below.refl _ w).alloc (Nat.le_refl _) o).cell (p := ⟨g, j, none⟩) hlt.lt, q3, hv]
  have hfit : Hid (0 + (bV bs).length ≤ (List.replicate bs.length (Value.int .u8 0)).length) := by show _ ≤ _; simp [hl]
  have hone := Lib.hid (bV_one bs)
  have hB : Hid (∀ o, Below w.heap.size w (w.alloc o)) := fun o => (Below.refl _ w).alloc (Nat.le_refl _) o
  have hend : Hid (∀ w' t, w'.heap[w.heap.size]? = some (.cells (splice (List.replicate bs.length (Value.int .u8 0)) 0 (bV bs)).toArray t (0, 0)) → BytesAt w' (some ⟨w.heap.size, 0, none⟩) bs) := fun w' t q => by
    refine ⟨h8, fun i hi => ⟨_, rfl, ?_, ?_⟩⟩
    · rw [add0]
      exact (Array.getElem?_eq_some_iff.1 q).1
    · rw [add0, cell_of_blk q]
      simp [splice, hl, bV, List.getD, hi]
  clear h hn h8
  go_enter Tryz.func63, Tryz.ntmps63
  go_wp2_with (with_reducible show wpList _ _ _ (⟨some 17, _, _, _, _, _⟩ :: _) _ _; refine wpList_copy_splice (o := ⟨some 17, _, _, _, _, _⟩) rfl (.tmp 12) (.tmp 16) 38 38 rfl 5 cloneB_under hsz _ _ _ _ _ _ rfl rfl w.heap.size 0 _ _ (hg.out _) (bV bs) hcs.out (hpos.out _) hfit.out hone.out w.heap.size w (hB.out _) (Nat.le_refl _) ?_; intro w' hg2 hb2; have q := Lib.hid (hend.out _ _ hg2.out))
  go_ret
  exact ⟨rfl, ⟨rfl, q.out, Nat.le_refl _, hmx.out, fun e => by cases e⟩, hb2⟩
end
structure LeafW (w : World) (n : Nat) (bs : List Nat) (val : Int) : Prop where
  part : ∀ X, Below w.heap.size w X → Calls Tryz.prog 63 #[.pointer (some ⟨n, 0, none⟩)] X (partAt bs X)
  val : ∀ X, Below w.heap.size w X → Calls Tryz.prog 37 #[.pointer (some ⟨n, 0, none⟩)] X fun e w' => e = .returned (.tuple #[.int .u64 val, .bool true]) ∧ X = w'
  kind : ∀ X, Below w.heap.size w X → Calls Tryz.prog 36 #[.pointer (some ⟨n, 0, none⟩)] X fun e w' => e = .returned (.int .i64 1) ∧ X = w'
  next : ∀ X, Below w.heap.size w X → Calls Tryz.prog 47 #[.pointer (some ⟨n, 0, none⟩), .int .i64 0] X fun e w' => e = .returned (.tuple #[.int .u8 0, .pointer none]) ∧ ∃ k, w' = X.drewN k
theorem leafw_of {w0 w : World} {Q : List NP} {bs : List Nat} {val : Int} {v : Option Addr} (hQ : StoreP NoB w0 w Q) (hT : TreeIn Q 0 (.node bs val true true .nil) (.pointer v) []) : ∃ n, v = some ⟨n, 0, none⟩ ∧ LeafW w n bs val := by
  obtain ⟨i, p, _, h1, h2, h3, h4, h5, h6, _⟩ := hT
  obtain rfl : v = some ⟨p.n, 0, none⟩ := by simpa using h2
  have hk : p.kk = none := by simpa using h6
  refine ⟨p.n, rfl, fun X hb => ?_, fun X hb => ?_, fun X hb => ?_, fun X hb => ?_⟩
  all_goals obtain ⟨pv, bo, kp, Sk, hd⟩ := (hQ.below hb).is h1
  all_goals have hf := (hQ.below hb).fit h1
  · have := nd_part_at hd hf.1 hf.2; rw [h3] at this; exact this
  · have := nd_val hd; rw [h4, h5] at this; exact this
  · have := nd_kind hd; rw [hk] at this; exact this
  · have := nd_next hd 0 (by omega) (by omega); rw [hk] at this; exact this
/-! canon.Count -/
theorem each1_nil (w : World) (pf pd : Value) : Calls Tryz.prog 62 #[.slice none 0 0, .pointer none, pf, pd] w fun e w' => e = .returned (.tuple #[]) ∧ w = w' := by
  go_enter Tryz.func62, Tryz.ntmps62
  go_wp2_with fail
  (try simp only [Exit.inBlock, Exit.then])
  refine bodyPost_ret (results_none rfl _ _ _) rfl ?_
  exact ⟨rfl, rfl⟩
theorem count_cb {w X : World} {n : Nat} {bs : List Nat} {val : Int} (h : LeafW w n bs val) (hb : Below w.heap.size w X) {m : Nat} {x : Int} (hc : X.cell? ⟨m, 0, none⟩ = some (.int .i64 x)) (hf : X.frozen? ⟨m, 0, none⟩ = false) (hx : 0 ≤ x ∧ x < 1000000) (a : Option Addr) (n' c' : Nat) : Calls Tryz.prog 48 #[.slice a n' c', .pointer (some ⟨n, 0, none⟩), .pointer (some ⟨m, 0, none⟩)] X fun e w' => e = .returned (.tuple #[]) ∧ w' = X.setCell ⟨m, 0, none⟩ (.int .i64 (x + 1)) := by
  have hV := Lib.hid (h.val X hb)
  have hw : IntKind.i64.wrap (x + 1) = x + 1 := IntWalk.i64_in _ (by omega)
  clear h hb
  go_enter Tryz.func48, Tryz.ntmps48
  go_wp2_with (go_at_call 37; refine hV.out.mono ?_; rintro e w' ⟨rfl, rfl⟩)
  go_end0
  exact ⟨rfl, rfl⟩
/-- what a count of one leaves -/
def onePost (X : World) (m : Nat) (x : Int) (e : Ending) (w' : World) : Prop := e = .returned (.tuple #[]) ∧ w'.cell? ⟨m, 0, none⟩ = some (.int .i64 (x + 1)) ∧ ∀ lo, lo ≤ m → lo ≤ X.heap.size → Below lo X w'
set_option maxHeartbeats 1000000 in
set_option maxRecDepth 100000 in
theorem each1_leaf {w X : World} {n : Nat} {bs : List Nat} {val : Int} (h : LeafW w n bs val) (hl : bs.length ≤ 1000) (hb : Below w.heap.size w X) {m bf bd : Nat} {x : Int} (hmw : w.heap.size ≤ m) (hm : X.heap[m]? = some (.cells [.int .i64 x].toArray 3 (0, 0))) (hc : X.cell? ⟨bf, 0, none⟩ = some (.func (.func 48) #[] #[.pointer (some ⟨m, 0, none⟩)])) (hx : 0 ≤ x ∧ x < 1000000) :
    Calls Tryz.prog 62 #[.slice none 0 0, .pointer (some ⟨n, 0, none⟩), .pointer (some ⟨bf, 0, none⟩), .pointer (some ⟨bd, 0, none⟩)] X (onePost X m x) := by
  have hP := Lib.hid (h.part X hb)
  have hL : Hid (bs.length ≤ 1000) := hl
  have hbf := cell_lt hc
  have hmlt := (Array.getElem?_eq_some_iff.1 hm).1
  have hAll : Hid (∀ X2, Below X.heap.size X X2 → X2.cell? ⟨bf, 0, none⟩ = some (.func (.func 48) #[] #[.pointer (some ⟨m, 0, none⟩)]) ∧
      (∀ a n' c', Calls Tryz.prog 48 #[.slice a n' c', .pointer (some ⟨n, 0, none⟩), .pointer (some ⟨m, 0, none⟩)] X2 fun e w' => e = .returned (.tuple #[]) ∧ (Calls Tryz.prog 47 #[.pointer (some ⟨n, 0, none⟩), .int .i64 0] w' fun e w'' => e = .returned (.tuple #[.int .u8 0, .pointer none]) ∧ ∃ k, w'' = w'.drewN k ∧ onePost X m x (.returned (.tuple #[])) w'')) ) := fun X2 hb2 => by
    have hm2 := (hb2.block m hmlt).trans hm
    have hbw := hb.trans (hb2.mono hb.size)
    refine ⟨(hb2.cell hbf).trans hc, fun a n' c' => (count_cb h hbw (by rw [cell_of_blk hm2]; rfl) (frozen_of_blk hm2 0) hx a n' c').mono fun e w' ⟨e1, e2⟩ => ⟨e1, ?_⟩⟩
    have hb3 : Below w.heap.size w w' := by rw [e2]; exact hbw.setCell (p := ⟨m, 0, none⟩) hmw _
    refine (h.next w' hb3).mono fun e w'' ⟨q1, k, q2⟩ => ⟨q1, k, q2, rfl, ?_, fun lo h1 h2 => ?_⟩
    · rw [q2]
      show w'.cell? ⟨m, 0, none⟩ = _
      have : w'.heap[m]? = some (.cells [.int .i64 (x + 1)].toArray 3 (0, 0)) := by rw [e2, setCell_list _ _ _ _ _ _ hm2, setRow_heap _ _ _ _ _ _ hm2]; rfl
      rw [cell_of_blk this]; rfl
    · rw [q2]
      refine below_drewN ?_ _
      rw [e2]
      exact (hb2.mono h2).setCell (p := ⟨m, 0, none⟩) h1 _
  clear h hb hc hm
  go_enter Tryz.func62, Tryz.ntmps62
  go_wp2_with (first
    | (at_builtin; go_loud (refine wpList_append_b rfl _ _ 38 rfl Tryz.underlying38 rfl (some ⟨X.heap.size, 0, none⟩) bs.length bs.length bs rfl hS1.out hL.out ?_); intro v2 w2 bo2 HO HM HN; obtain ⟨a2, c2, hv2, _⟩ := HO.out.len; subst hv2; obtain ⟨k1, k2⟩ := hAll.out w2 (hB1.out.trans (HM.out.mono hB1.out.size)); have K2 := Lib.hid k2; clear k2 HO HM HN)
    | (go_at_call 63; refine hP.out.mono ?_; rintro e w1 ⟨rfl, s1, b1⟩; have hS1 := Lib.hid s1; have hB1 := Lib.hid b1; clear s1 b1)
    | (go_at_call 48; refine (K2.out _ _ _).mono ?_; rintro e w3 ⟨rfl, k3⟩; have K3 := Lib.hid k3; clear k3)
    | (go_at_call 47; refine K3.out.mono ?_; rintro e w4 ⟨rfl, kk, rfl, k4⟩; have K4 := Lib.hid k4; clear k4))
  go_loopw [6, 7] (fun v6 v7 wr => v7 = .pointer none ∧ Hid (onePost X m x (.returned (.tuple #[])) wr)) (fun _ _ _ => 0)
  case atStart => exact ⟨rfl, K4⟩
  case round =>
    clear K4
    obtain ⟨rfl, K4⟩ := hrel
    go_wp2_with fail
    go_end0
    exact K4.out
theorem each_leaf {w X : World} {n : Nat} {bs : List Nat} {val : Int} (h : LeafW w n bs val) (hl : bs.length ≤ 1000) (hb : Below w.heap.size w X) {m : Nat} {x : Int} (hmw : w.heap.size ≤ m) (hm : X.heap[m]? = some (.cells [.int .i64 x].toArray 3 (0, 0))) (hx : 0 ≤ x ∧ x < 1000000) :
    Calls Tryz.prog 34 #[.pointer (some ⟨n, 0, none⟩), .func (.func 48) #[] #[.pointer (some ⟨m, 0, none⟩)]] X (onePost X m x) := by
  have hmlt := (Array.getElem?_eq_some_iff.1 hm).1
  obtain ⟨w1, hw1⟩ : ∃ w1, w1 = X.alloc (.cells #[.func (.func 48) #[] #[.pointer (some ⟨m, 0, none⟩)]] 84) := ⟨_, rfl⟩
  have hbx : w1.heap[X.heap.size]? = some (.cells [.func (.func 48) #[] #[.pointer (some ⟨m, 0, none⟩)]].toArray 84 (0, 0)) := by rw [hw1]; exact heap_alloc_new X _
  have hA1 : Below X.heap.size X w1 := by rw [hw1]; exact (Below.refl _ X).alloc (Nat.le_refl _) _
  have hE : Hid (∀ o2 bd, Calls Tryz.prog 62 #[.slice none 0 0, .pointer (some ⟨n, 0, none⟩), .pointer (some ⟨X.heap.size, 0, none⟩), .pointer (some ⟨bd, 0, none⟩)] (w1.alloc o2) (onePost X m x)) := fun o2 bd => by
    have hA2 : Below w1.heap.size w1 (w1.alloc o2) := (Below.refl _ w1).alloc (Nat.le_refl _) o2
    have hA : Below X.heap.size X (w1.alloc o2) := hA1.trans (hA2.mono hA1.size)
    have hc : (w1.alloc o2).cell? ⟨X.heap.size, 0, none⟩ = some (.func (.func 48) #[] #[.pointer (some ⟨m, 0, none⟩)]) := by
      rw [cell_of_blk ((hA2.block _ (Array.getElem?_eq_some_iff.1 hbx).1).trans hbx)]; rfl
    exact (each1_leaf h hl (hb.trans (hA.mono hb.size)) hmw ((hA.block m hmlt).trans hm) hc hx).mono fun e w' ⟨e1, e2, e3⟩ => ⟨e1, e2, fun lo h1 h2 => (hA.mono h2).trans (e3 lo h1 (Nat.le_trans h2 hA.size))⟩
  clear h hb hm hbx hA1
  go_enter Tryz.func34, Tryz.ntmps34
  go_upto_region 1 with fail
  rw [← hw1]
  clear hw1
  go_wp2_with (go_at_call 62; refine (hE.out _ _).mono ?_; rintro e w' ⟨rfl, q⟩; have q := Lib.hid q)
  go_end0
  exact ⟨rfl, q.out⟩
theorem each_nil (X : World) (m : Nat) : Calls Tryz.prog 34 #[.pointer none, .func (.func 48) #[] #[.pointer (some ⟨m, 0, none⟩)]] X fun e w' => e = .returned (.tuple #[]) ∧ Below X.heap.size X w' := by
  obtain ⟨w1, hw1⟩ : ∃ w1, w1 = X.alloc (.cells #[.func (.func 48) #[] #[.pointer (some ⟨m, 0, none⟩)]] 84) := ⟨_, rfl⟩
  have hA1 : Below X.heap.size X w1 := by rw [hw1]; exact (Below.refl _ X).alloc (Nat.le_refl _) _
  have hB : Hid (∀ o2, Below X.heap.size X (w1.alloc o2)) := fun o2 => hA1.alloc hA1.size o2
  clear hA1
  go_enter Tryz.func34, Tryz.ntmps34
  go_upto_region 1 with fail
  rw [← hw1]
  clear hw1
  go_wp2_with (go_at_call 62; refine (each1_nil _ _ _).mono ?_; rintro e w' ⟨rfl, rfl⟩)
  go_end0
  exact ⟨rfl, hB.out _⟩
theorem count_leaf {w X : World} {n : Nat} {bs : List Nat} {val : Int} (h : LeafW w n bs val) (hl : bs.length ≤ 1000) (hb : Below w.heap.size w X) : Calls Tryz.prog 18 #[.pointer (some ⟨n, 0, none⟩)] X (belowPost (.int .i64 1) X) := by
  have hE := Lib.hid (fun t => each_leaf (X := X.alloc (.cells #[.int .i64 0] t)) (m := X.heap.size) (x := 0) h hl (hb.alloc hb.size _) hb.size)
  have hbx : Hid (∀ t, (X.alloc (.cells #[.int .i64 0] t)).heap[X.heap.size]? = some (.cells [.int .i64 0].toArray t (0, 0))) := fun t => heap_alloc_new X _
  have hA : Hid (∀ t, Below X.heap.size X (X.alloc (.cells #[.int .i64 0] t))) := fun t => (Below.refl _ X).alloc (Nat.le_refl _) _
  clear h hb
  go_enter Tryz.func18, Tryz.ntmps18
  go_wp2_with (go_at_call 34; refine (hE.out _ (hbx.out _) (by omega)).mono ?_; rintro e w' ⟨rfl, q1, q2⟩; have B2 := Lib.hid ((hA.out _).trans (q2 X.heap.size (Nat.le_refl _) (hA.out _).size)); clear q2)
  go_ret
  exact ⟨rfl, B2.out⟩
theorem count_nil (X : World) : Calls Tryz.prog 18 #[.pointer none] X (belowPost (.int .i64 0) X) := by
  have hbx : Hid (∀ t, (X.alloc (.cells #[.int .i64 0] t)).heap[X.heap.size]? = some (.cells [.int .i64 0].toArray t (0, 0))) := fun t => heap_alloc_new X _
  have hA : Hid (∀ t, Below X.heap.size X (X.alloc (.cells #[.int .i64 0] t))) := fun t => (Below.refl _ X).alloc (Nat.le_refl _) _
  go_enter Tryz.func18, Tryz.ntmps18
  go_wp2_with (go_at_call 34; refine (each_nil _ _).mono ?_; rintro e w' ⟨rfl, q2⟩; have B2 := Lib.hid ((hA.out _).trans (q2.mono (hA.out _).size)); have q1 := cell_of_blk ((q2.block X.heap.size (Array.getElem?_eq_some_iff.1 (hbx.out _)).1).trans (hbx.out _)) 0; clear q2)
  go_ret
  exact ⟨rfl, B2.out⟩
end Go.Proofs.YtfhdiimcimafkaaGreatDoor
/- The tree of pairs that rise (spunyarnlaw30). -/
namespace Go.Proofs.YtfhdiimcimafkaaGreatDoor
open Go.RowKit
end Go.Proofs.YtfhdiimcimafkaaGreatDoor
/- A leaf laid, and encoded; nobody encoded. -/
namespace Go.Proofs.YtfhdiimcimafkaaGreatDoor
open Go.RowKit
theorem sl_mod {w w' : World} {a : Option Addr} {n c : Nat} {bs : List Nat} (h : Sl w a n c bs) {S : Nat → Prop} (hm : Mod S w w') (hS : ∀ p : Addr, a = some p → ¬ S p.block) : Sl w' a n c bs := ⟨h.len, bytes_keep h.at_ hm hS, h.cap, h.capm, h.nil⟩
theorem mod_lo {w w' : World} {bo : Option Nat} {lo : Nat} (hm : Mod (fun j => bo = some j) w w') (hb : ∀ g, bo = some g → lo ≤ g) (hs : lo ≤ w.heap.size) : Below lo w w' := ⟨hm.os, hm.tape, hm.output, hm.size, fun j hj => hm.same j (by omega) fun e => by have := hb j e; omega⟩
def layPost (bo : Option Nat) (X : World) (zs : List Nat) (e : Ending) (w' : World) : Prop :=
  ∃ (v' : Value) (M : Nat) (bo' : Option Nat), e = .returned v' ∧ OwnS 1 u8T w' v' M (bV zs) bo' ∧ Mod (fun j => bo = some j) X w' ∧ NewOr X bo bo'
theorem bV_app (a b : List Nat) : bV (a ++ b) = bV a ++ bV b := by simp [bV]
theorem newOr_ne {X w : World} {bo bo' : Option Nat} (n : NewOr X bo bo') (hlt : ∀ g, bo = some g → g < X.heap.size) {j : Nat} (hj : bo ≠ some j) (hX : j < X.heap.size ∨ True) (h2 : ∀ g, bo' = some g → X.heap.size ≤ g → g ≠ j) : bo' ≠ some j := fun e => by
  rcases n with e2 | ⟨g, e2, hg⟩
  · rw [e2] at e; exact hj e
  · rw [e2] at e; cases e; exact h2 _ e2 hg rfl
theorem newOr_lt {w2 : World} {bo bo2 : Option Nat} {j : Nat} (n : NewOr w2 bo bo2) (hlt : ∀ g, bo = some g → g < j) (h : j < w2.heap.size) : bo2 ≠ some j := fun e => by
  rcases n with e2 | ⟨g, e2, hg⟩
  · rw [e2] at e; have := hlt _ e; omega
  · rw [e2] at e; cases e; omega
end Go.Proofs.YtfhdiimcimafkaaGreatDoor
/- A leaf encoded; nobody encoded, and how many bytes that is. -/
namespace Go.Proofs.YtfhdiimcimafkaaGreatDoor
open Go.RowKit
theorem own_one (X : World) (b : Nat) : OwnS 1 u8T (X.alloc (.cells #[.int .u8 (b : Nat)] 5)) (.slice (some ⟨X.heap.size, 0, none⟩) 1 1) 1 (bV [b]) (some X.heap.size) :=
  Or.inr ⟨X.heap.size, 1, #[.int .u8 (b : Nat)], rfl, rfl, heap_alloc_new X _, Nat.le_refl _, by unfold maxLen; omega, rfl, rfl, rfl⟩
def encPost (X : World) (zs : List Nat) (e : Ending) (w' : World) : Prop := ∃ a m c, e = .returned (.slice a m c) ∧ Sl w' a m c zs ∧ Below X.heap.size X w'
end Go.Proofs.YtfhdiimcimafkaaGreatDoor
/- The law SerNums. -/
namespace Go.Proofs.YtfhdiimcimafkaaGreatDoor
open Go.RowKit
theorem sl_lit (w : World) (xs : List Nat) (t : TypeId) (h8 : ∀ x ∈ xs, x < 256) (hl : xs.length ≤ 1000) : Sl (w.alloc (.cells (bV xs).toArray t)) (some ⟨w.heap.size, 0, none⟩) xs.length xs.length xs := by
  have hb : (w.alloc (.cells (bV xs).toArray t)).heap[w.heap.size]? = some (.cells (bV xs).toArray t (0, 0)) := heap_alloc_new w _
  refine ⟨rfl, ⟨h8, fun i hi => ⟨_, rfl, ?_, ?_⟩⟩, Nat.le_refl _, by unfold maxLen; omega, fun e => by cases e⟩
  · rw [add_block]; show w.heap.size < _; rw [World.size_alloc]; omega
  · rw [add0, cell_of_blk hb, bV_get]; simp [List.getD, hi]
theorem num300 : numL 300 = [172, 2] := by rw [numL_ge (by omega), numL_lt (by omega)]
theorem al30_z : [1] ++ numL 1 ++ [0] ++ numL ([1] : List Nat).length ++ [1] ++ numL 5 = [1, 1, 0, 1, 1, 5] := by
  rw [show ([1] : List Nat).length = 1 from rfl, numL_lt (by omega), numL_lt (by omega)]; rfl
theorem al30_prs (w : World) (t1 t2 : TypeId) : Prs ((w.alloc (.cells #[.int .u8 1] t1)).alloc (.cells #[.slice (some ⟨w.heap.size, 0, none⟩) 1 1, .int .u64 5] t2)) (some ⟨w.heap.size + 1, 0, none⟩) 1 1 [([1], 5)] := by
  obtain ⟨w1, h1⟩ : ∃ w1, w1 = w.alloc (.cells #[.int .u8 1] t1) := ⟨_, rfl⟩
  have s1 : w1.heap.size = w.heap.size + 1 := by rw [h1]; simp
  rw [← h1]
  obtain ⟨w3, h3⟩ : ∃ w3, w3 = w1.alloc (.cells #[.slice (some ⟨w.heap.size, 0, none⟩) 1 1, .int .u64 5] t2) := ⟨_, rfl⟩
  rw [← h3]
  have b3 : Below w1.heap.size w1 w3 := by rw [h3]; exact (Below.refl _ _).alloc (Nat.le_refl _) _
  have k1 : Sl w3 (some ⟨w.heap.size, 0, none⟩) 1 1 [1] := by
    have := sl_one w 1 t1 (by omega)
    have : Sl w1 (some ⟨w.heap.size, 0, none⟩) 1 1 [1] := by rw [h1]; exact this
    exact this.below b3
  have hb : w3.heap[w.heap.size + 1]? = some (.cells [.slice (some ⟨w.heap.size, 0, none⟩) 1 1, .int .u64 5].toArray t2 (0, 0)) := by
    have := heap_alloc_new w1 (.cells #[.slice (some ⟨w.heap.size, 0, none⟩) 1 1, .int .u64 5] t2)
    rw [s1] at this
    rw [h3]; exact this
  have s3 : w3.heap.size = w.heap.size + 1 + 1 := by rw [h3, World.size_alloc, s1]
  refine ⟨rfl, Nat.le_refl _, by unfold maxLen; omega, (fun e => by cases e), (by simp), fun i hi => ⟨_, rfl, ?_⟩⟩
  have hi : i < 1 := hi
  obtain rfl : i = 0 := by omega
  refine ⟨by rw [add0]; show w.heap.size + 1 < _; omega, _, _, _, ?_, ?_, k1⟩
  · rw [add0, cell_of_blk hb]; rfl
  · rw [add0, cell_of_blk hb]; rfl
end Go.Proofs.YtfhdiimcimafkaaGreatDoor
/- A tree's bytes. No program. -/
namespace Go.Proofs.YtfhdiimcimafkaaGreatDoor
/-- a node's head -/
def headN (has leaf : Bool) (m : Nat) : Nat := if leaf then 0 else (if has then 16 else 0) + (if m ≤ 4 then 1 else if m ≤ 16 then 2 else if m ≤ 48 then 3 else 4)
/-- a tree's bytes; of a row: each byte and what stands below it -/
def layT : Tr → List Nat
  | .nil => []
  | .kid b t r => b :: (layT t ++ layT r)
  | .node bs v has leaf ks => headN has leaf (chain ks).length :: (numL bs.length ++ (bs ++ ((if has then numL v.toNat else []) ++ (if leaf then [] else ((chain ks).length - 1) :: layT ks))))
theorem headN_lt (has leaf : Bool) (m : Nat) : headN has leaf m < 256 := by
  unfold headN
  cases has <;> cases leaf <;> simp <;> (repeat (split <;> try omega)) <;> omega
theorem chain_le : ∀ (r : Tr), IsK r → TOk r → ∀ b, From b r → b + (chain r).length ≤ 255 ∨ chain r = []
  | .nil, _, _, _, _ => Or.inr rfl
  | .node .., h, _, _, _ => h.elim
  | .kid c t r, _, ⟨h1, h2, h3, h4, h5, h6⟩, b, hb => by
    left
    have hb : b < c := hb
    rcases chain_le r h4 h5 c h6 with h | h
    · simp only [chain, List.length_cons]; omega
    · simp only [chain, h, List.length_cons, List.length_nil]; omega
theorem chain256 {r : Tr} (h1 : IsK r) (h2 : TOk r) : (chain r).length ≤ 256 := by
  cases r with
  | nil => simp [chain]
  | node => exact h1.elim
  | kid c t r =>
    obtain ⟨k1, k2, k3, k4, k5, k6⟩ := h2
    rcases chain_le r k4 k5 c k6 with h | h
    · simp only [chain, List.length_cons]; omega
    · simp [chain, h]
theorem layT_byte : ∀ (t : Tr), TOk t → ∀ x ∈ layT t, x < 256
  | .nil, _, x, h => by simp [layT] at h
  | .kid b t r, ⟨h1, h2, h3, h4, h5, h6⟩, x, h => by
    simp only [layT, List.mem_cons, List.mem_append] at h
    rcases h with rfl | h | h
    · exact h1
    · exact layT_byte t h3 x h
    · exact layT_byte r h5 x h
  | .node bs v has leaf ks, ⟨h1, h2, h3, h4, h5, h6, h7⟩, x, h => by
    simp only [layT, List.mem_cons, List.mem_append] at h
    rcases h with rfl | h | h | h | h
    · exact headN_lt _ _ _
    · exact numL_byte _ x h
    · exact h1 x h
    · cases has
      · simp at h
      · exact numL_byte _ x (by simpa using h)
    · cases leaf
      · simp only [Bool.false_eq_true, if_false, List.mem_cons] at h
        rcases h with rfl | h
        · have := chain256 h6 h7; omega
        · exact layT_byte ks h7 x h
      · simp at h
end Go.Proofs.YtfhdiimcimafkaaGreatDoor
/- A node's kids, one behind the other. -/
namespace Go.Proofs.YtfhdiimcimafkaaGreatDoor
open Go.RowKit
def hdB (l : KV) : Nat := match l with | [] => 0 | p :: _ => p.1
def hdK (l : KV) : Value := match l with | [] => .pointer none | p :: _ => p.2
theorem stepV_head (l : KV) : stepV l.head? = .tuple #[.int .u8 (hdB l : Nat), hdK l] := by
  cases l <;> rfl
theorem knxt_app {A r : KV} {f : Int} (hA : ∀ p ∈ A, (p.1 : Int) < f) (hr : ∀ p ∈ r, f ≤ (p.1 : Int)) : knxt (A ++ r) f = r.head? := by
  unfold knxt
  rw [List.find?_append]
  have h1 : A.find? (fun p => decide (f ≤ (p.1 : Int))) = none := by
    rw [List.find?_eq_none]
    intro p hp
    have := hA p hp
    simp; omega
  rw [h1]
  cases r with
  | nil => rfl
  | cons p r => simp [hr p (by simp)]
/-- the kids that are left: r in the tree, lr in memory -/
structure Kids (Q : List NP) (kk : KV) (ks r : Tr) (A lr : KV) : Prop where
  eq : kk = A ++ lr
  tree : TreeIn Q 0 r (.pointer none) lr
  isK : IsK r
  ok : TOk r
  lt : ∀ p ∈ A, ∀ q ∈ lr, p.1 < q.1
theorem row_from {Q : List NP} : ∀ {r : Tr} {v : Value} {lr : KV} {b : Nat}, TreeIn Q 0 r v lr → IsK r → TOk r → From b r → ∀ q ∈ lr, b < q.1 ∧ q.1 < 256
  | .nil, _, lr, b, h, _, _, _, q, hq => by have h : lr = [] := h; subst h; simp at hq
  | .node .., _, _, _, _, h, _, _, _, _ => h.elim
  | .kid c t r, v, lr, b, ⟨x, l', h1, h2, h3⟩, _, ⟨k1, k2, k3, k4, k5, k6⟩, hb, q, hq => by
    subst h1
    have hb : b < c := hb
    rcases List.mem_cons.1 hq with rfl | hq
    · exact ⟨hb, k1⟩
    · have := row_from h3 k4 k5 k6 q hq
      exact ⟨by omega, this.2⟩
section
variable {Q : List NP} {kk : KV} {ks r : Tr} {A lr : KV}
theorem kids_start {v : Value} (h : TreeIn Q 0 ks v kk) (hv : v = .pointer none) (h1 : IsK ks) (h2 : TOk ks) : Kids Q kk ks ks [] kk ∧ knxt kk 0 = kk.head? := by
  subst hv
  exact ⟨⟨rfl, h, h1, h2, by simp⟩, knxt_app (A := []) (r := kk) (by simp) (fun p _ => by omega)⟩
/-- the next one -/
theorem Kids.next (h : Kids Q kk ks r A lr) (hl : lr ≠ []) : ∃ b t r' x lr', r = .kid b t r' ∧ lr = (b, x) :: lr' ∧ hdB lr = b ∧ hdK lr = x ∧ b < 256 ∧ (∃ k, x = .pointer (some ⟨k, 0, none⟩)) ∧ TreeV Q t x ∧ IsN t ∧ TOk t ∧ Kids Q kk ks r' (A ++ [(b, x)]) lr' ∧ knxt kk ((b : Int) + 1) = lr'.head? := by
  obtain ⟨e, h1, h2, h3, h4⟩ := h
  cases r with
  | nil => exact absurd h1 hl
  | node => exact h2.elim
  | kid b t r' =>
    obtain ⟨x, lr', q1, q2, q3⟩ := h1
    obtain ⟨k1, k2, k3, k4, k5, k6⟩ := h3
    have hf := row_from q3 k4 k5 k6
    subst q1
    refine ⟨b, t, r', x, lr', rfl, rfl, rfl, rfl, k1, q2.isN k2, Or.inr ⟨k2, q2⟩, k2, k3, ⟨by rw [e]; simp, q3, k4, k5, fun p hp q hq => ?_⟩, ?_⟩
    · rcases List.mem_append.1 hp with hp | hp
      · exact h4 p hp q (by simp [hq])
      · obtain rfl := List.mem_singleton.1 hp
        exact (hf q hq).1
    · rw [e, show A ++ (b, x) :: lr' = (A ++ [(b, x)]) ++ lr' by simp]
      refine knxt_app (fun p hp => ?_) fun p hp => ?_
      · rcases List.mem_append.1 hp with hp | hp
        · have := h4 p hp (b, x) (by simp)
          simp at this ⊢; omega
        · obtain rfl := List.mem_singleton.1 hp
          simp; omega
      · have := (hf p hp).1
        omega
theorem Kids.done (h : Kids Q kk ks r A []) : r = .nil := by
  obtain ⟨_, h1, h2, _⟩ := h
  cases r with
  | nil => rfl
  | kid => obtain ⟨x, l', e, _⟩ := h1; cases e
  | node => exact h2.elim
theorem Kids.nilK (h : Kids Q kk ks r A lr) : hdK lr = .pointer none ↔ lr = [] := by
  constructor
  · intro e
    by_cases hl : lr = []
    · exact hl
    · obtain ⟨b, t, r', x, lr', _, _, _, hx, _, ⟨k, rfl⟩, _⟩ := h.next hl
      rw [hx] at e; cases e
  · rintro rfl; rfl
end
end Go.Proofs.YtfhdiimcimafkaaGreatDoor
/- The way to a node: bytes that are put behind one another, in a row that is shared. -/
namespace Go.Proofs.YtfhdiimcimafkaaGreatDoor
open Go.RowKit
theorem bV_app' (a b : List Nat) : bV (a ++ b) = bV a ++ bV b := by simp [bV]
/-- a way: its bytes, its row, and how many the row holds -/
def WayAt (w : World) (v : Value) (k : List Nat) (bo : Option Nat) (cap : Nat) : Prop :=
  (v = .slice none 0 0 ∧ k = [] ∧ bo = none ∧ cap = 0) ∨
  (∃ g cur, bo = some g ∧ v = .slice (some ⟨g, 0, none⟩) k.length cap ∧ w.heap[g]? = some (.cells cur u8T (0, 0)) ∧ k.length ≤ cap ∧ cap ≤ maxLen ∧ cur.size = cap ∧ cur.toList.take k.length = bV k)
section
variable {w w' : World} {v v' : Value} {k k' : List Nat} {bo bo' : Option Nat} {cap cap' : Nat}
theorem WayAt.nil (w : World) : WayAt w (.slice none 0 0) [] none 0 := Or.inl ⟨rfl, rfl, rfl, rfl⟩
theorem WayAt.own (h : WayAt w v k bo cap) : OwnS 1 u8T w v k.length (bV k) bo := by
  rcases h with ⟨rfl, rfl, rfl, rfl⟩ | ⟨g, cur, rfl, rfl, h1, h2, h3, h4, h5⟩
  · exact OwnS.nil _ _ _
  · exact Or.inr ⟨g, cap, cur, rfl, rfl, h1, h2, h3, by omega, by rw [Nat.mul_one]; exact h5, by simp [bV]⟩
theorem WayAt.len (h : WayAt w v k bo cap) : ∃ a, v = .slice a k.length cap := by
  rcases h with ⟨rfl, rfl, rfl, rfl⟩ | ⟨g, cur, rfl, rfl, _⟩
  · exact ⟨_, rfl⟩
  · exact ⟨_, rfl⟩
theorem WayAt.lt (h : WayAt w v k bo cap) {g : Nat} (e : bo = some g) : g < w.heap.size := by
  rcases h with ⟨_, _, rfl, _⟩ | ⟨g', cur, rfl, _, h1, _⟩
  · cases e
  · cases e; exact (Array.getElem?_eq_some_iff.1 h1).1
theorem WayAt.keep (h : WayAt w v k bo cap) (hk : ∀ g, bo = some g → w'.heap[g]? = w.heap[g]?) : WayAt w' v k bo cap := by
  rcases h with h | ⟨g, cur, rfl, hv, h1, r⟩
  · exact Or.inl h
  · exact Or.inr ⟨g, cur, rfl, hv, (hk g rfl).trans h1, r⟩
theorem WayAt.below (h : WayAt w v k bo cap) (hb : Below w.heap.size w w') : WayAt w' v k bo cap := h.keep fun g e => hb.block g (h.lt e)
theorem WayAt.mod {S : Nat → Prop} (h : WayAt w v k bo cap) (hm : Mod S w w') (hS : ∀ g, bo = some g → ¬ S g) : WayAt w' v k bo cap := h.keep fun g e => hm.same g (h.lt e) (hS g e)
theorem WayAt.sl (h : WayAt w v k bo cap) (h8 : ∀ x ∈ k, x < 256) : ∃ a, v = .slice a k.length cap ∧ Sl w a k.length cap k := by
  obtain ⟨a, c, e, hs⟩ := sl_of_own h.own h8
  obtain ⟨a', e'⟩ := h.len
  rw [e'] at e
  injection e with e1 e2 e3
  subst e1; subst e3
  exact ⟨_, e', hs⟩
/-- how a longer way stands to the one that it goes on from -/
def Goes (w : World) (bo bo' : Option Nat) (cap cap' : Nat) : Prop := (bo' = bo ∧ cap' = cap ∧ bo ≠ none) ∨ bo' = none ∨ ∃ g, bo' = some g ∧ w.heap.size ≤ g
/-- the shorter way is still there while the longer one is, and what is no row of the longer one stays -/
theorem WayAt.back {x : List Nat} {v2 : Value} {bo2 : Option Nat} {cap2 : Nat} {w2 : World} {F : Nat → Prop} (h : WayAt w v k bo cap) (hg : Goes w bo bo2 cap cap2) (h2 : WayAt w2 v2 (k ++ x) bo2 cap2) (hm : Mod (fun j => bo2 = some j ∨ F j) w w2) (hF : ∀ g, bo = some g → ¬ F g) : WayAt w2 v k bo cap := by
  rcases hg with ⟨rfl, rfl, hne⟩ | hn
  · rcases h with ⟨_, _, e, _⟩ | ⟨g, cur, rfl, hv, h1, h3, h4, h5, h6⟩
    · exact absurd e hne
    · rcases h2 with ⟨_, _, e, _⟩ | ⟨g', cur', e, _, q1, q2, q3, q4, q5⟩
      · cases e
      · cases e
        refine Or.inr ⟨g, cur', rfl, hv, q1, h3, h4, q4, ?_⟩
        have := congrArg (List.take k.length) q5
        rw [List.take_take, List.length_append, Nat.min_eq_left (by omega)] at this
        rw [this]
        simp [bV]
  · refine h.mod hm fun g e q => ?_
    have hl := h.lt e
    rcases q with q | q
    · rcases hn with hn | ⟨g', hn, hg'⟩
      · rw [hn] at q; cases q
      · rw [hn] at q; cases q; omega
    · exact hF g e q
end
/-- append to a way -/
theorem run_append_way {P : Program} (w : World) (t ty : TypeId) (i : TypeInfo) (ht : P.underlying t = some (.slice u8T)) (hi : P.info? u8T = some i) (hz : i.zero = some (.int .u8 0)) (hsize : i.size = 1) (hby : i.bytes = 1)
    {v : Value} {k : List Nat} {bo : Option Nat} {cap : Nat} (h : WayAt w v k bo cap) (a : Addr) (c : Nat) (news : List Nat) (hnews : ∀ j u, (bV news)[j]? = some u → w.cell? (a.add j) = some u) (hk : k.length ≤ 1000000) (hn : news.length ≤ 1000000) :
    ∃ v' w' bo' cap', (Builtin.append_ #[t, t] ty #[v, .slice (some a) news.length c]).run P w = .ok v' w' ∧ WayAt w' v' (k ++ news) bo' cap' ∧ Goes w bo bo' cap cap' ∧ Mod (fun j => bo = some j) w w' ∧ WayAt w' v k bo cap := by
  have hl : (bV news).length = news.length := by simp [bV]
  have hone := bV_one news
  have fresh : ∀ v' w', w'.ownsRow w.heap.size u8T 1 v' (k.length + news.length) (bV k ++ bV news) → ∃ bo' cap', WayAt w' v' (k ++ news) bo' cap' ∧ (bo' = none ∨ ∃ g, bo' = some g ∧ w.heap.size ≤ g) := by
    intro v' w' ho
    have hlen : (bV k ++ bV news).length = k.length + news.length := by simp [bV]
    rcases ho.2 with ⟨rfl, h0⟩ | ⟨g, cap', cur, rfl, hb, hg, h2, h3, h4, h5⟩
    · have hk0 : k = [] := List.eq_nil_of_length_eq_zero (by omega)
      have hn0 : news = [] := List.eq_nil_of_length_eq_zero (by omega)
      subst hk0; subst hn0
      exact ⟨none, 0, Or.inl ⟨rfl, rfl, rfl, rfl⟩, Or.inl rfl⟩
    · refine ⟨some g, cap', Or.inr ⟨g, cur, rfl, by rw [List.length_append], hg, by rw [List.length_append]; exact h2, h3, by omega, ?_⟩, Or.inr ⟨g, rfl, hb⟩⟩
      rw [List.length_append, bV_app', ← h5, Nat.mul_one]
  rcases h with ⟨rfl, rfl, rfl, rfl⟩ | ⟨g, cur, rfl, rfl, hg, hnc, hcm, hcs, htake⟩
  · obtain ⟨v', w', hr, h2, h3, _⟩ := run_append_own (P := P) w w.heap.size t ty u8T i (.int .u8 0) 1 1 ht hi hz hsize hby rfl (by omega) (.slice none 0 0) 0 [] (World.ownsRow_nil w _ u8T 1) a news.length c (bV news) (by rw [hl]; omega) hnews hone (by unfold maxLen; omega) (by omega) (Nat.le_refl _)
    obtain ⟨bo', cap', q1, q2⟩ := fresh v' w' (by simpa [bV] using h2)
    exact ⟨v', w', bo', cap', hr, q1, Or.inr q2, ⟨h3.os, h3.tape, h3.output, h3.size, fun k hk _ => h3.block k hk (by simp [Value.ownBlock])⟩, WayAt.nil _⟩
  · by_cases hroom : k.length + news.length ≤ cap
    · have hr := run_append_room (P := P) w t ty u8T i ht hi g k.length cap cur hg a news.length c (bV news) (by rw [hsize, hl]; omega) hnews hone hroom (by rw [hsize]; omega)
      obtain ⟨cur', hcur⟩ : ∃ cur' : Array Value, cur' = (cur.toList.take (k.length * i.size) ++ bV news ++ cur.toList.drop (k.length * i.size + (bV news).length)).toArray := ⟨_, rfl⟩
      rw [← hcur] at hr
      rw [hsize, Nat.mul_one] at hcur
      have hcl : cur.toList.length = cap := by simpa using hcs
      have hsz : cur'.size = cap := by rw [hcur]; simp [hl]; omega
      have hg' : (w.setRow g cur').heap[g]? = some (.cells cur' u8T (0, 0)) := setRow_heap w g cur cur' u8T (0, 0) hg
      have hM : Mod (fun j => some g = some j) w (w.setRow g cur') := (Mod.refl _ w).setRow g _ (fun _ => rfl)
      refine ⟨_, _, some g, cap, hr, Or.inr ⟨g, cur', rfl, by rw [List.length_append], hg', by rw [List.length_append]; exact hroom, hcm, hsz, ?_⟩, Or.inl ⟨rfl, rfl, by simp⟩, hM, Or.inr ⟨g, cur', rfl, rfl, hg', hnc, hcm, hsz, ?_⟩⟩
      · rw [hcur, List.length_append, bV_app']
        simp only [List.toList_toArray]
        rw [htake]
        have e : (bV k ++ bV news).length = k.length + news.length := by simp [bV]
        rw [← e]
        exact List.take_left
      · rw [hcur]
        simp only [List.toList_toArray, List.append_assoc]
        rw [htake]
        have e : (bV k).length = k.length := by simp [bV]
        conv => lhs; rw [← e]
        exact List.take_left
    · have holds : ∀ j u, (bV k)[j]? = some u → w.cell? ((⟨g, 0, none⟩ : Addr).add j) = some u := by
        intro j u hj
        have hjl : j < k.length := by
          by_cases h : j < k.length
          · exact h
          · rw [List.getElem?_eq_none (by simp [bV]; omega)] at hj; simp at hj
        rw [add0, cell_of_row w g j cur _ (0, 0) hg, ← hj, ← take_get htake hjl]
        simp
      obtain ⟨v', w', hr, h2, h3⟩ := run_append_arg_grows (P := P) w t ty u8T i (.int .u8 0) 1 1 ht hi hz hsize hby rfl (by omega) ⟨g, 0, none⟩ k.length cap (bV k) (by simp [bV]) holds a news.length c (bV news) (by rw [hl]; omega) hnews (by omega) (by unfold maxLen; omega) (by omega)
      obtain ⟨bo', cap', q1, q2⟩ := fresh v' w' h2
      have hB : Below w.heap.size w w' := ⟨h3.os, h3.tape, h3.output, h3.size, fun k hk => h3.block k hk (by simp)⟩
      exact ⟨v', w', bo', cap', hr, q1, Or.inr q2, ⟨h3.os, h3.tape, h3.output, h3.size, fun k hk _ => h3.block k hk (by simp)⟩, (show WayAt w (.slice (some ⟨g, 0, none⟩) k.length cap) k (some g) cap from Or.inr ⟨g, cur, rfl, rfl, hg, hnc, hcm, hcs, htake⟩).below hB⟩
end Go.Proofs.YtfhdiimcimafkaaGreatDoor
/- What a tree's node answers in every later world; its head. -/
namespace Go.Proofs.YtfhdiimcimafkaaGreatDoor
open Go.RowKit
structure NodeW (w : World) (n : Nat) (bs : List Nat) (val : Int) (has leaf : Bool) (m : Nat) (kk : KV) : Prop where
  part : ∀ X, Below w.heap.size w X → Calls Tryz.prog 63 #[.pointer (some ⟨n, 0, none⟩)] X (partAt bs X)
  val : ∀ X, Below w.heap.size w X → Calls Tryz.prog 37 #[.pointer (some ⟨n, 0, none⟩)] X fun e w' => e = .returned (.tuple #[.int .u64 val, .bool has]) ∧ X = w'
  kind : ∀ X, Below w.heap.size w X → Calls Tryz.prog 36 #[.pointer (some ⟨n, 0, none⟩)] X fun e w' => e = .returned (.int .i64 ((if leaf then 1 else kindOf m : Nat) : Int)) ∧ X = w'
  len : ∀ X, Below w.heap.size w X → Calls Tryz.prog 72 #[.pointer (some ⟨n, 0, none⟩)] X fun e w' => e = .returned (.int .i64 (m : Nat)) ∧ X = w'
  occ : ∀ X, Below w.heap.size w X → Calls Tryz.prog 45 #[.pointer (some ⟨n, 0, none⟩)] X fun e w' => e = .returned (.int .i64 ((if has then m + 1 else m : Nat) : Int)) ∧ X = w'
  next : ∀ X f, Below w.heap.size w X → (0 : Int) ≤ f → f ≤ 256 → Calls Tryz.prog 47 #[.pointer (some ⟨n, 0, none⟩), .int .i64 f] X fun e w' => e = .returned (stepV (knxt kk f)) ∧ Below X.heap.size X w'
theorem NodeW.below {w w' : World} {n : Nat} {bs : List Nat} {val : Int} {has leaf : Bool} {m : Nat} {kk : KV} (h : NodeW w n bs val has leaf m kk) (hb : Below w.heap.size w w') : NodeW w' n bs val has leaf m kk where
  part := fun X q => h.part X (hb.trans (q.mono hb.size))
  val := fun X q => h.val X (hb.trans (q.mono hb.size))
  kind := fun X q => h.kind X (hb.trans (q.mono hb.size))
  len := fun X q => h.len X (hb.trans (q.mono hb.size))
  occ := fun X q => h.occ X (hb.trans (q.mono hb.size))
  next := fun X f q => h.next X f (hb.trans (q.mono hb.size))
theorem nodew_of {w0 w : World} {Q : List NP} {bs : List Nat} {val : Int} {has leaf : Bool} {ks : Tr} {v : Option Addr} (hQ : StoreP NoB w0 w Q) (hT : TreeIn Q 0 (.node bs val has leaf ks) (.pointer v) []) (hO : TOk (.node bs val has leaf ks)) :
    ∃ n kk, v = some ⟨n, 0, none⟩ ∧ NodeW w n bs val has leaf (chain ks).length kk ∧ Kids Q kk ks ks [] kk ∧ knxt kk 0 = kk.head? ∧ (leaf = true → kk = []) := by
  obtain ⟨i, p, _, h1, h2, h3, h4, h5, h6, h7⟩ := hT
  obtain rfl : v = some ⟨p.n, 0, none⟩ := by simpa using h2
  obtain ⟨o1, o2, o3, o4, o5, o6, o7⟩ := hO
  have hlen : (p.kk.getD []).length = (chain ks).length := by
    have e := ofL_chain ks o6 o7
    have := TreeIn.keys (L := chain ks) (by rw [e]; exact h7)
    have := congrArg List.length this
    simpa using this
  obtain ⟨k1, k2⟩ := kids_start h7 rfl o6 o7
  have hleaf : leaf = true → p.kk.getD [] = [] := fun e => by
    subst e
    cases hk : p.kk with
    | none => rfl
    | some l => rw [hk] at h6; cases h6
  have hf := hQ.fit h1
  refine ⟨p.n, p.kk.getD [], rfl, {
    part := fun X hb => by
      obtain ⟨pv, bo, kp, Sk, hd⟩ := (hQ.below hb).is h1
      have := nd_part_at hd hf.1 hf.2; rw [h3] at this; exact this
    val := fun X hb => by
      obtain ⟨pv, bo, kp, Sk, hd⟩ := (hQ.below hb).is h1
      have := nd_val hd; rw [h4, h5] at this
      cases has
      · rw [o4 rfl]; exact this
      · exact this
    kind := fun X hb => by
      obtain ⟨pv, bo, kp, Sk, hd⟩ := (hQ.below hb).is h1
      have := nd_kind hd
      cases hk : p.kk with
      | none => rw [hk] at this h6; subst h6; exact this
      | some l => rw [hk] at this h6 hlen; subst h6; rw [← hlen]; exact this
    len := fun X hb => by
      obtain ⟨pv, bo, kp, Sk, hd⟩ := (hQ.below hb).is h1
      have := nd_len hd; unfold klen at this; rw [hlen] at this; exact this
    occ := fun X hb => by
      obtain ⟨pv, bo, kp, Sk, hd⟩ := (hQ.below hb).is h1
      have := nd_occ hd; unfold klen at this; rw [hlen, h5] at this
      cases has
      · exact this
      · exact this
    next := fun X f hb f0 f1 => by
      obtain ⟨pv, bo, kp, Sk, hd⟩ := (hQ.below hb).is h1
      exact (nd_next hd f (by omega) (by omega)).mono fun e w' ⟨e1, n, e2⟩ => ⟨e1, by rw [e2]; exact below_drewN (Below.refl _ _) n⟩
    }, k1, k2, hleaf⟩
theorem kids_rest {Q : List NP} {kk : KV} {ks r : Tr} {A lr : KV} {b : Nat} {x : Value} (hnext : Kids Q kk ks r (A ++ [(b, x)]) lr) : ∀ p ∈ lr, b < p.1 ∧ p.1 < 256 := fun q hq => by
  have h1 := hnext.lt (b, x) (by simp) q hq
  refine ⟨h1, ?_⟩
  have := row_from (b := 0) hnext.tree hnext.isK hnext.ok
  cases hr : r with
  | nil => have e : lr = [] := by have := hnext.tree; rw [hr] at this; exact this
           rw [e] at hq; simp at hq
  | node => have := hnext.isK; rw [hr] at this; exact this.elim
  | kid c t2 r2 =>
    by_cases hc : 0 < c
    · exact (this (by rw [hr]; exact hc) q hq).2
    · have ht := hnext.tree
      have ho := hnext.ok
      rw [hr] at ht ho
      obtain ⟨x2, l2, e2, _, h3⟩ := ht
      rw [e2] at hq
      rcases List.mem_cons.1 hq with rfl | hq
      · exact ho.1
      · exact (row_from h3 ho.2.2.2.1 ho.2.2.2.2.1 ho.2.2.2.2.2 q hq).2
theorem kindOf_cases (m : Nat) : kindOf m = 4 ∨ kindOf m = 16 ∨ kindOf m = 48 ∨ kindOf m = 256 := by
  unfold kindOf
  split
  · simp
  · split
    · simp
    · split <;> simp
theorem headN_kind (has : Bool) (m : Nat) : headN has false m = (if has then 16 else 0) + (if kindOf m = 4 then 1 else if kindOf m = 16 then 2 else if kindOf m = 48 then 3 else 4) := by
  unfold headN kindOf
  by_cases h1 : m ≤ 4
  · simp [h1]
  · by_cases h2 : m ≤ 16
    · simp [h1, h2]
    · by_cases h3 : m ≤ 48
      · simp [h1, h2, h3]
      · simp [h1, h2, h3]
end Go.Proofs.YtfhdiimcimafkaaGreatDoor
/- canon.each: what a callback holds, while a tree is gone through. -/
namespace Go.Proofs.YtfhdiimcimafkaaGreatDoor
open Go.RowKit
/-- how long a way down may be -/
def tway : Tr → Nat
  | .nil => 0
  | .kid _ t r => max (1 + tway t) (tway r)
  | .node bs _ _ _ ks => bs.length + tway ks
theorem tway_lay : ∀ t : Tr, TOk t → tway t ≤ (layT t).length
  | .nil, _ => Nat.le_refl _
  | .kid b t r, ⟨h1, h2, h3, h4, h5, h6⟩ => by
    have h1 := tway_lay t h3
    have h2 := tway_lay r h5
    simp only [tway, layT, List.length_cons, List.length_append]
    omega
  | .node bs v has leaf ks, ⟨h1, h2, h3, h4, h5, h6, h7⟩ => by
    have q := tway_lay ks h7
    simp only [tway, layT, List.length_cons, List.length_append]
    cases leaf with
    | true =>
      rw [(h5 rfl).2]
      simp only [tway]
      omega
    | false =>
      simp only [Bool.false_eq_true, if_false, List.length_cons]
      omega
/-- what a callback holds: blocks F, and what it was told -/
structure CbT {α : Type} (S : (Nat → Prop) → List α → World → Prop) (lo : Nat) : Prop where
  keep : ∀ F L w w', S F L w → (∀ j, F j → w'.heap[j]? = w.heap[j]?) → S F L w'
  low : ∀ F L w, S F L w → ∀ j, F j → lo ≤ j
  high : ∀ F L w, S F L w → ∀ j, F j → j < w.heap.size
/-- what is written, and what is held behind it -/
def Ext (bo : Option Nat) (F : Nat → Prop) (X X' : World) (F' : Nat → Prop) : Prop := Mod (fun j => bo = some j ∨ F j) X X' ∧ ∀ j, F' j → F j ∨ X.heap.size ≤ j
theorem Ext.trans {bo : Option Nat} {F F' F'' : Nat → Prop} {X X' X'' : World} (h : Ext bo F X X' F') (k : Ext bo F' X' X'' F'') : Ext bo F X X'' F'' := by
  refine ⟨h.1.then k.1 fun i hi q => ?_, fun j hj => ?_⟩
  · rcases q with q | q
    · exact Or.inl q
    · rcases h.2 i q with q | q
      · exact Or.inr q
      · omega
  · rcases k.2 j hj with q | q
    · exact h.2 j q
    · exact Or.inr (Nat.le_trans h.1.size q)
theorem Ext.of_below {bo : Option Nat} {F : Nat → Prop} {X X' : World} (h : Below X.heap.size X X') : Ext bo F X X' F := ⟨Mod.of_below h, fun j hj => Or.inl hj⟩
/-- a walk under way: the way, what the callback holds, and two boxes that nobody writes -/
structure EaS {α : Type} (S : (Nat → Prop) → List α → World → Prop) (w : World) (bf bd : Nat) (cf cd : Value) (v : Value) (k : List Nat) (bo : Option Nat) (cap : Nat) (F : Nat → Prop) (L : List α) (X : World) : Prop where
  since : Below w.heap.size w X
  way : WayAt X v k bo cap
  wlo : ∀ g, bo = some g → w.heap.size ≤ g
  st : S F L X
  ne : ∀ g, bo = some g → ¬ F g
  xf : X.cell? ⟨bf, 0, none⟩ = some cf
  xd : X.cell? ⟨bd, 0, none⟩ = some cd
  nf : ¬ F bf ∧ bo ≠ some bf
  nd : ¬ F bd ∧ bo ≠ some bd
section
variable {α : Type} {S : (Nat → Prop) → List α → World → Prop} {w X X' X2 X4 X5 : World} {bf bd : Nat} {cf cd v v2 : Value} {k x : List Nat} {bo bo2 : Option Nat} {cap cap2 : Nat} {F F2 : Nat → Prop} {L L2 : List α}
theorem cell_same {p : Addr} {c : Value} (h : X.cell? p = some c) (e : X'.heap[p.block]? = X.heap[p.block]?) : X'.cell? p = some c := by
  rw [← h]; unfold World.cell?; rw [e]
theorem EaS.below (hS : CbT S w.heap.size) (h : EaS S w bf bd cf cd v k bo cap F L X) (hb : Below X.heap.size X X') : EaS S w bf bd cf cd v k bo cap F L X' where
  since := h.since.trans (hb.mono h.since.size)
  way := h.way.below hb
  wlo := h.wlo
  st := hS.keep F L X X' h.st fun j hj => hb.block j (hS.high F L X h.st j hj)
  ne := h.ne
  xf := (hb.cell (cell_lt h.xf)).trans h.xf
  xd := (hb.cell (cell_lt h.xd)).trans h.xd
  nf := h.nf
  nd := h.nd
/-- the way goes on -/
theorem EaS.app (hS : CbT S w.heap.size) (h : EaS S w bf bd cf cd v k bo cap F L X) (hw : WayAt X' v2 (k ++ x) bo2 cap2) (hg : Goes X bo bo2 cap cap2) (hm : Mod (fun j => bo = some j) X X') : EaS S w bf bd cf cd v2 (k ++ x) bo2 cap2 F L X' ∧ Ext bo F X X' F := by
  have hlt : ∀ j, bo2 = some j → bo = some j ∨ X.heap.size ≤ j := fun j e => by
    rcases hg with ⟨q, _⟩ | q | ⟨g, q, hg⟩
    · rw [q] at e; exact Or.inl e
    · rw [q] at e; cases e
    · rw [q] at e; cases e; exact Or.inr hg
  have hF : ∀ j, F j → X'.heap[j]? = X.heap[j]? := fun j hj => hm.same j (hS.high F L X h.st j hj) fun e => h.ne j e hj
  have hnew : ∀ b, b < X.heap.size → bo ≠ some b → bo2 ≠ some b := fun b hb hn e => by
    rcases hlt b e with q | q
    · exact hn q
    · omega
  refine ⟨⟨h.since.trans (mod_lo hm h.wlo h.since.size), hw, fun g e => ?_, hS.keep F L X X' h.st hF, fun g e q => ?_, cell_same h.xf (hm.same bf (cell_lt h.xf) h.nf.2), cell_same h.xd (hm.same bd (cell_lt h.xd) h.nd.2), ⟨h.nf.1, hnew bf (cell_lt h.xf) h.nf.2⟩, ⟨h.nd.1, hnew bd (cell_lt h.xd) h.nd.2⟩⟩, hm.mono (fun j _ e => Or.inl e), fun j hj => Or.inl hj⟩
  · rcases hlt g e with q | q
    · exact h.wlo g q
    · exact Nat.le_trans h.since.size q
  · rcases hlt g e with r | r
    · exact h.ne g r q
    · have := hS.high F L X h.st g q; omega
/-- the callback was called -/
theorem EaS.told (hS : CbT S w.heap.size) (h : EaS S w bf bd cf cd v k bo cap F L X) (hs : S F2 L2 X') (hm : Mod F X X') (hf : ∀ j, F2 j → F j ∨ X.heap.size ≤ j) : EaS S w bf bd cf cd v k bo cap F2 L2 X' ∧ Ext bo F X X' F2 := by
  have hno : ∀ b, b < X.heap.size → ¬ F b → ¬ F2 b := fun b hb hn q => by
    rcases hf b q with r | r
    · exact hn r
    · omega
  refine ⟨⟨h.since.trans (hm.belowLo (hS.low F L X h.st) h.since.size), h.way.mod hm fun g e q => h.ne g e q, h.wlo, hs, fun g e => hno g (h.way.lt e) (h.ne g e), cell_same h.xf (hm.same bf (cell_lt h.xf) h.nf.1), cell_same h.xd (hm.same bd (cell_lt h.xd) h.nd.1), ⟨hno bf (cell_lt h.xf) h.nf.1, h.nf.2⟩, ⟨hno bd (cell_lt h.xd) h.nd.1, h.nd.2⟩⟩, hm.mono (fun j _ e => Or.inr e), hf⟩
/-- back from further down -/
theorem EaS.back (hS : CbT S w.heap.size) (h : EaS S w bf bd cf cd v k bo cap F L X) (hg : Goes X bo bo2 cap cap2) (hm : Mod (fun j => bo = some j) X X4) (hk : WayAt X4 v k bo cap) (q : EaS S w bf bd cf cd v2 (k ++ x) bo2 cap2 F2 L2 X5) (he : Ext bo2 F X4 X5 F2) : EaS S w bf bd cf cd v k bo cap F2 L2 X5 ∧ Ext bo F X X5 F2 := by
  have hlt : ∀ j, bo2 = some j → bo = some j ∨ X.heap.size ≤ j := fun j e => by
    rcases hg with ⟨q, _⟩ | q | ⟨g, q, hg⟩
    · rw [q] at e; exact Or.inl e
    · rw [q] at e; cases e
    · rw [q] at e; cases e; exact Or.inr hg
  have hE : Ext bo F X X5 F2 := by
    refine ⟨(hm.mono fun j _ e => Or.inl e : Mod (fun j => bo = some j ∨ F j) X X4).then he.1 fun i hi e => ?_, fun j hj => ?_⟩
    · rcases e with e | e
      · rcases hlt i e with r | r
        · exact Or.inl r
        · omega
      · exact Or.inr e
    · rcases he.2 j hj with r | r
      · exact Or.inl r
      · exact Or.inr (Nat.le_trans hm.size r)
  have hno : ∀ b, b < X.heap.size → ¬ F b → ¬ F2 b := fun b hb hn q => by
    rcases hE.2 b q with r | r
    · exact hn r
    · omega
  refine ⟨⟨q.since, ?_, h.wlo, q.st, fun g e => hno g (h.way.lt e) (h.ne g e), q.xf, q.xd, ⟨q.nf.1, h.nf.2⟩, ⟨q.nd.1, h.nd.2⟩⟩, hE⟩
  rcases hg with ⟨e1, e2, e3⟩ | e1
  · subst e1; subst e2
    exact hk.back (Or.inl ⟨rfl, rfl, e3⟩) q.way he.1 h.ne
  · refine hk.mod he.1 fun g e r => ?_
    have hl := h.way.lt e
    rcases r with r | r
    · rcases e1 with e1 | ⟨g', e1, hg'⟩
      · rw [e1] at r; cases r
      · rw [e1] at r; cases r; omega
    · exact h.ne g e r
end
/-- what a callback does, at a node -/
def CbTree (S : (Nat → Prop) → PL → World → Prop) (w : World) (fn : FuncId) (m : Nat) : Prop :=
  ∀ F L X (n : Nat) bs (val : Int) has leaf mm kk (a : Option Addr) (nn c : Nat) key, S F L X → NodeW X n bs val has leaf mm kk → Sl X a nn c key → nn ≤ 900000 → 0 ≤ val → val < 18446744073709551616 → Below w.heap.size w X → L.length ≤ 2000 →
    Calls Tryz.prog fn #[.slice a nn c, .pointer (some ⟨n, 0, none⟩), .pointer (some ⟨m, 0, none⟩)] X fun e X' => e = .returned (.tuple #[]) ∧ ∃ F', S F' (L ++ if has then [(key, val)] else []) X' ∧ Mod F X X' ∧ ∀ j, F' j → F j ∨ X.heap.size ≤ j
/-- a way that goes on, in a list of operations -/
theorem wpList_append_way {w : World} {ops : Array Oper} {rest : List Oper} {o : Oper} {a : Act} {Q : Exit → Act → World → Prop} (hgd : o.guard = none) (s x : Operand)
    (ho : o.op = .call { callee := .builtin .append, args := #[s, x], argTypes := #[38, 38] })
    {v : Value} {k : List Nat} {bo : Option Nat} {cap : Nat} (hs : a.eval s = v) (h : WayAt w v k bo cap) (ad : Addr) (m c : Nat) (news : List Nat) (hm : news.length = m) (hx : a.eval x = .slice (some ad) m c) (hnews : ∀ j u, (bV news)[j]? = some u → w.cell? (ad.add j) = some u) (hk : k.length ≤ 1000000) (hn : news.length ≤ 1000000)
    (K : ∀ v' w' bo' cap', Hid (WayAt w' v' (k ++ news) bo' cap') → Hid (Goes w bo bo' cap cap') → Hid (Mod (fun j => bo = some j) w w') → Hid (WayAt w' v k bo cap) → wpList Tryz.prog ops Q rest (a.put o.dst v') w') : wpList Tryz.prog ops Q (o :: rest) a w := by
  subst hm
  obtain ⟨i, hi, hz, hsize, hby⟩ := info_parts cloneB_info
  refine wpList_plain hgd fun K2 hK => ?_
  obtain ⟨v', w', bo', cap', hr, h2, h3, h4, h5⟩ := run_append_way (P := Tryz.prog) w 38 o.type i Tryz.underlying38 hi hz hsize hby h ad c news hnews hk hn
  unfold Oper.wp execOp
  simp only [ho, resolve, invoke, builtin, Sem.run_bind, Sem.run_pure, Result.andThen_ok, List.map_toArray, List.map_cons, List.map_nil, hs, hx, hr]
  exact hK _ _ (K v' w' bo' cap' h2 h3 h4 h5)
theorem step_append_way {w : World} {ops : Array Oper} {o : Oper} {a : Act} {K : Act → World → Prop} {Q : Exit → Act → World → Prop} {E : Prop} (hgd : o.guard = none) (s x : Operand)
    (ho : o.op = .call { callee := .builtin .append, args := #[s, x], argTypes := #[38, 38] })
    {v : Value} {k : List Nat} {bo : Option Nat} {cap : Nat} (hs : a.eval s = v) (h : WayAt w v k bo cap) (ad : Addr) (m c : Nat) (news : List Nat) (hm : news.length = m) (hx : a.eval x = .slice (some ad) m c) (hnews : ∀ j u, (bV news)[j]? = some u → w.cell? (ad.add j) = some u) (hk : k.length ≤ 1000000) (hn : news.length ≤ 1000000)
    (h' : ∀ v' w' bo' cap', Hid (WayAt w' v' (k ++ news) bo' cap') → Hid (Goes w bo bo' cap cap') → Hid (Mod (fun j => bo = some j) w w') → Hid (WayAt w' v k bo cap) → K (a.put o.dst v') w') :
    if Region.wanted o (yielded ops a.tmps) = true then Oper.wp Tryz.prog o a w K Q else E := by
  subst hm
  have hw : Region.wanted o (yielded ops a.tmps) = true := by simp [Region.wanted, hgd]
  rw [if_pos hw]
  obtain ⟨i, hi, hz, hsize, hby⟩ := info_parts cloneB_info
  obtain ⟨v', w', bo', cap', hr, h2, h3, h4, h5⟩ := run_append_way (P := Tryz.prog) w 38 o.type i Tryz.underlying38 hi hz hsize hby h ad c news hnews hk hn
  unfold Oper.wp execOp
  simp only [ho, resolve, invoke, builtin, Sem.run_bind, Sem.run_pure, Result.andThen_ok, List.map_toArray, List.map_cons, List.map_nil, hs, hx, hr]
  exact h' v' w' bo' cap' h2 h3 h4 h5
end Go.Proofs.YtfhdiimcimafkaaGreatDoor
