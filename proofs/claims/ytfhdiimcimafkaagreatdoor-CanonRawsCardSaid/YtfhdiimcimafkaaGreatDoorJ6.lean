/- Nodes told node by node, in memory. No program; law13.raws: nodes that are told; law13.raws: the walk; law13.raws: the walk; law CanonFine: the walk; law CanonFine: the walk; Rows of canon's laws: told nodes that come in; The document's Sorted and Check; the law's same; The document's Fine of a tree; The document's depth of a tree (XQDep's text, for seats without the chapters 30 and 32); How many nodes the document's tree has, as the document tells; The document's Digits; The document's Text; The document's Shape of a tree; The document's Shape of an inner node; The document's list of a tree: what it leaves; appends of pairs; The document's list and List of a tree, walked whole. -/
import Derived.Test.YtfhdiimcimafkaaGreatDoorJ5
import Derived.Test.YtfhdiimcimafkaaGreatDoorJ2
import Derived.Deep.RegionHeld3
import Derived.Deep.Cut
import Derived.Deep.SlicePairs
import Derived.Test.YtfhdiimcimafkaaGreatDoorJ3
import Derived.Test.YtfhdiimcimafkaaGreatDoorJ4
set_option linter.unusedVariables false
set_option linter.unusedSimpArgs false
/- Nodes told node by node, in memory. No program. -/
namespace Go.Proofs.YtfhdiimcimafkaaGreatDoor
open Go.RowKit
abbrev ptv (N : List Nat) (c : Nat) : Value := .pointer (some ⟨N.getD c 0, 0, none⟩)
def gkk (N : List Nat) (g : GN) : Option KV := if g.leaf then none else some (g.kids.map fun x => (x.1, ptv N x.2))
/-- told nodes stand among P, at the places I, in the blocks N -/
structure RawS (P : List NP) (I N : List Nat) (G : List GN) : Prop where
  lenI : I.length = G.length
  lenN : N.length = G.length
  nd : I.Nodup
  lt : ∀ x ∈ I, x < P.length
  at_ : ∀ (j : Nat) (g : GN), G[j]? = some g → P[I.getD j 0]? = some ⟨N.getD j 0, 1, g.bs, g.val, g.has, gkk N g⟩
theorem raws_nil : RawS [] [] [] [] := ⟨rfl, rfl, List.nodup_nil, by simp, by simp⟩
theorem raws_more {P : List NP} {I N : List Nat} {G : List GN} (h : RawS P I N G) (Q : List NP) : RawS (P ++ Q) I N G :=
  ⟨h.lenI, h.lenN, h.nd, fun x hx => by have := h.lt x hx; rw [List.length_append]; omega, fun j g hg => by
    have q := h.at_ j g hg
    rw [List.getElem?_append_left (List.getElem?_eq_some_iff.1 q).1]; exact q⟩
theorem getD_app {l : List Nat} {j : Nat} (h : j < l.length) (x : Nat) : (l ++ [x]).getD j 0 = l.getD j 0 := by
  simp [List.getD, List.getElem?_append_left h]
theorem getD_end (l : List Nat) (x : Nat) : (l ++ [x]).getD l.length 0 = x := by simp [List.getD]
theorem raws_snoc {P : List NP} {I N : List Nat} {G : List GN} {par : Nat → Nat} (h : RawS P I N G) (hG : GsOk G par) {g : GN} (hk : g.kids = []) (k : Nat) :
    RawS (P ++ [⟨k, 1, g.bs, g.val, g.has, if g.leaf then none else some []⟩]) (I ++ [P.length]) (N ++ [k]) (G ++ [g]) := by
  refine ⟨by simp [h.lenI], by simp [h.lenN], ?_, fun x hx => ?_, fun j g' hg => ?_⟩
  · rw [List.nodup_append]
    refine ⟨h.nd, by simp, fun x hx y hy e => ?_⟩
    simp only [List.mem_cons, List.not_mem_nil, or_false] at hy
    subst e; subst hy
    exact absurd (h.lt _ hx) (Nat.lt_irrefl _)
  · rw [List.length_append]
    rcases List.mem_append.1 hx with hx | hx
    · have := h.lt x hx; omega
    · simp only [List.mem_cons, List.not_mem_nil, or_false] at hx
      subst hx; simp
  · by_cases hj : j < G.length
    · rw [List.getElem?_append_left hj] at hg
      have q := h.at_ j g' hg
      rw [getD_app (by rw [h.lenI]; exact hj), getD_app (by rw [h.lenN]; exact hj), List.getElem?_append_left (List.getElem?_eq_some_iff.1 q).1, q]
      have : gkk N g' = gkk (N ++ [k]) g' := by
        unfold gkk
        split
        · rfl
        · congr 1
          refine List.map_congr_left fun x hx => ?_
          have := (hG.ok j g' hg).low x hx
          show (x.1, ptv N x.2) = (x.1, ptv (N ++ [k]) x.2)
          unfold ptv
          rw [getD_app (by rw [h.lenN]; omega)]
      rw [this]
    · rw [List.getElem?_append_right (by omega)] at hg
      have h2 : j - G.length < 1 := by
        rcases Nat.lt_or_ge (j - G.length) 1 with q | q
        · exact q
        · rw [List.getElem?_eq_none (by simpa using q)] at hg; simp at hg
      have hj2 : j = G.length := by omega
      subst hj2
      rw [Nat.sub_self, List.getElem?_cons_zero] at hg
      obtain rfl : g = g' := by simpa using hg
      have e1 : (I ++ [P.length]).getD G.length 0 = P.length := by rw [← h.lenI]; exact getD_end _ _
      have e2 : (N ++ [k]).getD G.length 0 = k := by rw [← h.lenN]; exact getD_end _ _
      rw [e1, e2]
      simp [gkk, hk]
theorem nodup_inj {l : List Nat} (h : l.Nodup) {i j : Nat} (hi : i < l.length) (hj : j < l.length) (e : l[i] = l[j]) : i = j := by
  have h' := List.pairwise_iff_getElem.1 (List.nodup_iff_pairwise_ne.1 h)
  rcases Nat.lt_trichotomy i j with q | q | q
  · exact (h' i j hi hj q e).elim
  · exact q
  · exact (h' j i hj hi q e.symm).elim
theorem raws_kid {P : List NP} {I N : List Nat} {G : List GN} (h : RawS P I N G) {j : Nat} {g : GN} (hg : G[j]? = some g) (hl : g.leaf = false) (b c : Nat) :
    RawS (P.set (I.getD j 0) ⟨N.getD j 0, 1, g.bs, g.val, g.has, some (kins (g.kids.map fun x => (x.1, ptv N x.2)) b (ptv N c))⟩) I N (G.modify j fun g => gnKid g b c) := by
  have hj : j < G.length := (List.getElem?_eq_some_iff.1 hg).1
  have hget : ∀ (i : Nat) (hi : i < G.length), I.getD i 0 = I[i]'(by rw [h.lenI]; exact hi) := fun i hi => by
    simp [List.getD, List.getElem?_eq_getElem (show i < I.length by rw [h.lenI]; exact hi)]
  refine ⟨by simp [h.lenI], by simp [h.lenN], h.nd, fun x hx => by rw [List.length_set]; exact h.lt x hx, fun i g' hg' => ?_⟩
  rw [List.getElem?_modify, Option.map_eq_map] at hg'
  have hi : i < G.length := by
    rcases Nat.lt_or_ge i G.length with q | q
    · exact q
    · rw [List.getElem?_eq_none q] at hg'; simp at hg'
  by_cases e : j = i
  · subst e
    rw [hg, Option.map_some, if_pos rfl] at hg'
    obtain rfl : gnKid g b c = g' := by simpa using hg'
    have hP : I.getD j 0 < P.length := (List.getElem?_eq_some_iff.1 (h.at_ j g hg)).1
    rw [List.getElem?_set_self hP]
    have e1 : gkk N (gnKid g b c) = some (kins (g.kids.map fun x => (x.1, ptv N x.2)) b (ptv N c)) := by
      unfold gkk gnKid
      rw [hl]
      simp only [Bool.false_eq_true, if_false, hl]
      rw [kins_map (ptv N)]
    rw [e1]
    unfold gnKid
    rw [hl]; rfl
  · cases hgi : G[i]? with
    | none => rw [hgi] at hg'; simp at hg'
    | some g0 =>
      rw [hgi, Option.map_some, if_neg e] at hg'
      obtain rfl : g0 = g' := by simpa using hg'
      have hne : I.getD j 0 ≠ I.getD i 0 := fun q => by
        rw [hget j hj, hget i hi] at q
        exact e (nodup_inj h.nd _ _ q)
      rw [List.getElem?_set_ne hne]
      exact h.at_ i g0 hgi
theorem kid_leaf {G : List GN} {j : Nat} {g : GN} (hg : G[j]? = some g) (hl : g.leaf = true) (b c : Nat) : (G.modify j fun g => gnKid g b c) = G := by
  apply List.ext_getElem?
  intro i
  rw [List.getElem?_modify, Option.map_eq_map]
  by_cases e : j = i
  · subst e
    rw [hg, Option.map_some, if_pos rfl]
    unfold gnKid
    rw [if_pos hl]
  · cases G[i]? with
    | none => rfl
    | some g0 => rw [Option.map_some, if_neg e]
theorem rows_in {P : List NP} {L : List (Nat × Tr × Value)} : (∀ x ∈ L, TreeIn P 0 x.2.1 x.2.2 []) → TreeIn P 0 (ofL (L.map fun x => (x.1, x.2.1))) (.pointer none) (L.map fun x => (x.1, x.2.2)) := by
  induction L with
  | nil => intro _; exact rfl
  | cons x L ih => intro h; exact ⟨_, _, rfl, h x (by simp), ih fun y hy => h y (by simp [hy])⟩
theorem raws_tree {P : List NP} {I N : List Nat} {G : List GN} {par : Nat → Nat} (h : RawS P I N G) (hG : GsOk G par) : ∀ f j, G.length - j ≤ f → j < G.length → TreeIn P 0 (gtr G f j) (ptv N j) []
  | 0, j, hf, hj => by omega
  | f + 1, j, hf, hj => by
    have hg : G[j]? = some G[j] := List.getElem?_eq_getElem hj
    rw [gtr_some hg]
    have ok := hG.ok j _ hg
    refine ⟨_, _, Nat.zero_le _, h.at_ j _ hg, rfl, rfl, rfl, rfl, ?_, ?_⟩
    · unfold gkk
      cases G[j].leaf <;> rfl
    · cases hl : G[j].leaf with
      | true =>
        rw [(ok.lf hl).2]
        show TreeIn P 0 .nil _ _
        unfold gkk
        rw [hl]; rfl
      | false =>
        have e : (gkk N G[j]).getD [] = G[j].kids.map fun x => (x.1, ptv N x.2) := by unfold gkk; rw [hl]; rfl
        rw [e]
        have := rows_in (P := P) (L := G[j].kids.map fun x => (x.1, gtr G f x.2, ptv N x.2)) (fun x hx => by
          obtain ⟨y, hy, rfl⟩ := List.mem_map.1 hx
          have := ok.low y hy
          exact raws_tree h hG f y.2 (by omega) this.2.2)
        rw [List.map_map, List.map_map] at this
        exact this
end Go.Proofs.YtfhdiimcimafkaaGreatDoor
/- law13.raws: nodes that are told. -/
namespace Go.Proofs.YtfhdiimcimafkaaGreatDoor
open Go.RowKit
abbrev rwT : Nat := 49
abbrev npT : Nat := 26
theorem npInfo : (Tryz.prog.info? npT).map (fun i => (i.zero, i.size, i.bytes)) = some (some (.pointer none), 1, 8) := by kernel_rfl
/-- a told node lies here -/
def RwC (w : World) (p : Addr) (i : Nat) (r : RW) : Prop :=
  ∃ a n c, w.cell? (p.add (i * 6)) = some (.bool r.leaf) ∧ w.cell? ⟨(p.add (i * 6)).block, (p.add (i * 6)).off + 1, none⟩ = some (.slice a n c) ∧ w.cell? ⟨(p.add (i * 6)).block, (p.add (i * 6)).off + 2, none⟩ = some (.bool r.has) ∧ w.cell? ⟨(p.add (i * 6)).block, (p.add (i * 6)).off + 3, none⟩ = some (.int .u64 r.val) ∧ w.cell? ⟨(p.add (i * 6)).block, (p.add (i * 6)).off + 4, none⟩ = some (.int .u8 (r.up : Nat)) ∧ w.cell? ⟨(p.add (i * 6)).block, (p.add (i * 6)).off + 5, none⟩ = some (.int .u8 (r.b : Nat)) ∧ Sl w a n c r.bs
/-- told nodes lie here -/
structure Rws (w : World) (a : Option Addr) (n c : Nat) (l : List RW) : Prop where
  len : l.length = n
  cap : n ≤ c
  capm : c ≤ maxLen
  at_ : ∀ i, i < l.length → ∃ p, a = some p ∧ RwC w p i (l.getD i ⟨false, [], false, 0, 0, 0⟩)
theorem RwC.below {w w' : World} {p : Addr} {i : Nat} {r : RW} (h : RwC w p i r) (hb : Below w.heap.size w w') : RwC w' p i r := by
  obtain ⟨a, n, c, h0, h1, h2, h3, h4, h5, h6⟩ := h
  exact ⟨a, n, c, (hb.cell (cell_lt h0)).trans h0, (hb.cell (cell_lt h1)).trans h1, (hb.cell (cell_lt h2)).trans h2, (hb.cell (cell_lt h3)).trans h3, (hb.cell (cell_lt h4)).trans h4, (hb.cell (cell_lt h5)).trans h5, h6.below hb⟩
theorem Rws.below {w w' : World} {a : Option Addr} {n c : Nat} {l : List RW} (h : Rws w a n c l) (hb : Below w.heap.size w w') : Rws w' a n c l :=
  ⟨h.len, h.cap, h.capm, fun i hi => by obtain ⟨p, e, q⟩ := h.at_ i hi; exact ⟨p, e, q.below hb⟩⟩
def ptl (N : List Nat) : List Value := N.map fun k => .pointer (some ⟨k, 0, none⟩)
def parOf (l : List RW) (c : Nat) : Nat := (l.getD c ⟨false, [], false, 0, 0, 0⟩).up % c
/-- behind so many told nodes -/
structure RwL (w : World) (par : Nat → Nat) (vo : Value) (i : Nat) (G : List GN) (wr : World) (P : List NP) (I N : List Nat) (Z : Nat → Prop) (bo : Option Nat) : Prop where
  own : OwnS 1 npT wr vo i (ptl N) bo
  new : ∀ g, bo = some g → w.heap.size ≤ g ∧ ¬ Z g
  st : StoreW w wr P Z
  rs : RawS P I N G
  ok : GsOk G par
  len : G.length = i
theorem rwl_nil (w : World) (par : Nat → Nat) : RwL w par (.slice none 0 0) 0 [] w [] [] [] NoB none :=
  ⟨OwnS.nil _ _ _, by simp, StoreW.nil w w (Mod.refl _ w), raws_nil, gs_nil par, rfl⟩
/-- the box of a told node -/
def boxR (r : RW) (a : Option Addr) (n c : Nat) : Obj := .cells #[.bool r.leaf, .slice a n c, .bool r.has, .int .u64 r.val, .int .u8 (r.up : Nat), .int .u8 (r.b : Nat)] rwT
def BoxAt (X : World) (s : Nat) (r : RW) (a : Option Addr) (n c : Nat) : Prop := X.heap[s]? = some (.cells [.bool r.leaf, .slice a n c, .bool r.has, .int .u64 r.val, .int .u8 (r.up : Nat), .int .u8 (r.b : Nat)].toArray rwT (0, 0))
theorem BoxAt.cells {X : World} {s : Nat} {r : RW} {a : Option Addr} {n c : Nat} (h : BoxAt X s r a n c) : X.cell? ⟨s, 0, none⟩ = some (.bool r.leaf) ∧ X.cell? ⟨s, 1, none⟩ = some (.slice a n c) ∧ X.cell? ⟨s, 2, none⟩ = some (.bool r.has) ∧ X.cell? ⟨s, 3, none⟩ = some (.int .u64 r.val) ∧ X.cell? ⟨s, 4, none⟩ = some (.int .u8 (r.up : Nat)) ∧ X.cell? ⟨s, 5, none⟩ = some (.int .u8 (r.b : Nat)) := by
  refine ⟨?_, ?_, ?_, ?_, ?_, ?_⟩ <;> (rw [cell_of_blk h]; rfl)
theorem BoxAt.keep {X X' : World} {s : Nat} {r : RW} {a : Option Addr} {n c : Nat} (h : BoxAt X s r a n c) {T : Nat → Prop} (hm : Mod T X X') (hs : ¬ T s) : BoxAt X' s r a n c :=
  (hm.same s (Array.getElem?_eq_some_iff.1 h).1 hs).trans h
/-- one node was made and stands behind the others -/
theorem rwl_app {w w3 w4 : World} {v4 : Value} {i : Nat} {P3 : List NP} {N : List Nat} {Z3 : Nat → Prop} {bo bo4 : Option Nat} {k : Nat} {o : Obj}
    (hnew : ∀ g, bo = some g → w.heap.size ≤ g ∧ ¬ Z3 g) (st : StoreW w w3 P3 Z3)
    (HO : OwnS 1 npT w4 v4 (i + 1) (ptl N ++ [.pointer (some ⟨k, 0, none⟩)]) bo4) (HM : Mod (fun g => bo = some g) (w3.alloc o) w4) (HN : NewOr (w3.alloc o) bo bo4) :
    OwnS 1 npT w4 v4 (i + 1) (ptl (N ++ [k])) bo4 ∧ (∀ g, bo4 = some g → w.heap.size ≤ g ∧ ¬ Z3 g) ∧ StoreW w w4 P3 Z3 := by
  have hsz := st.toP.size
  refine ⟨by unfold ptl at *; rw [List.map_append]; exact HO, fun g hg => ?_, (st.below ((Below.refl _ w3).alloc (Nat.le_refl _) o)).other HM (fun j hj => (hnew j hj).2) (fun j hj => (hnew j hj).1)⟩
  rcases HN with q | ⟨g', q1, q2⟩
  · exact hnew g (by rw [← q]; exact hg)
  · obtain rfl : g' = g := by rw [q1] at hg; simpa using hg
    rw [World.size_alloc] at q2
    exact ⟨by omega, fun z => by have := st.lt g' z; omega⟩
set_option maxHeartbeats 1000000 in
theorem nd_setkid_leaf {w : World} {n : Nat} {o : Int} {bs : List Nat} {val : Int} {has : Bool} {pv : Value} {bo : Option Nat} {kp : Option Addr} {Sk : Nat → Prop} (h : NdIs w n o bs val has none pv bo kp Sk) (x : Int) (b : Nat) (k : Option Addr) (h0 : ¬ (x = 0 ∨ x ≠ o)) : Calls Tryz.prog 53 #[.pointer (some ⟨n, 0, none⟩), .int .u64 x, .int .u8 b, .pointer k] w fun e w' => e = .returned (.int .i64 9) ∧ w = w' := by
  have hm := Lib.hid (nd_inner h x)
  have hR2 : Hid (innE o x none = 9) := by show _ = _; unfold innE; rw [if_neg h0]; rfl
  clear h h0
  go_enter Tryz.func53, Tryz.ntmps53
  go_wp2_with (first | (go_at_call 77; refine hm.out.mono ?_; rintro e w' ⟨rfl, rfl⟩; rw [hR2.out]))
  go_ret
  exact ⟨rfl, rfl⟩
/-- the newest node becomes a kid of another one, unless that is a leaf -/
theorem rwl_kid {w w4 : World} {P : List NP} {I N : List Nat} {G : List GN} {Z : Nat → Prop} (st : StoreW w w4 P Z) (rs : RawS P I N G) {j b c : Nat} (hj : j < G.length) (hb : b < 256) :
    Calls Tryz.prog 53 #[ptv N j, .int .u64 1, .int .u8 (b : Nat), ptv N c] w4 fun e w5 => (∃ x, e = .returned (.int .i64 x)) ∧ ∃ P5 Z5, StoreW w w5 P5 Z5 ∧ RawS P5 I N (G.modify j fun g => gnKid g b c) ∧ (∀ g, Z5 g → Z g ∨ w4.heap.size ≤ g) ∧ Mod Z w4 w5 := by
  have hg : G[j]? = some G[j] := List.getElem?_eq_getElem hj
  have hp := rs.at_ j _ hg
  cases hl : G[j].leaf with
  | true =>
    obtain ⟨pv, bo, kp, Sk, q⟩ := st.toP.is hp
    have hk : gkk N G[j] = none := by unfold gkk; rw [hl]; rfl
    simp only [hk] at q
    refine (nd_setkid_leaf q 1 b (some ⟨N.getD c 0, 0, none⟩) (by simp)).mono ?_
    rintro e w5 ⟨rfl, rfl⟩
    exact ⟨⟨_, rfl⟩, P, Z, st, by rw [kid_leaf hg hl]; exact rs, fun g z => Or.inl z, Mod.refl _ _⟩
  | false =>
    have hk : gkk N G[j] = some (G[j].kids.map fun x => (x.1, ptv N x.2)) := by unfold gkk; rw [hl]; rfl
    refine (sw_setkid st hp (l := G[j].kids.map fun x => (x.1, ptv N x.2)) hk 1 (by simp) b hb ⟨N.getD c 0, 0, none⟩).mono ?_
    rintro e w5 ⟨rfl, ⟨Z5, q1, q2⟩, q3⟩
    exact ⟨⟨_, rfl⟩, _, Z5, q1, raws_kid rs hg hl b c, q2, q3⟩
end Go.Proofs.YtfhdiimcimafkaaGreatDoor
/- law13.raws: the walk. -/
namespace Go.Proofs.YtfhdiimcimafkaaGreatDoor
open Go.RowKit
section
variable {w wr w2 w3 w4 w5 : World} {par : Nat → Nat} {vo v4 : Value} {i k : Nat} {G : List GN} {P : List NP} {I N : List Nat} {Z : Nat → Prop} {bo bo4 : Option Nat} {r : RW} {a3 : Option Addr} {n3 c3 : Nat}
/-- the newest node was made -/
def Md (w wr : World) (P : List NP) (I N : List Nat) (G : List GN) (Z : Nat → Prop) (r : RW) (a3 : Option Addr) (n3 c3 : Nat) (g : GN) (w3 : World) (k : Nat) : Prop :=
  ∃ P3 Z3, StoreW w w3 (P3 ++ [⟨k, 1, g.bs, g.val, g.has, if g.leaf then none else some []⟩]) Z3 ∧ RawS P3 I N G ∧ (∀ j, Z3 j → Z j ∨ wr.heap.size + 1 ≤ j) ∧ BoxAt w3 wr.heap.size r a3 n3 c3 ∧ Mod Z wr w3 ∧ wr.heap.size + 1 ≤ w3.heap.size
/-- it stands behind the others -/
def Ap (w wr : World) (I N : List Nat) (G : List GN) (i : Nat) (r : RW) (a3 : Option Addr) (n3 c3 : Nat) (k : Nat) (v4 : Value) (w4 : World) : Prop :=
  ∃ P4 I4 Z4 bo4, OwnS 1 npT w4 v4 (i + 1) (ptl (N ++ [k])) bo4 ∧ (∀ g, bo4 = some g → w.heap.size ≤ g ∧ ¬ Z4 g) ∧ StoreW w w4 P4 Z4 ∧ RawS P4 I4 (N ++ [k]) (G ++ [gnNew r]) ∧ BoxAt w4 wr.heap.size r a3 n3 c3
theorem md_own (h : RwL w par vo i G wr P I N Z bo) (q : Md w wr P I N G Z r a3 n3 c3 (gnNew r) w3 k) (o : Obj) : OwnS 1 npT (w3.alloc o) vo i (ptl N) bo := by
  obtain ⟨P3, Z3, _, _, _, _, hm, hs⟩ := q
  refine (h.own.keep (w' := w3) fun g e => ?_).below ((Below.refl _ w3).alloc (Nat.le_refl _) o)
  exact hm.same g (by have := h.own; rw [e] at this; exact this.lt) (h.new g e).2
theorem md_app (h : RwL w par vo i G wr P I N Z bo) (q : Md w wr P I N G Z r a3 n3 c3 (gnNew r) w3 k) {o : Obj}
    (HO : OwnS 1 npT w4 v4 (i + 1) (ptl N ++ [.pointer (some ⟨k, 0, none⟩)]) bo4) (HM : Mod (fun g => bo = some g) (w3.alloc o) w4) (HN : NewOr (w3.alloc o) bo bo4) : Ap w wr I N G i r a3 n3 c3 k v4 w4 := by
  obtain ⟨P3, Z3, st, rs, hz, hb, hm, hs⟩ := q
  have hlt : ∀ g, bo = some g → g < wr.heap.size := fun g e => by have := h.own; rw [e] at this; exact this.lt
  obtain ⟨q1, q2, q3⟩ := rwl_app (fun g e => ⟨(h.new g e).1, fun z => by
    rcases hz g z with z | z
    · exact (h.new g e).2 z
    · have := hlt g e; omega⟩) st HO HM HN
  refine ⟨_, _, _, _, q1, q2, q3, raws_snoc rs h.ok (gnNew_kids r) k, ?_⟩
  have hb2 : BoxAt (w3.alloc o) wr.heap.size r a3 n3 c3 := (((Below.refl w3.heap.size w3).alloc (Nat.le_refl _) o).block _ (by omega)).trans hb
  exact hb2.keep HM (fun e => by have := hlt _ e; omega)
theorem ap_first (h : RwL w par vo 0 G wr P I N Z bo) (hr : r.ok) (q : Ap w wr I N G 0 r a3 n3 c3 k v4 w4) : ∃ P I N Z bo, RwL w par v4 1 (gnOne G r) w4 P I N Z bo := by
  obtain ⟨P4, I4, Z4, bo4, q1, q2, q3, q4, _⟩ := q
  have e : G = [] := List.length_eq_zero_iff.1 h.len
  have e1 : gnOne G r = G ++ [gnNew r] := by rw [e]; rfl
  refine ⟨P4, I4, N ++ [k], Z4, bo4, q1, q2, q3, by rw [e1]; exact q4, gnOne_ok h.ok hr (fun hh => absurd h.len hh), by rw [gnOne_len, h.len]⟩
theorem ap_kid (h : RwL w par vo i G wr P I N Z bo) (hi : 0 < i) (hr : r.ok) (hp : par i = r.up % i) (q : Ap w wr I N G i r a3 n3 c3 k v4 w4) (d : Nat) :
    Calls Tryz.prog 53 #[ptv (N ++ [k]) (r.up % i), .int .u64 1, .int .u8 (r.b : Nat), .pointer (some ⟨k, 0, none⟩)] (w4.drewN d) fun e w5 => (∃ x, e = .returned (.int .i64 x)) ∧ ∃ P I N Z bo, RwL w par v4 (i + 1) (gnOne G r) w5 P I N Z bo := by
  obtain ⟨P4, I4, Z4, bo4, q1, q2, q3, q4, _⟩ := q
  have hk : ptv (N ++ [k]) G.length = .pointer (some ⟨k, 0, none⟩) := by
    have : (N ++ [k]).getD G.length 0 = k := by rw [← h.rs.lenN]; exact getD_end _ _
    unfold ptv; rw [this]
  have hm : r.up % i < i := Nat.mod_lt _ hi
  have hlen := h.len
  have := rwl_kid (q3.drewN d) q4 (j := r.up % i) (b := r.b) (c := G.length) (by rw [List.length_append]; omega) hr.2.2.2.2.2
  rw [hk] at this
  refine this.mono ?_
  rintro e w5 ⟨q5, P5, Z5, s5, r5, z5, m5⟩
  have e1 : gnOne G r = (G ++ [gnNew r]).modify (r.up % i) (fun g => gnKid g r.b G.length) := by unfold gnOne; rw [if_neg (by omega), hlen]
  refine ⟨q5, P5, I4, N ++ [k], Z5, bo4, q1.keep (fun g e => m5.same g (by have := q1; rw [e] at this; exact this.lt) (q2 g e).2), fun g e => ⟨(q2 g e).1, fun z => ?_⟩, s5, by rw [e1]; exact r5, gnOne_ok h.ok hr (fun _ => by rw [hlen]; exact hp), by rw [gnOne_len, hlen]⟩
  rcases z5 g z with z | z
  · exact (q2 g e).2 z
  · have hl : g < w4.heap.size := by have := q1; rw [e] at this; exact this.lt
    have : g < (w4.drewN d).heap.size := hl
    omega
theorem box_new (wr : World) (r : RW) (a3 : Option Addr) (n3 c3 : Nat) : BoxAt (wr.alloc (boxR r a3 n3 c3)) wr.heap.size r a3 n3 c3 := heap_alloc_new wr _
/-- an inner node was made of the told one -/
theorem md_inner (h : RwL w par vo i G wr P I N Z bo) (hr : r.ok) (hS : Sl wr a3 n3 c3 r.bs) : Calls Tryz.prog 50 #[.pointer none, .int .u64 1, .slice a3 n3 c3] (wr.alloc (boxR r a3 n3 c3)) fun e w2 => ∃ k, e = .returned (.pointer (some ⟨k, 0, none⟩)) ∧ Md w wr P I N G Z r a3 n3 c3 ⟨r.bs, 0, false, false, []⟩ w2 k ∧ Below wr.heap.size wr w2 := by
  have hb : Below wr.heap.size wr (wr.alloc (boxR r a3 n3 c3)) := (Below.refl _ wr).alloc (Nat.le_refl _) _
  have hn : n3 ≤ 140737488355328 := by have := hS.len; have := hr.2.1; omega
  refine (sw_inner (h.st.below hb) (In8.of_sl (hS.below hb) hn) 1).mono ?_
  rintro e w2 ⟨k, q1, q2, Z2, q3, q4⟩
  refine ⟨k, q1, ⟨P, Z2, q3, h.rs, fun j hj => by have := q4 j hj; rw [World.size_alloc] at this; exact this, ?_, (Mod.of_below (hb.trans (q2.mono hb.size))), by have := q2.size; rw [World.size_alloc] at this; exact this⟩, hb.trans (q2.mono hb.size)⟩
  exact (q2.block _ (by rw [World.size_alloc]; omega)).trans (box_new wr r a3 n3 c3)
theorem md_leaf (h : RwL w par vo i G wr P I N Z bo) (hr : r.ok) (hS : Sl wr a3 n3 c3 r.bs) (q : Md w wr P I N G Z r a3 n3 c3 ⟨r.bs, 0, false, false, []⟩ w2 k) (hbel : Below wr.heap.size wr w2) (hl : r.leaf = true) : Calls Tryz.prog 51 #[.pointer none, .int .u64 1, .slice a3 n3 c3, .int .u64 r.val] w2 fun e w3 => ∃ k, e = .returned (.pointer (some ⟨k, 0, none⟩)) ∧ Md w wr P I N G Z r a3 n3 c3 (gnNew r) w3 k := by
  obtain ⟨P3, Z3, st, rs, hz, hb, hm, hs⟩ := q
  have hn : n3 ≤ 140737488355328 := by have := hS.len; have := hr.2.1; omega
  have e : gnNew r = ⟨r.bs, r.val, true, true, []⟩ := by unfold gnNew; rw [hl]; rfl
  refine (sw_leaf st (In8.of_sl (hS.below hbel) hn) 1 r.val).mono ?_
  rintro e' w3 ⟨k', q1, q2, Z4, q3, q4⟩
  refine ⟨k', q1, _, Z4, by rw [e]; exact q3, raws_more rs _, fun j hj => ?_, (q2.block _ (by omega)).trans hb, hm.then (Mod.of_below (S := NoB) q2) (fun j _ e => e.elim), Nat.le_trans hs q2.size⟩
  rcases q4 j hj with z | z
  · exact hz j z
  · exact Or.inr (by omega)
theorem md_setval (h : RwL w par vo i G wr P I N Z bo) (q : Md w wr P I N G Z r a3 n3 c3 ⟨r.bs, 0, false, false, []⟩ w2 k) (hl : r.leaf = false) (hh : r.has = true) : Calls Tryz.prog 52 #[.pointer (some ⟨k, 0, none⟩), .int .u64 1, .int .u64 r.val] w2 fun e w3 => (∃ x, e = .returned (.int .i64 x)) ∧ Md w wr P I N G Z r a3 n3 c3 (gnNew r) w3 k := by
  obtain ⟨P3, Z3, st, rs, hz, hb, hm, hs⟩ := q
  have eg : ∀ x : NP, (P3 ++ [x])[P3.length]? = some x := fun x => by simp
  have es : ∀ x y : NP, (P3 ++ [x]).set P3.length y = P3 ++ [y] := fun x y => by simp
  refine (sw_setval st (eg _) 1 r.val (by simp)).mono ?_
  rintro e w3 ⟨rfl, ⟨Z4, q1, q2⟩, q3⟩
  have hsz := h.st.lt
  have e : gnNew r = ⟨r.bs, r.val, true, false, []⟩ := by unfold gnNew; rw [hl, hh]; rfl
  have hZ : ∀ j, j < wr.heap.size → Z3 j → Z j := fun j hj z => by
    rcases hz j z with z | z
    · exact z
    · omega
  refine ⟨⟨_, rfl⟩, P3, Z4, ?_, rs, fun j hj => ?_, hb.keep q3 (fun z => ?_), hm.then q3 hZ, Nat.le_trans hs q3.size⟩
  · rw [e]
    rw [es] at q1
    exact q1
  · rcases q2 j hj with z | z
    · exact hz j z
    · exact Or.inr (by omega)
  · rcases hz _ z with z | z
    · have := hsz _ z; omega
    · omega
theorem md_none (q : Md w wr P I N G Z r a3 n3 c3 ⟨r.bs, 0, false, false, []⟩ w2 k) (hl : r.leaf = false) (hh : r.has = false) : Md w wr P I N G Z r a3 n3 c3 (gnNew r) w2 k := by
  have : gnNew r = ⟨r.bs, 0, false, false, []⟩ := by unfold gnNew; rw [hl, hh]; simp
  rw [this]; exact q
end
end Go.Proofs.YtfhdiimcimafkaaGreatDoor
/- law13.raws: the walk. -/
namespace Go.Proofs.YtfhdiimcimafkaaGreatDoor
open Go.RowKit
theorem gnAll_succ {l : List RW} {i : Nat} (hi : i < l.length) : gnAll (l.take (i + 1)) = gnOne (gnAll (l.take i)) (l.getD i ⟨false, [], false, 0, 0, 0⟩) := by
  unfold gnAll
  rw [List.take_succ_eq_append_getElem hi, List.foldl_append]
  simp [List.getD, List.getElem?_eq_getElem hi]
theorem ptr_news (w : World) (x : Value) (t : TypeId) : ∀ j u, ([x] : List Value)[j]? = some u → (w.alloc (.cells #[x] t)).cell? ((⟨w.heap.size, 0, none⟩ : Addr).add j) = some u := fun j u h => by
  have hb : (w.alloc (.cells #[x] t)).heap[w.heap.size]? = some (.cells [x].toArray t (0, 0)) := heap_alloc_new w _
  rw [add0, cell_of_blk hb]
  exact h
theorem one_ptr (k : Nat) : ∀ u ∈ ([.pointer (some ⟨k, 0, none⟩)] : List Value), u.oneCell' = true := by
  intro u hu
  simp only [List.mem_cons, List.not_mem_nil, or_false] at hu
  subst hu; rfl
theorem ap_cells {w wr w4 : World} {I N : List Nat} {G : List GN} {i k : Nat} {r : RW} {a3 : Option Addr} {n3 c3 : Nat} {v4 : Value} (hN : N.length = i) {m : Nat} (hm : m < i) (q : Ap w wr I N G i r a3 n3 c3 k v4 w4) : ∃ g4 cap4, v4 = .slice (some ⟨g4, 0, none⟩) (i + 1) cap4 ∧ w4.cell? ⟨g4, m, none⟩ = some (ptv (N ++ [k]) m) ∧ w4.cell? ⟨wr.heap.size, 4, none⟩ = some (.int .u8 (r.up : Nat)) ∧ w4.cell? ⟨wr.heap.size, 5, none⟩ = some (.int .u8 (r.b : Nat)) := by
  obtain ⟨P4, I4, Z4, bo4, q1, q2, q3, q4, q5⟩ := q
  obtain ⟨g4, cap4, _, e, hc, _⟩ := q1.at_ (j := m) (by omega)
  refine ⟨g4, cap4, e, ?_, q5.cells.2.2.2.2.1, q5.cells.2.2.2.2.2⟩
  rw [hc]
  have hlt : m < (N ++ [k]).length := by rw [List.length_append]; omega
  unfold ptl ptv
  rw [List.getElem?_map, List.getElem?_eq_getElem hlt]
  simp [List.getD, List.getElem?_eq_getElem hlt]
def RawsPost (w : World) (par : Nat → Nat) (n : Nat) (G : List GN) (e : Ending) (w' : World) : Prop := ∃ k P I N Z bo v, e = .returned (.pointer (some ⟨k, 0, none⟩)) ∧ RwL w par v n G w' P I N Z bo ∧ ptv N 0 = .pointer (some ⟨k, 0, none⟩)
set_option maxHeartbeats 4000000 in
set_option maxRecDepth 100000 in
theorem law_raws (w : World) (a : Option Addr) (n c : Nat) (l : List RW) (h : Rws w a n c l) (hok : ∀ r ∈ l, r.ok) (h0 : 0 < n) (h24 : n ≤ 24) :
    Calls Tryz.prog 20 #[.slice a n c] w (RawsPost w (parOf l) n (gnAll l)) := by
  have H := Lib.hid h
  have hl := Lib.hid h.len
  have hstart : Hid (∃ P I N Z bo, RwL w (parOf l) (.slice none 0 0) 0 (gnAll (l.take 0)) w P I N Z bo) := ⟨_, _, _, _, _, rwl_nil w _⟩
  have HK := Lib.hid hok
  clear h hok
  go_enter Tryz.func20, Tryz.ntmps20
  go_wp2_with fail
  go_loopw [9, 3] (fun v9 v3 wr => ∃ i : Nat, v9 = .int .i64 (i : Nat) ∧ i ≤ n ∧ Hid (∃ P I N Z bo, RwL w (parOf l) v3 i (gnAll (l.take i)) wr P I N Z bo)) (fun v9 _ _ => (n - intOf v9).toNat)
  case atStart => exact ⟨0, rfl, by omega, hstart⟩
  case round =>
    clear hstart
    obtain ⟨i, rfl, hi, hR⟩ := hrel
    obtain ⟨P, I, N, Z, bo, hR2⟩ := hR.out
    have R := Lib.hid hR2
    clear hR2 hR
    by_cases hlt : i < n
    · have hlt2 : (i : Int) < (n : Int) := by omega
      have hlt3 : i < l.length := by rw [hl.out]; exact hlt
      have B := Lib.hid R.out.st.toP.below_
      obtain ⟨p, rfl, q⟩ := H.out.at_ i hlt3
      have q := q.below B.out
      have hn := gnAll_succ hlt3
      have hr : (l.getD i ⟨false, [], false, 0, 0, 0⟩).ok := HK.out _ (by simp [List.getD, List.getElem?_eq_getElem hlt3])
      have hp : parOf l i = (l.getD i ⟨false, [], false, 0, 0, 0⟩).up % i := rfl
      generalize l.getD i ⟨false, [], false, 0, 0, 0⟩ = r at *
      obtain ⟨a3, n3, c3, k0, k1, k2, k3, k4, k5, hS⟩ := q
      generalize gnAll (l.take i) = G at *
      have hInn := Lib.hid (md_inner R.out hr hS)
      have hLf : Hid (∀ w2 k, Md w wr P I N G Z r a3 n3 c3 ⟨r.bs, 0, false, false, []⟩ w2 k → Below wr.heap.size wr w2 → r.leaf = true → Calls Tryz.prog 51 #[.pointer none, .int .u64 1, .slice a3 n3 c3, .int .u64 r.val] w2 fun e w3 => ∃ k, e = .returned (.pointer (some ⟨k, 0, none⟩)) ∧ Md w wr P I N G Z r a3 n3 c3 (gnNew r) w3 k) := fun w2 k q hb he => md_leaf R.out hr hS q hb he
      have hSV : Hid (∀ w2 k, Md w wr P I N G Z r a3 n3 c3 ⟨r.bs, 0, false, false, []⟩ w2 k → r.leaf = false → r.has = true → Calls Tryz.prog 52 #[.pointer (some ⟨k, 0, none⟩), .int .u64 1, .int .u64 r.val] w2 fun e w3 => (∃ x, e = .returned (.int .i64 x)) ∧ Md w wr P I N G Z r a3 n3 c3 (gnNew r) w3 k) := fun w2 k q e1 e2 => md_setval R.out q e1 e2
      have hHn := Lib.hid hn
      have hHr := Lib.hid hr
      have hHp := Lib.hid hp
      unfold boxR at hInn
      have hb1 : Hid (i + 1 ≤ maxLen) := by show _ ≤ _; unfold maxLen; omega
      have hb2 : Hid ((i + 1) * 8 ≤ 140737488355328) := by show _ ≤ _; omega
      clear hn hr hp hS
      by_cases hi0 : i = 0
      · have hi1 : ¬ (0 : Int) < (i : Int) := by omega
        have hAf : Hid (∀ k v4 w4, Ap w wr I N G i r a3 n3 c3 k v4 w4 → ∃ P I N Z bo, RwL w (parOf l) v4 (i + 1) (gnOne G r) w4 P I N Z bo) := fun k v4 w4 q => by
          have R' := R.out
          subst hi0
          exact ap_first R' hHr.out q
        clear hi0
        cases hlf : r.leaf with
        | true =>
          rw [hlf] at k0 hInn
          go_wp2_with (first
            | (at_builtin; go_loud (refine wpList_append_s rfl (.tmp 34) (.tmp 36) 96 rfl npT _ 1 8 Tryz.underlying96 npInfo rfl (by omega) _ rfl i (ptl N) bo (md_own R.out M3.out _) ⟨_, 0, none⟩ 1 1 [.pointer (some ⟨k, 0, none⟩)] rfl rfl (ptr_news _ _ _) (one_ptr k) hb1.out hb2.out ?_); intro v4 w4 bo4 HO HM HN
               have A4 := Lib.hid (md_app R.out M3.out HO.out HM.out HN.out)
               clear HO HM HN)
            | (go_at_call 51; refine (hLf.out _ _ M2.out B2.out hlf).mono ?_; rintro e w3 ⟨k, rfl, m3⟩
               have M3 := Lib.hid m3
               clear m3 y0 y1 y2 y3 y4 y5)
            | (go_at_call 50; refine hInn.out.mono ?_; rintro e w2 ⟨k', rfl, m2, b2⟩
               have M2 := Lib.hid m2
               have B2 := Lib.hid b2
               obtain ⟨_, _, _, _, _, hbx, _, _⟩ := m2
               obtain ⟨y0, y1, y2, y3, y4, y5⟩ := hbx.cells
               rw [hlf] at y0
               clear b2 hbx))
          have R6 : Hid (∃ P I N Z bo, RwL w (parOf l) v4 (i + 1) (gnAll (l.take (i + 1))) w4 P I N Z bo) := by rw [hHn.out]; exact hAf.out _ _ _ A4.out
          go_roundw
          case rel => exact ⟨i + 1, (by first | rfl | go_num), by omega, R6⟩
          case measure => (simp [intOf]) <;> omega
        | false =>
          rw [hlf] at k0 hInn
          cases hhs : r.has with
          | true =>
            rw [hhs] at k2 hInn
            go_wp2_with (first
              | (at_builtin; go_loud (refine wpList_append_s rfl (.tmp 34) (.tmp 36) 96 rfl npT _ 1 8 Tryz.underlying96 npInfo rfl (by omega) _ rfl i (ptl N) bo (md_own R.out M3.out _) ⟨_, 0, none⟩ 1 1 [.pointer (some ⟨k, 0, none⟩)] rfl rfl (ptr_news _ _ _) (one_ptr k) hb1.out hb2.out ?_); intro v4 w4 bo4 HO HM HN
                 have A4 := Lib.hid (md_app R.out M3.out HO.out HM.out HN.out)
                 clear HO HM HN)
              | (go_at_call 52; refine (hSV.out _ _ M2.out hlf hhs).mono ?_; rintro e w3 ⟨⟨xs, rfl⟩, m3⟩
                 have M3 := Lib.hid m3
                 clear m3 y0 y1 y2 y3 y4 y5)
              | (go_at_call 50; refine hInn.out.mono ?_; rintro e w2 ⟨k, rfl, m2, b2⟩
                 have M2 := Lib.hid m2
                 have B2 := Lib.hid b2
                 obtain ⟨_, _, _, _, _, hbx, _, _⟩ := m2
                 obtain ⟨y0, y1, y2, y3, y4, y5⟩ := hbx.cells
                 rw [hlf] at y0
                 rw [hhs] at y2
                 clear b2 hbx))
            have R6 : Hid (∃ P I N Z bo, RwL w (parOf l) v4 (i + 1) (gnAll (l.take (i + 1))) w4 P I N Z bo) := by rw [hHn.out]; exact hAf.out _ _ _ A4.out
            go_roundw
            case rel => exact ⟨i + 1, (by first | rfl | go_num), by omega, R6⟩
            case measure => (simp [intOf]) <;> omega
          | false =>
            rw [hhs] at k2 hInn
            go_wp2_with (first
              | (at_builtin; go_loud (refine wpList_append_s rfl (.tmp 34) (.tmp 36) 96 rfl npT _ 1 8 Tryz.underlying96 npInfo rfl (by omega) _ rfl i (ptl N) bo (md_own R.out M3.out _) ⟨_, 0, none⟩ 1 1 [.pointer (some ⟨k, 0, none⟩)] rfl rfl (ptr_news _ _ _) (one_ptr k) hb1.out hb2.out ?_); intro v4 w4 bo4 HO HM HN
                 have A4 := Lib.hid (md_app R.out M3.out HO.out HM.out HN.out)
                 clear HO HM HN)
              | (go_at_call 50; refine hInn.out.mono ?_; rintro e w2 ⟨k, rfl, m2, b2⟩
                 have M2 := Lib.hid m2
                 have B2 := Lib.hid b2
                 obtain ⟨_, _, _, _, _, hbx, _, _⟩ := m2
                 obtain ⟨y0, y1, y2, y3, y4, y5⟩ := hbx.cells
                 rw [hlf] at y0
                 rw [hhs] at y2
                 have M3 := Lib.hid (md_none M2.out hlf hhs)
                 clear b2 hbx))
            have R6 : Hid (∃ P I N Z bo, RwL w (parOf l) v4 (i + 1) (gnAll (l.take (i + 1))) w4 P I N Z bo) := by rw [hHn.out]; exact hAf.out _ _ _ A4.out
            go_roundw
            case rel => exact ⟨i + 1, (by first | rfl | go_num), by omega, R6⟩
            case measure => (simp [intOf]) <;> omega
      · have hi1 : (0 : Int) < (i : Int) := by omega
        have hip : Hid (0 < i) := by show _ < _; omega
        obtain ⟨m, hm⟩ : ∃ m, m = r.up % i := ⟨_, rfl⟩
        have hmi : ((r.up : Nat) : Int) % ((i : Nat) : Int) = (m : Nat) := by rw [hm]; exact (Int.natCast_emod _ _).symm
        have hmlt : (m : Int) < (i : Int) := by have := Nat.mod_lt r.up hip.out; omega
        have hAc : Hid (∀ k v4 w4, Ap w wr I N G i r a3 n3 c3 k v4 w4 → ∃ g4 cap4, v4 = .slice (some ⟨g4, 0, none⟩) (i + 1) cap4 ∧ w4.cell? ⟨g4, m, none⟩ = some (ptv (N ++ [k]) m) ∧ w4.cell? ⟨wr.heap.size, 4, none⟩ = some (.int .u8 (r.up : Nat)) ∧ w4.cell? ⟨wr.heap.size, 5, none⟩ = some (.int .u8 (r.b : Nat))) := fun k v4 w4 q => ap_cells (by rw [R.out.rs.lenN, R.out.len]) (by rw [hm]; exact Nat.mod_lt _ hip.out) q
        have hKd : Hid (∀ k v4 w4, Ap w wr I N G i r a3 n3 c3 k v4 w4 → Calls Tryz.prog 53 #[ptv (N ++ [k]) m, .int .u64 1, .int .u8 (r.b : Nat), .pointer (some ⟨k, 0, none⟩)] (w4.drewN 1) fun e w5 => (∃ x, e = .returned (.int .i64 x)) ∧ ∃ P I N Z bo, RwL w (parOf l) v4 (i + 1) (gnOne G r) w5 P I N Z bo) := fun k v4 w4 q => by rw [hm]; exact ap_kid R.out hip.out hHr.out hHp.out q 1
        have hm2 : (m : Int) < (i : Int) + 1 := by omega
        have hup : ((r.up : Nat) : Int) < 256 := by have := hHr.out.2.2.2.2.1; omega
        clear hm hi0
        cases hlf : r.leaf with
        | true =>
          rw [hlf] at k0 hInn
          go_wp2_with (first
            | (at_builtin; go_loud (refine wpList_append_s rfl (.tmp 34) (.tmp 36) 96 rfl npT _ 1 8 Tryz.underlying96 npInfo rfl (by omega) _ rfl i (ptl N) bo (md_own R.out M3.out _) ⟨_, 0, none⟩ 1 1 [.pointer (some ⟨k, 0, none⟩)] rfl rfl (ptr_news _ _ _) (one_ptr k) hb1.out hb2.out ?_); intro v4 w4 bo4 HO HM HN
               have A4 := Lib.hid (md_app R.out M3.out HO.out HM.out HN.out)
               clear HO HM HN)
            | (go_at_call 51; refine (hLf.out _ _ M2.out B2.out hlf).mono ?_; rintro e w3 ⟨k, rfl, m3⟩
               have M3 := Lib.hid m3
               clear m3 y0 y1 y2 y3 y4 y5)
            | (go_at_call 50; refine hInn.out.mono ?_; rintro e w2 ⟨k', rfl, m2, b2⟩
               have M2 := Lib.hid m2
               have B2 := Lib.hid b2
               obtain ⟨_, _, _, _, _, hbx, _, _⟩ := m2
               obtain ⟨y0, y1, y2, y3, y4, y5⟩ := hbx.cells
               rw [hlf] at y0
               clear b2 hbx))
          obtain ⟨g4, cap4, hv4, x1, x2, x3⟩ := hAc.out _ _ _ A4.out
          subst hv4
          have hSK := Lib.hid (hKd.out _ _ _ A4.out)
          go_region_with (first | (go_at_call 53; refine hSK.out.mono ?_; rintro e w5 ⟨⟨x, rfl⟩, hR5⟩; have R5 := Lib.hid hR5; clear hR5))
          all_goals (
            have R6 : Hid (∃ P I N Z bo, RwL w (parOf l) (.slice (some ⟨g4, 0, none⟩) (i + 1) cap4) (i + 1) (gnAll (l.take (i + 1))) w5 P I N Z bo) := by rw [hHn.out]; exact R5.out
            clear R5 hSK
            (try simp only [Exit.then, Exit.inBlock])
            go_wp2_with fail
            go_roundw
            case rel => exact ⟨i + 1, (by first | rfl | go_num), by omega, R6⟩
            case measure => (simp [intOf]) <;> omega)
        | false =>
          rw [hlf] at k0 hInn
          cases hhs : r.has with
          | true =>
            rw [hhs] at k2 hInn
            go_wp2_with (first
              | (at_builtin; go_loud (refine wpList_append_s rfl (.tmp 34) (.tmp 36) 96 rfl npT _ 1 8 Tryz.underlying96 npInfo rfl (by omega) _ rfl i (ptl N) bo (md_own R.out M3.out _) ⟨_, 0, none⟩ 1 1 [.pointer (some ⟨k, 0, none⟩)] rfl rfl (ptr_news _ _ _) (one_ptr k) hb1.out hb2.out ?_); intro v4 w4 bo4 HO HM HN
                 have A4 := Lib.hid (md_app R.out M3.out HO.out HM.out HN.out)
                 clear HO HM HN)
              | (go_at_call 52; refine (hSV.out _ _ M2.out hlf hhs).mono ?_; rintro e w3 ⟨⟨xs, rfl⟩, m3⟩
                 have M3 := Lib.hid m3
                 clear m3 y0 y1 y2 y3 y4 y5)
              | (go_at_call 50; refine hInn.out.mono ?_; rintro e w2 ⟨k, rfl, m2, b2⟩
                 have M2 := Lib.hid m2
                 have B2 := Lib.hid b2
                 obtain ⟨_, _, _, _, _, hbx, _, _⟩ := m2
                 obtain ⟨y0, y1, y2, y3, y4, y5⟩ := hbx.cells
                 rw [hlf] at y0
                 rw [hhs] at y2
                 clear b2 hbx))
            obtain ⟨g4, cap4, hv4, x1, x2, x3⟩ := hAc.out _ _ _ A4.out
            subst hv4
            have hSK := Lib.hid (hKd.out _ _ _ A4.out)
            go_region_with (first | (go_at_call 53; refine hSK.out.mono ?_; rintro e w5 ⟨⟨x, rfl⟩, hR5⟩; have R5 := Lib.hid hR5; clear hR5))
            all_goals (
              have R6 : Hid (∃ P I N Z bo, RwL w (parOf l) (.slice (some ⟨g4, 0, none⟩) (i + 1) cap4) (i + 1) (gnAll (l.take (i + 1))) w5 P I N Z bo) := by rw [hHn.out]; exact R5.out
              clear R5 hSK
              (try simp only [Exit.then, Exit.inBlock])
              go_wp2_with fail
              go_roundw
              case rel => exact ⟨i + 1, (by first | rfl | go_num), by omega, R6⟩
              case measure => (simp [intOf]) <;> omega)
          | false =>
            rw [hhs] at k2 hInn
            go_wp2_with (first
              | (at_builtin; go_loud (refine wpList_append_s rfl (.tmp 34) (.tmp 36) 96 rfl npT _ 1 8 Tryz.underlying96 npInfo rfl (by omega) _ rfl i (ptl N) bo (md_own R.out M3.out _) ⟨_, 0, none⟩ 1 1 [.pointer (some ⟨k, 0, none⟩)] rfl rfl (ptr_news _ _ _) (one_ptr k) hb1.out hb2.out ?_); intro v4 w4 bo4 HO HM HN
                 have A4 := Lib.hid (md_app R.out M3.out HO.out HM.out HN.out)
                 clear HO HM HN)
              | (go_at_call 50; refine hInn.out.mono ?_; rintro e w2 ⟨k, rfl, m2, b2⟩
                 have M2 := Lib.hid m2
                 have B2 := Lib.hid b2
                 obtain ⟨_, _, _, _, _, hbx, _, _⟩ := m2
                 obtain ⟨y0, y1, y2, y3, y4, y5⟩ := hbx.cells
                 rw [hlf] at y0
                 rw [hhs] at y2
                 have M3 := Lib.hid (md_none M2.out hlf hhs)
                 clear b2 hbx))
            obtain ⟨g4, cap4, hv4, x1, x2, x3⟩ := hAc.out _ _ _ A4.out
            subst hv4
            have hSK := Lib.hid (hKd.out _ _ _ A4.out)
            go_region_with (first | (go_at_call 53; refine hSK.out.mono ?_; rintro e w5 ⟨⟨x, rfl⟩, hR5⟩; have R5 := Lib.hid hR5; clear hR5))
            all_goals (
              have R6 : Hid (∃ P I N Z bo, RwL w (parOf l) (.slice (some ⟨g4, 0, none⟩) (i + 1) cap4) (i + 1) (gnAll (l.take (i + 1))) w5 P I N Z bo) := by rw [hHn.out]; exact R5.out
              clear R5 hSK
              (try simp only [Exit.then, Exit.inBlock])
              go_wp2_with fail
              go_roundw
              case rel => exact ⟨i + 1, (by first | rfl | go_num), by omega, R6⟩
              case measure => (simp [intOf]) <;> omega)
    · have hlt2 : ¬ (i : Int) < (n : Int) := by omega
      obtain rfl : i = n := by omega
      obtain ⟨g, cap, _, hv, hc, _⟩ := R.out.own.at_ (j := 0) (by omega)
      subst hv
      have hN : 0 < N.length := by rw [R.out.rs.lenN, R.out.len]; exact h0
      have hc0 : wr.cell? ⟨g, 0, none⟩ = some (ptv N 0) := by
        rw [hc]
        unfold ptl ptv
        rw [List.getElem?_map, List.getElem?_eq_getElem hN]
        simp [List.getD, List.getElem?_eq_getElem hN]
      have hi1 : (0 : Int) < (i : Int) := by omega
      have R6 : Hid (∃ P I N0 Z bo v, RwL w (parOf l) v i (gnAll l) wr P I N0 Z bo ∧ ptv N0 0 = ptv N 0) := by
        have := R.out
        rw [List.take_of_length_le (by rw [hl.out]; exact Nat.le_refl _)] at this
        exact ⟨_, _, _, _, _, _, this, rfl⟩
      clear hc R hN
      go_wp2_with fail
      go_ret
      obtain ⟨P, I, N0, Z, bo, v, q1, q2⟩ := R6.out
      unfold RawsPost
      exact ⟨_, P, I, N0, Z, bo, v, rfl, q1, q2⟩
end Go.Proofs.YtfhdiimcimafkaaGreatDoor
/- law CanonFine: the walk. -/
namespace Go.Proofs.YtfhdiimcimafkaaGreatDoor
open Go.RowKit
/-- what is said of a tree in later worlds -/
structure TSay (w : World) (v : Value) (f : Bool) (s : ByteArray) : Prop where
  fine : ∀ X, Below w.heap.size w X → Calls Tryz.prog 16 #[v] X (belowPost (.bool f) X)
  shape : ∀ X, Below w.heap.size w X → Calls Tryz.prog 15 #[v] X (belowPost (.string s) X)
theorem tsay_of {w0 w : World} {Q : List NP} {t : Tr} {p : Option Addr} (hP : PTab w) (hQ : StoreP NoB w0 w Q) (hT : TreeV Q t (.pointer p)) (hO : TOk t) (hway : tway t ≤ 7224) (hsz : tsz t ≤ 1152) (hn : t = .nil ∨ IsN t) : TSay w (.pointer p) (fineB t) ⟨(shpT t).toArray⟩ := by
  refine ⟨fun X hX => fine_any (hQ.below hX) hT hO (by omega) (by rw [tv_sz]; omega), fun X hX => canon_shape (hP.below hX) (hQ.below hX) hT hO ?_ (by omega)⟩
  have h := shp_len 7224 t hO hway
  have hc : (chain t).length = 0 := by
    rcases hn with rfl | hn
    · rfl
    · cases t <;> first | rfl | exact hn.elim
  have : tsz t * (2 * 7224 + 900) ≤ 1152 * (2 * 7224 + 900) := Nat.mul_le_mul_right _ hsz
  omega
/-- the told tree, its canonical one -/
theorem raws_say {w w1 : World} {par : Nat → Nat} {v0 : Value} {n : Nat} {G : List GN} {P : List NP} {I N : List Nat} {Z : Nat → Prop} {bo : Option Nat} {k : Nat} (hP : PTab w) (h0 : 0 < n) (h24 : n ≤ 24) (h : RwL w par v0 n G w1 P I N Z bo) (hk : ptv N 0 = .pointer (some ⟨k, 0, none⟩)) :
    ∃ T, Below w.heap.size w w1 ∧ TSay w1 (.pointer (some ⟨k, 0, none⟩)) (fineB T) ⟨(shpT T).toArray⟩ ∧ (∀ X, Below w1.heap.size w1 X → Calls Tryz.prog 19 #[.pointer (some ⟨k, 0, none⟩)] X (prsPost (tl T) X)) ∧
      ∀ X b m, Below w1.heap.size w1 X → Prs X b (tl T).length m (tl T) → Calls Tryz.prog 10 #[.pointer none, .int .u64 2, .slice b (tl T).length m] X fun e X' => ∃ v s, e = .returned (.tuple #[v, .int .i64 0]) ∧ Below X.heap.size X X' ∧ TSay X' v true s ∧ fineB T = decide ((⟨(shpT T).toArray⟩ : ByteArray) = s) := by
  have hI := raws_tree h.rs h.ok n 0 (by rw [h.len]; omega) (by rw [h.len]; exact h0)
  have hN : IsN (gtr G n 0) := gtr_isN h0 (by rw [h.len]; exact h0)
  have hO : TOk (gtr G n 0) := gtr_ok h.ok n 0 (by rw [h.len]; omega)
  have hW : tway (gtr G n 0) ≤ 7224 := by have := gtr_way h.ok n 0; omega
  have hS : tsz (gtr G n 0) ≤ 576 := by
    have := gtr_sz h.ok n [0] (by simp) (by simp [h.len]; exact h0)
    simp only [List.map_cons, List.map_nil, sumN, List.foldr_cons, List.foldr_nil, h.len] at this
    have h2 : n * n ≤ 24 * 24 := Nat.mul_le_mul h24 h24
    omega
  rw [hk] at hI
  generalize gtr G n 0 = T at *
  have hB := h.st.toP.below_
  have hT : TreeV P T (.pointer (some ⟨k, 0, none⟩)) := Or.inr ⟨hN, hI⟩
  have hL := tl_sz T
  refine ⟨T, hB, tsay_of (hP.below hB) h.st.toP hT hO hW (by omega) (Or.inr hN), fun X hX => list_any (h.st.toP.below hX) hT hO (by omega) (by omega), fun X b m hX hp => ?_⟩
  refine (canon_build 2 (by omega) X b _ m (tl T) hp (tl_srt T hO) (fun p hp => by have := key_way' T p hp; omega)).mono ?_
  rintro e X' ⟨c, v, Q, rfl, q2, q3, q4, q5, q6⟩
  have hcn : c = .nil ∨ IsN c := by
    rcases q3 with ⟨e, _⟩ | ⟨e, _⟩
    · exact Or.inl e
    · exact Or.inr e
  have hcw : tway c ≤ 7224 := way_key c 7224 q4 q5 (fun p hp => by rw [q6] at hp; have := key_way' T p hp; omega)
  have hcs : tsz c ≤ 1152 := by
    rcases hcn with rfl | hc
    · exact Nat.zero_le _
    · have := (can_sz c q4 q5).1 hc
      rw [q6] at this; omega
  have hf : fineB c = true := (fine_can c [] q4 (by simp; omega)).2 q5
  have hs := tsay_of ((hP.below hB).below (hX.trans (q2.below_.mono hX.size))) q2 q3 q4 hcw hcs hcn
  rw [hf] at hs
  refine ⟨_, _, rfl, q2.below_, hs, ?_⟩
  rw [fine_shape hN hcn hO q4 q5 q6 (by omega)]
  congr 1
  apply propext
  constructor
  · intro e; rw [e]
  · intro e
    have := congrArg (fun x : ByteArray => x.data.toList) e
    simpa using this
end Go.Proofs.YtfhdiimcimafkaaGreatDoor
/- law CanonFine: the walk. -/
namespace Go.Proofs.YtfhdiimcimafkaaGreatDoor
open Go.RowKit
abbrev rw0 : RW := ⟨false, [], false, 0, 0, 0⟩
def RW.ok8 (r : RW) : Prop := (∀ x ∈ r.bs, x < 256) ∧ 0 ≤ r.val ∧ r.val < 18446744073709551616 ∧ r.up < 256 ∧ r.b < 256
theorem ok_all {l : List RW} {n : Nat} (hn : l.length = n) (h : ∀ r ∈ l, r.ok8) (hl : ∀ j, j < n → (l.getD j rw0).bs.length ≤ 300) : ∀ r ∈ l, r.ok := fun r hr => by
  obtain ⟨j, hj, rfl⟩ := List.getElem_of_mem hr
  obtain ⟨h1, h2, h3, h4, h5⟩ := h _ hr
  have := hl j (by omega)
  rw [show l.getD j rw0 = l[j] by simp [List.getD, List.getElem?_eq_getElem hj]] at this
  exact ⟨h1, this, h2, h3, h4, h5⟩
end Go.Proofs.YtfhdiimcimafkaaGreatDoor
/- Rows of canon's laws: told nodes that come in. -/
namespace Go.Proofs.YtfhdiimcimafkaaGreatDoor
open Go.ChangeShapes Go.WideShapes Go.ChangeAt Go.RowKit
section
variable {H : Type} {enc : TypeId × Value → H} {w : World} {base : Nat} {held : Bool}
/-- a slice of bytes that came in, by its cell -/
theorem open_slc2 {v : Value} {fuel : Nat} {x : DataW H × List MemPlace} (h : DataW.trod enc Tryz.prog w base (fun _ => true) held fuel 38 [v] = some x) :
    ∃ a n c bs, v = .slice a n c ∧ Sl w a n c bs := by
  rcases open_ints Tryz.underlying38 Tryz.underlying5 (by kernel_rfl) h with ⟨e, _⟩ | ⟨a, l, c, zs, e, _, hl, hm, hlen, _, hcell, hw⟩
  · obtain rfl : v = .slice none 0 0 := by simpa using e
    exact ⟨none, 0, 0, [], rfl, sl_nil w⟩
  · obtain rfl : v = .slice (some a) l c := by simpa using e
    have hlen' : zs.length = c := by simpa using hlen
    refine ⟨some a, l, c, (zs.take l).map Int.toNat, rfl, by simp; omega, ⟨?_, ?_⟩, hl, hm, fun e => by cases e⟩
    · intro y hy
      obtain ⟨n, hn, rfl⟩ := List.mem_map.1 hy
      have := wf_u8 (hw n (List.mem_of_mem_take hn))
      omega
    · intro i hi
      have hi' : i < l := by simp at hi; omega
      have hz : i < zs.length := by omega
      have hc := hcell i hz
      have hn := wf_u8 (hw zs[i] (List.getElem_mem _))
      have e : zs.getD i 0 = ((((zs.take l).map Int.toNat).getD i 0 : Nat) : Int) := by
        simp [List.getD, List.getElem?_take, hi', hz]
        omega
      refine ⟨a, rfl, cell_lt hc, ?_⟩
      rw [hc, e]
theorem rw_len : Tryz.prog.cellsOf rwT = 6 := by kernel_rfl
theorem c1_bool : Tryz.prog.cellsOf 4 = 1 := by kernel_rfl
theorem c1_sl : Tryz.prog.cellsOf 38 = 1 := by kernel_rfl
theorem c1_u64 : Tryz.prog.cellsOf 30 = 1 := by kernel_rfl
theorem c1_u8 : Tryz.prog.cellsOf 5 = 1 := by kernel_rfl
set_option maxRecDepth 100000 in
/-- told nodes that came in -/
theorem open_rws {v : Value} {d : DataW H} {ps : List MemPlace} (h : DataW.Trod enc Tryz.prog w base (fun _ => true) held 43 v d ps) (hv : Value.okWide Tryz.prog w .any base 43 v) :
    ∃ a n c l, v = .slice a n c ∧ Rws w a n c l ∧ ∀ r ∈ l, r.ok8 := by
  obtain ⟨a0, n0, c0, rfl⟩ := okWide_slice Tryz.underlying43 hv
  obtain ⟨fuel, h⟩ := h
  have h : DataW.trod enc Tryz.prog w base (fun _ => true) held fuel 43 [.slice a0 n0 c0] = some (d, ps) := h
  rcases Go.Deep.open_slice Tryz.underlying43 h with ⟨e, _⟩ | ⟨a, len, cap, m, n, D, Pl, e, hb, hl, hm, hmm, _, hx⟩
  · obtain ⟨rfl, rfl, rfl⟩ : a0 = none ∧ n0 = 0 ∧ c0 = 0 := by simpa using e
    exact ⟨none, 0, 0, [], rfl, ⟨rfl, Nat.le_refl _, Nat.zero_le _, fun i hi => by simp at hi⟩, by simp⟩
  · obtain ⟨rfl, rfl, rfl⟩ : a0 = some a ∧ n0 = len ∧ c0 = cap := by simpa using e
    have hlm : n0 ≤ m := by rw [hmm]; simp only [if_true]; exact hl
    have key : ∀ i, i < n0 → ∃ r : RW, r.ok8 ∧ RwC w a i r := fun i hi => by
      obtain ⟨cs', h1, h2⟩ := hx i (by omega)
      rw [rw_len] at h1
      obtain ⟨_, hlen, hcell⟩ := World.cells?_some h1
      obtain ⟨xs, k, _, _, _, hxl, hf⟩ := DataW.trod_struct Tryz.underlying49 h2
      match xs, hxl, cs', hlen, hcell, hf with
      | [y0, y1, y2, y3, y4, y5], _, [v0, v1, v2, v3, v4, v5], _, hcell, hf =>
        have g0 : DataW.trod enc Tryz.prog w base (fun _ => true) held k 4 [v0] = some y0 := by have := hf 0 _ rfl; simpa [c1_bool] using this
        have g1 : DataW.trod enc Tryz.prog w base (fun _ => true) held k 38 [v1] = some y1 := by have := hf 1 _ rfl; simpa [c1_sl] using this
        have g2 : DataW.trod enc Tryz.prog w base (fun _ => true) held k 4 [v2] = some y2 := by have := hf 2 _ rfl; simpa [c1_bool] using this
        have g3 : DataW.trod enc Tryz.prog w base (fun _ => true) held k 30 [v3] = some y3 := by have := hf 3 _ rfl; simpa [c1_u64] using this
        have g4 : DataW.trod enc Tryz.prog w base (fun _ => true) held k 5 [v4] = some y4 := by have := hf 4 _ rfl; simpa [c1_u8] using this
        have g5 : DataW.trod enc Tryz.prog w base (fun _ => true) held k 5 [v5] = some y5 := by have := hf 5 _ rfl; simpa [c1_u8] using this
        have hadd : ∀ j, (a.add (i * 6)).add j = if j = 0 then a.add (i * 6) else (a.add (i * 6)).add j := fun j => by
          split
          · rename_i e; subst e; simp [Addr.add]
          · rfl
        have e0 : w.cell? (a.add (i * 6)) = some v0 := by have := hcell 0 (by omega); rw [hadd 0, if_pos rfl] at this; simpa using this
        have e1 : w.cell? ⟨(a.add (i * 6)).block, (a.add (i * 6)).off + 1, none⟩ = some v1 := by have := hcell 1 (by omega); rw [show (a.add (i * 6)).add 1 = ⟨(a.add (i * 6)).block, (a.add (i * 6)).off + 1, none⟩ by simp [Addr.add]] at this; simpa using this
        have e2 : w.cell? ⟨(a.add (i * 6)).block, (a.add (i * 6)).off + 2, none⟩ = some v2 := by have := hcell 2 (by omega); rw [show (a.add (i * 6)).add 2 = ⟨(a.add (i * 6)).block, (a.add (i * 6)).off + 2, none⟩ by simp [Addr.add]] at this; simpa using this
        have e3 : w.cell? ⟨(a.add (i * 6)).block, (a.add (i * 6)).off + 3, none⟩ = some v3 := by have := hcell 3 (by omega); rw [show (a.add (i * 6)).add 3 = ⟨(a.add (i * 6)).block, (a.add (i * 6)).off + 3, none⟩ by simp [Addr.add]] at this; simpa using this
        have e4 : w.cell? ⟨(a.add (i * 6)).block, (a.add (i * 6)).off + 4, none⟩ = some v4 := by have := hcell 4 (by omega); rw [show (a.add (i * 6)).add 4 = ⟨(a.add (i * 6)).block, (a.add (i * 6)).off + 4, none⟩ by simp [Addr.add]] at this; simpa using this
        have e5 : w.cell? ⟨(a.add (i * 6)).block, (a.add (i * 6)).off + 5, none⟩ = some v5 := by have := hcell 5 (by omega); rw [show (a.add (i * 6)).add 5 = ⟨(a.add (i * 6)).block, (a.add (i * 6)).off + 5, none⟩ by simp [Addr.add]] at this; simpa using this
        obtain ⟨b0, q0, _⟩ := DataW.trod_bool Tryz.underlying4 g0
        obtain ⟨b2, q2, _⟩ := DataW.trod_bool Tryz.underlying4 g2
        obtain ⟨z3, q3, _, w3⟩ := DataW.trod_int Tryz.underlying30 g3
        obtain ⟨z4, q4, _, w4⟩ := DataW.trod_int Tryz.underlying5 g4
        obtain ⟨z5, q5, _, w5⟩ := DataW.trod_int Tryz.underlying5 g5
        obtain ⟨b, k1, c, bs, q1, s1⟩ := open_slc2 g1
        obtain rfl : v0 = .bool b0 := by simpa using q0
        obtain rfl : v2 = .bool b2 := by simpa using q2
        obtain rfl : v3 = .int .u64 z3 := by simpa using q3
        obtain rfl : v4 = .int .u8 z4 := by simpa using q4
        obtain rfl : v5 = .int .u8 z5 := by simpa using q5
        subst q1
        have r3 := wf_u64 w3
        have r4 := wf_u8 w4
        have r5 := wf_u8 w5
        refine ⟨⟨b0, bs, b2, z3, z4.toNat, z5.toNat⟩, ⟨s1.at_.1, r3.1, by show z3 < _; omega, by show z4.toNat < _; omega, by show z5.toNat < _; omega⟩, b, k1, c, e0, e1, e2, e3, ?_, ?_, s1⟩
        · rw [e4]; show some (Value.int .u8 z4) = some (.int .u8 ((z4.toNat : Nat) : Int)); rw [Int.toNat_of_nonneg r4.1]
        · rw [e5]; show some (Value.int .u8 z5) = some (.int .u8 ((z5.toNat : Nat) : Int)); rw [Int.toNat_of_nonneg r5.1]
    haveI : Inhabited RW := ⟨rw0⟩
    obtain ⟨f, hf⟩ := Go.Deep.choose_lt key
    have hget : ∀ i, i < n0 → ((List.range n0).map f).getD i rw0 = f i := fun i hi => by
      rw [List.getD_eq_getElem?_getD, List.getElem?_eq_getElem (by simpa using hi)]; simp
    refine ⟨some a, n0, c0, (List.range n0).map f, rfl, ⟨by simp, hl, hm, fun i hi => ⟨a, rfl, ?_⟩⟩, fun r hr => ?_⟩
    · have hi' : i < n0 := by simpa using hi
      have := (hf i hi').2
      rw [← hget i hi'] at this
      exact this
    · obtain ⟨i, hi, rfl⟩ := List.mem_map.1 hr
      exact (hf i (List.mem_range.1 hi)).1
end
end Go.Proofs.YtfhdiimcimafkaaGreatDoor
/- The document's Sorted and Check; the law's same. -/
namespace Go.Proofs.YtfhdiimcimafkaaGreatDoor
open Go.RowKit
set_option maxHeartbeats 1000000 in
set_option maxRecDepth 100000 in
theorem ref_sorted (w : World) (a : Option Addr) (n c : Nat) (l : PL) (h : Prs w a n c l) : Calls Tryz.prog 57 #[.slice a n c] w (drewPost (.bool (srtB l)) w) := by
  have H := Lib.hid h
  obtain ⟨V, hV⟩ : ∃ V, V = srtB l := ⟨_, rfl⟩
  have HV := Lib.hid hV
  have hl := Lib.hid h.len
  have hn : n ≤ 9223372036854775807 := Nat.le_trans h.cap h.capm
  rw [← hV]
  clear h hV
  go_enter Tryz.func57, Tryz.ntmps57
  go_wp2_with fail
  go_loopw [3] (fun vi wr => ∃ i : Nat, vi = .int .i64 (i : Nat) ∧ 1 ≤ i ∧ i ≤ n + 1 ∧ Hid (∀ j, j + 1 < i → j + 1 < n → slt (l.getD j ([], 0)).1 (l.getD (j + 1) ([], 0)).1) ∧ Hid (∃ k, wr = w.drewN k)) (fun vi _ => (n + 1 - intOf vi).toNat)
  case atStart => exact ⟨1, rfl, by omega, by omega, fun j hj => absurd hj (by omega), 0, rfl⟩
  case round =>
    obtain ⟨i, rfl, hi1, hi2, hA, hw⟩ := hrel
    by_cases hlt : i < n
    · have hlt2 : (i : Int) < (n : Int) := by omega
      obtain ⟨j, rfl⟩ : ∃ j, i = j + 1 := ⟨i - 1, by omega⟩
      have HP : Hid (Prs wr a n c l) := by
        obtain ⟨k, rfl⟩ := hw.out
        exact H.out.drewN k
      obtain ⟨p, rfl, q⟩ := HP.out.at_ (j + 1) (by rw [hl.out]; exact hlt)
      obtain ⟨p', hp', q'⟩ := HP.out.at_ j (by rw [hl.out]; omega)
      obtain rfl : p = p' := by simpa using hp'
      obtain ⟨a3, n3, c3, q1, q2, q3⟩ := q.cells
      obtain ⟨a4, n4, c4, q4, q5, q6⟩ := q'.cells
      have hw0 : IntKind.i64.wrap (((j + 1 : Nat) : Int) - 1) = (j : Nat) := by rw [show ((j + 1 : Nat) : Int) - 1 = (j : Nat) by omega]; exact IntWalk.i64_in _ (by omega)
      have hw8 : (0 : Int) ≤ (j : Nat) := by omega
      have hw7 : ((j : Nat) : Int) < (n : Int) := by omega
      have hw9 : IntKind.i64.wrap (((j + 1 : Nat) : Int) + 1) = ((j + 1 + 1 : Nat) : Int) := by rw [show ((j + 1 : Nat) : Int) + 1 = ((j + 1 + 1 : Nat) : Int) by omega]; exact IntWalk.i64_in _ (by omega)
      have hC : Hid (∀ k, Calls Tryz.prog 31 #[.slice a4 n4 c4, .slice a3 n3 c3] (wr.drewN k) fun e w' => e = .returned (.int .i64 (bcmp (l.getD j ([], 0)).1 (l.getD (j + 1) ([], 0)).1)) ∧ ∃ p, w' = (wr.drewN k).drewN p) := fun k => quiet_cmp q6 q3 k
      clear q q' q2 q5 q3 q6 hp'
      by_cases hx : slt (l.getD j ([], 0)).1 (l.getD (j + 1) ([], 0)).1
      · have hA2 : Hid (∀ j', j' + 1 < j + 1 + 1 → j' + 1 < n → slt (l.getD j' ([], 0)).1 (l.getD (j' + 1) ([], 0)).1) := fun j' h1 h2 => by
          by_cases e : j' = j
          · subst e; exact hx
          · exact hA.out j' (by omega) h2
        have hx2 := bcmp_neg.2 hx
        have hx3 : ¬ 0 ≤ bcmp (l.getD j ([], 0)).1 (l.getD (j + 1) ([], 0)).1 := by omega
        generalize bcmp (l.getD j ([], 0)).1 (l.getD (j + 1) ([], 0)).1 = V' at *
        clear hx hA
        go_wp2_with fail
        go_quiet ((go_at_call 31; exact Calls.quiet_of (hC.out _)))
        go_wp2_with fail
        go_roundw
        case rel => exact ⟨j + 1 + 1, (by first | rfl | go_num), by omega, by omega, hA2, by obtain ⟨k, rfl⟩ := hw.out; exact ⟨k + nq, by simp⟩⟩
        case measure => (simp [intOf]) <;> omega
      · have hR : Hid (false = V) := by
          show _ = _
          rw [HV.out]
          cases e : srtB l with
          | false => rfl
          | true => exact absurd (srtB_iff.1 e j (by rw [hl.out]; exact hlt)) hx
        have hx2 : ¬ bcmp (l.getD j ([], 0)).1 (l.getD (j + 1) ([], 0)).1 < 0 := fun q => hx (bcmp_neg.1 q)
        have hx3 : 0 ≤ bcmp (l.getD j ([], 0)).1 (l.getD (j + 1) ([], 0)).1 := by omega
        generalize bcmp (l.getD j ([], 0)).1 (l.getD (j + 1) ([], 0)).1 = V' at *
        clear hx hx2 hA
        go_wp2_with fail
        go_quiet ((go_at_call 31; exact Calls.quiet_of (hC.out _)))
        go_wp2_with fail
        go_ret
        rw [← hR.out]
        exact ⟨rfl, by obtain ⟨k, rfl⟩ := hw.out; exact ⟨k + nq, by simp⟩⟩
    · have hlt2 : ¬ (i : Int) < (n : Int) := by omega
      have hR : Hid (true = V) := by
        show _ = _
        rw [HV.out]
        refine (srtB_iff.2 fun j hj => hA.out j ?_ ?_).symm
        · rw [hl.out] at hj; omega
        · rw [hl.out] at hj; exact hj
      clear hA
      go_wp2_with fail
      go_ret
      rw [← hR.out]
      exact ⟨rfl, hw.out⟩
set_option maxHeartbeats 1000000 in
/-- the document's Check of pairs that are not too long -/
theorem ref_check (w : World) (a : Option Addr) (n c : Nat) (l : PL) (h : Prs w a n c l) (hk : ∀ x ∈ l, x.1.length ≤ 65535) : Calls Tryz.prog 27 #[.slice a n c] w (belowPost (.int .i64 (chkE l)) w) := by
  have H := Lib.hid h
  have hl := Lib.hid h.len
  have hn : n ≤ 9223372036854775807 := Nat.le_trans h.cap h.capm
  have hB0 : Hid (Below w.heap.size w w) := Below.refl _ _
  have hkk : Hid (∀ j, j < n → (l.getD j ([], 0)).1.length ≤ 65535) := fun j hj => hk _ (mem_getD (by rw [h.len]; exact hj))
  have hV : chkE l = if srtB l then 0 else 12 := by
    unfold chkE
    rw [farL_no (fun i hi => hk _ (mem_getD hi))]
    rfl
  rw [hV]
  obtain ⟨V, hV2⟩ : ∃ V : Int, V = if srtB l then 0 else 12 := ⟨_, rfl⟩
  rw [← hV2]
  have HV := Lib.hid hV2
  clear h hV hV2 hk
  go_enter Tryz.func27, Tryz.ntmps27
  go_wp2_with fail
  go_loopw [3] (fun vi wr => ∃ i : Nat, vi = .int .i64 (i : Nat) ∧ i ≤ n ∧ Hid (Below w.heap.size w wr)) (fun vi _ => (n - intOf vi).toNat)
  case atStart => exact ⟨0, rfl, by omega, hB0⟩
  case round =>
    clear hB0
    obtain ⟨i, rfl, hi, hB⟩ := hrel
    by_cases hlt : i < n
    · have hlt2 : (i : Int) < (n : Int) := by omega
      have hi0 : (0 : Int) ≤ (i : Int) := by omega
      obtain ⟨p, rfl, q⟩ := (H.out.below hB.out).at_ i (by rw [hl.out]; exact hlt)
      obtain ⟨a3, n3, c3, q1, q2, q3⟩ := q.cells
      have hl3 := q3.len
      have hl4 := hkk.out i hlt
      have hx : ¬ (65535 : Int) < (n3 : Int) := by omega
      have hw9 : IntKind.i64.wrap (((i : Nat) : Int) + 1) = ((i + 1 : Nat) : Int) := by rw [show ((i : Nat) : Int) + 1 = ((i + 1 : Nat) : Int) by omega]; exact IntWalk.i64_in _ (by omega)
      generalize (l.getD i ([], 0)).2 = v at *
      clear q q3 hl3 hl4
      go_wp2_with fail
      go_roundw
      case rel => exact ⟨i + 1, (by first | rfl | go_num), by omega, hB⟩
      case measure => (simp [intOf]) <;> omega
    · have hlt2 : ¬ (i : Int) < (n : Int) := by omega
      have hS := Lib.hid (ref_sorted wr a n c l (H.out.below hB.out))
      have hBd : Hid (∀ k, Below w.heap.size w (wr.drewN k)) := fun k => below_drewN hB.out k
      cases hs : srtB l with
      | true =>
        rw [hs] at hS
        have hR : Hid (V = 0) := by show _ = _; rw [HV.out, hs]; rfl
        go_wp2_with (go_at_call 57; refine hS.out.mono ?_; rintro e w' ⟨rfl, k, rfl⟩)
        go_ret
        rw [hR.out]
        exact ⟨rfl, hBd.out k⟩
      | false =>
        rw [hs] at hS
        have hR : Hid (V = 12) := by show _ = _; rw [HV.out, hs]; rfl
        go_wp2_with (go_at_call 57; refine hS.out.mono ?_; rintro e w' ⟨rfl, k, rfl⟩)
        go_ret
        rw [hR.out]
        exact ⟨rfl, hBd.out k⟩
set_option maxHeartbeats 2000000 in
set_option maxRecDepth 100000 in
/-- the same pairs, twice -/
theorem same_13 (w : World) (a : Option Addr) (n c : Nat) (b : Option Addr) (d : Nat) (l : PL) (h : Prs w a n c l) (h' : Prs w b n d l) : Calls Tryz.prog 24 #[.slice a n c, .slice b n d] w (belowPost (.bool true) w) := by
  have H := Lib.hid h
  have H' := Lib.hid h'
  have hl := Lib.hid h.len
  have hn : n ≤ 9223372036854775807 := Nat.le_trans h.cap h.capm
  clear h h'
  go_enter Tryz.func24, Tryz.ntmps24
  go_wp2_with fail
  go_loopw [13] (fun vi wr => ∃ i : Nat, vi = .int .i64 (i : Nat) ∧ i ≤ n ∧ Hid (∃ k, wr = w.drewN k)) (fun vi _ => (n - intOf vi).toNat)
  case atStart => exact ⟨0, rfl, by omega, 0, rfl⟩
  case round =>
    obtain ⟨i, rfl, hi, hw⟩ := hrel
    by_cases hlt : i < n
    · have hlt2 : (i : Int) < (n : Int) := by omega
      have hi0 : (0 : Int) ≤ (i : Int) := by omega
      have HP : Hid (Prs wr a n c l ∧ Prs wr b n d l) := by
        obtain ⟨k, rfl⟩ := hw.out
        exact ⟨H.out.drewN k, H'.out.drewN k⟩
      obtain ⟨p, rfl, q⟩ := HP.out.1.at_ i (by rw [hl.out]; exact hlt)
      obtain ⟨p', rfl, q'⟩ := HP.out.2.at_ i (by rw [hl.out]; exact hlt)
      obtain ⟨a3, n3, c3, q1, q2, q3⟩ := q.cells
      obtain ⟨a4, n4, c4, q4, q5, q6⟩ := q'.cells
      have hC : Hid (∀ k, Calls Tryz.prog 14 #[.slice a3 n3 c3, .slice a4 n4 c4] (wr.drewN k) fun e w' => e = .returned (.bool true) ∧ ∃ p, w' = (wr.drewN k).drewN p) := fun k => by
        have := quiet_same q3 q6 k
        rwa [decide_eq_true rfl] at this
      have hw9 : IntKind.i64.wrap (((i : Nat) : Int) + 1) = ((i + 1 : Nat) : Int) := by rw [show ((i : Nat) : Int) + 1 = ((i + 1 : Nat) : Int) by omega]; exact IntWalk.i64_in _ (by omega)
      generalize (l.getD i ([], 0)).2 = v at *
      clear q q' q3 q6
      go_wp2_with fail
      go_quiet ((go_at_call 14; exact Calls.quiet_of (hC.out _)))
      go_wp2_with fail
      go_roundw
      case rel => exact ⟨i + 1, (by first | rfl | go_num), by omega, by obtain ⟨k, rfl⟩ := hw.out; exact ⟨k + nq, by simp⟩⟩
      case measure => (simp [intOf]) <;> omega
    · have hlt2 : ¬ (i : Int) < (n : Int) := by omega
      go_wp2_with fail
      go_ret
      obtain ⟨k, rfl⟩ := hw.out
      exact ⟨rfl, below_drewN (Below.refl _ _) k⟩
end Go.Proofs.YtfhdiimcimafkaaGreatDoor
/- The document's Fine of a tree. -/
namespace Go.Proofs.YtfhdiimcimafkaaGreatDoor
open Go.RowKit
/-- whether a tree is canonical -/
def canB : Tr → Bool
  | .nil => true
  | .kid _ t r => canB t && canB r
  | .node _ _ has leaf ks => canB ks && (leaf || decide (2 ≤ (if has then 1 else 0) + (chain ks).length))
theorem canB_iff : ∀ t : Tr, canB t = true ↔ Can t
  | .nil => by simp [canB, Can]
  | .kid b t r => by simp only [canB, Can, Bool.and_eq_true, canB_iff t, canB_iff r]
  | .node bs v has leaf ks => by
    simp only [canB, Can, Bool.and_eq_true, canB_iff ks, Bool.or_eq_true, decide_eq_true_eq]
    cases leaf <;> simp
def FnAsk (N : Nat) : Prop := ∀ (bs : List Nat) (v : Int) (has leaf : Bool) (ks : Tr) (c : List Value) {w : World} {G : Nat → Prop}, tdep (.node bs v has leaf ks) ≤ N → RT w G (.node bs v has leaf ks) none 0 c → (∀ j, G j → j < w.heap.size) → TOk (.node bs v has leaf ks) → tdep (.node bs v has leaf ks) ≤ 1000000 → Calls Tryz.prog 26 #[.agg c.toArray] w (belowPost (.bool (canB (.node bs v has leaf ks))) w)
theorem canB_drop {L : List (Nat × Tr)} {i : Nat} {x : Nat × Tr} (h : L[i]? = some x) : canB (ofL (L.drop i)) = (canB x.2 && canB (ofL (L.drop (i + 1)))) := by
  have hi : i < L.length := (List.getElem?_eq_some_iff.1 h).1
  have e : L[i] = x := (List.getElem?_eq_some_iff.1 h).2
  rw [List.drop_eq_getElem_cons hi, e]; rfl
theorem tdep_ofL2 : ∀ {L : List (Nat × Tr)} {x : Nat × Tr}, x ∈ L → tdep x.2 ≤ tdep (ofL L)
  | y :: L, x, h => by
    show _ ≤ max (tdep y.2) (tdep (ofL L))
    rcases List.mem_cons.1 h with rfl | h
    · omega
    · have := tdep_ofL2 h; omega
set_option maxHeartbeats 4000000 in
set_option maxRecDepth 100000 in
theorem fn_in (N : Nat) (IH : FnAsk N) (bs : List Nat) (v : Int) (has leaf : Bool) (ks : Tr) (c : List Value) {w : World} {G : Nat → Prop} (hdp : tdep ks ≤ N) (hR : RT w G (.node bs v has leaf ks) none 0 c) (hG : ∀ j, G j → j < w.heap.size) (hO : TOk (.node bs v has leaf ks)) (hD : tdep (.node bs v has leaf ks) ≤ 1000000) :
    Calls Tryz.prog 26 #[.agg c.toArray] w (belowPost (.bool (canB (.node bs v has leaf ks))) w) := by
  obtain ⟨pa, pn, pc, ba, bn, bc, ka, rn, kc, rfl, h2, h3, rfl, h5, h6⟩ := hR
  obtain ⟨o1, o2, o3, o4, o5, o6, o7⟩ := hO
  have hR6 := rt_chain h6 o6 o7
  have hke := ofL_chain ks o6 o7
  obtain ⟨L, hL⟩ : ∃ L, L = chain ks := ⟨_, rfl⟩
  rw [← hL] at hR6 hke ⊢
  obtain ⟨m, hm⟩ : ∃ m, m = L.length := ⟨_, rfl⟩
  rw [← hm]
  have hm2 : m ≤ 256 := by have := chain256 o6 o7; rw [← hL, ← hm] at this; exact this
  have hT : canB (.node bs v has leaf ks) = (canB ks && (leaf || decide (2 ≤ (if has then 1 else 0) + m))) := by rw [hm, hL]; rfl
  rw [hT]
  have hkd : (leaf = true ∧ rkind leaf ks = 1 ∧ m = 0) ∨ (leaf = false ∧ 1 < rkind leaf ks) := by
    cases leaf with
    | true => exact Or.inl ⟨rfl, rfl, by rw [hm, hL, (o5 rfl).2]; rfl⟩
    | false => exact Or.inr ⟨rfl, by unfold rkind kindOf; simp; split <;> (try split) <;> (try split) <;> omega⟩
  show Calls _ _ #[.agg #[.int .i64 ((rkind leaf ks : Nat) : Int), .slice pa pn pc, .bool has, .int .u64 v, .slice ba bn bc, .slice ka m kc]] _ _
  obtain ⟨KD, hKD⟩ : ∃ x : Int, x = ((rkind leaf ks : Nat) : Int) := ⟨_, rfl⟩
  rw [← hKD]
  obtain ⟨V, hV⟩ : ∃ V, V = canB ks := ⟨_, rfl⟩
  rw [← hV]
  have HS : Hid (canB (ofL (L.drop 0)) = V) := by show _ = _; rw [List.drop_zero, hke, hV]
  have HOL : Hid (TOk (ofL L)) := by rw [hke]; exact o7
  have HdL : Hid (tdep (ofL L) ≤ N ∧ tdep (ofL L) ≤ 1000000) := by rw [hke]; exact ⟨hdp, by simp only [tdep] at hD; omega⟩
  have H6 := Lib.hid hR6
  have HG := Lib.hid hG
  have HIH := Lib.hid IH
  have hmL := Lib.hid (fun (_ : Unit) => hm)
  obtain ⟨wb, hwb⟩ : ∃ wb, wb = w.alloc (.cells #[.int .i64 KD, .slice pa pn pc, .bool has, .int .u64 v, .slice ba bn bc, .slice ka m kc] rnT) := ⟨_, rfl⟩
  have hbox : wb.heap[w.heap.size]? = some (.cells [.int .i64 KD, .slice pa pn pc, .bool has, .int .u64 v, .slice ba bn bc, .slice ka m kc].toArray rnT (0, 0)) := by rw [hwb]; exact six_new w _ _ _ _ _ _ rnT
  have hB : Hid (Below w.heap.size w wb) := by rw [hwb]; exact below_al w _
  have hall : Hid (∀ X, Below wb.heap.size wb X → X.cell? ⟨w.heap.size, 0, none⟩ = some (.int .i64 KD) ∧ X.cell? ⟨w.heap.size, 2, none⟩ = some (.bool has) ∧ X.cell? ⟨w.heap.size, 5, none⟩ = some (.slice ka m kc)) := fun X hb => by
    obtain ⟨x0, x1, x2, x3, x4, x5, _⟩ := six_facts ((hb.block w.heap.size (Array.getElem?_eq_some_iff.1 hbox).1).trans hbox)
    exact ⟨x0, x2, x5⟩
  obtain ⟨x0, x2, x5⟩ := hall.out wb (Below.refl _ _)
  have hpre : (leaf || decide (2 ≤ (if has then 1 else 0) + m)) = false ∨ (leaf || decide (2 ≤ (if has then 1 else 0) + m)) = true := by cases (leaf || decide (2 ≤ (if has then 1 else 0) + m)) <;> simp
  have hrk : (leaf = true ∧ KD = 1 ∧ m = 0) ∨ (leaf = false ∧ 1 < KD) := by
    rcases hkd with ⟨a, b, c⟩ | ⟨a, b⟩
    · exact Or.inl ⟨a, by rw [hKD, b]; rfl, c⟩
    · exact Or.inr ⟨a, by rw [hKD]; exact Int.ofNat_lt.2 b⟩
  clear h2 h3 h5 h6 o1 o2 o3 o4 o5 o6 o7 hR6 hke hL hkd hKD hdp hD hV hT IH hG hm hbox
  rcases hpre with hpr | hpr
  · rw [hpr, Bool.and_false]
    rcases hrk with ⟨rfl, _, _⟩ | ⟨rfl, hKD⟩
    · simp at hpr
    · have h1 : ¬ 2 ≤ (if has = true then 1 else 0) + m := by simpa using hpr
      have hm' : m = 0 ∨ (m = 1 ∧ has = false) := by
        cases has with
        | true =>
          have h2 : ¬ 2 ≤ 1 + m := h1
          exact Or.inl (by omega)
        | false =>
          have h2 : ¬ 2 ≤ 0 + m := h1
          by_cases e : m = 0
          · exact Or.inl e
          · exact Or.inr ⟨by omega, rfl⟩
      clear h1
      clear hpr
      rcases hm' with rfl | ⟨rfl, rfl⟩
      · go_enter Tryz.func26, Tryz.ntmps26
        go_upto_region 1 with fail
        rw [← hwb]
        clear hwb
        go_wp2_with fail
        go_ret
        exact ⟨rfl, hB.out⟩
      · go_enter Tryz.func26, Tryz.ntmps26
        go_upto_region 1 with fail
        rw [← hwb]
        clear hwb
        go_wp2_with fail
        go_ret
        exact ⟨rfl, hB.out⟩
  · rw [hpr, Bool.and_true]
    have hc : KD = 1 ∨ (1 < KD ∧ ((m : Int) == 0) = false ∧ ((m : Int) == 1) = false) ∨ (1 < KD ∧ ((m : Int) == 0) = false ∧ ((m : Int) == 1) = true ∧ has = true) := by
      rcases hrk with ⟨_, h, _⟩ | ⟨rfl, h⟩
      · exact Or.inl h
      · have h1 : 2 ≤ (if has = true then 1 else 0) + m := by simpa using hpr
        by_cases e : m = 1
        · refine Or.inr (Or.inr ⟨h, by rw [e]; rfl, by rw [e]; rfl, ?_⟩)
          cases has with
          | true => rfl
          | false => simp at h1; omega
        · refine Or.inr (Or.inl ⟨h, ?_, ?_⟩)
          · rw [beq_eq_false_iff_ne]; cases has <;> simp at h1 <;> omega
          · rw [beq_eq_false_iff_ne]; omega
    clear hpr hrk
    go_enter Tryz.func26, Tryz.ntmps26
    go_upto_region 1 with fail
    rw [← hwb]
    clear hwb
    rcases hc with rfl | ⟨hKD, hm0, hm1⟩ | ⟨hKD, hm0, hm1, rfl⟩
    all_goals (
      go_wp2_with fail
      go_loopw [3] (fun v3 wr => ∃ (i : Nat), v3 = .int .i64 (i : Nat) ∧ i ≤ m ∧ Hid (canB (ofL (L.drop i)) = V) ∧ Hid (Below wb.heap.size wb wr)) (fun v3 _ => (m - intOf v3).toNat)
      case atStart => exact ⟨0, rfl, Nat.zero_le _, HS, Below.refl _ _⟩
      case round =>
        clear x0 x2 x5 HS
        obtain ⟨i, rfl, him, hE, hBr⟩ := hrel
        obtain ⟨x0, x2, x5⟩ := hall.out wr hBr.out
        by_cases hlt : i < m
        · have l1 : (i : Int) < (m : Int) := by omega
          have l0 : (0 : Int) ≤ (i : Int) := by omega
          have hiL : i < L.length := by rw [← hmL.out ()]; exact hlt
          obtain ⟨y, hy⟩ : ∃ y, L[i]? = some y := ⟨_, List.getElem?_eq_getElem hiL⟩
          obtain ⟨g, c', hg1, hg2, hg3, hg4, hg5⟩ := rt_at H6.out i y hy
          have hE2 : Hid ((canB y.2 && canB (ofL (L.drop (i + 1)))) = V) := by
            have e := hE.out
            rw [canB_drop hy] at e
            exact e
          obtain ⟨yb, yt⟩ := y
          have hym := List.mem_of_getElem? hy
          have hyT := ((tok_ofL L).1 HOL.out).1 (yb, yt) hym
          have hyD : tdep yt ≤ tdep (ofL L) := tdep_ofL2 hym
          have hyN : tdep yt ≤ N := Nat.le_trans hyD HdL.out.1
          have hyM : tdep yt ≤ 1000000 := Nat.le_trans hyD HdL.out.2
          cases yt with
          | nil => exact hyT.2.1.elim
          | kid => exact hyT.2.1.elim
          | node bs' v' has' leaf' ks' =>
            have hE2 : Hid ((canB (.node bs' v' has' leaf' ks') && canB (ofL (L.drop (i + 1)))) = V) := hE2
            have hg5 : RT w G (.node bs' v' has' leaf' ks') none 0 c' := hg5
            have hdn : Hid (∀ X, Below w.heap.size w X → Calls Tryz.prog 26 #[.agg c'.toArray] X (belowPost (.bool (canB (.node bs' v' has' leaf' ks'))) X)) := fun X hb =>
              HIH.out bs' v' has' leaf' ks' c' hyN (hg5.keep hb.size fun j hj => hb.block j (HG.out j hj)) (fun j hj => Nat.lt_of_lt_of_le (HG.out j hj) hb.size) hyT.2.2 hyM
            obtain ⟨pa', pn', pc', ba', bn', bc', ka', kn', kc', hc', hx'⟩ := hg5
            clear hx'
            subst hc'
            obtain ⟨KD', hKD'⟩ : ∃ x : Int, x = ((rkind leaf' ks' : Nat) : Int) := ⟨_, rfl⟩
            rw [← hKD'] at hdn hg4
            generalize canB (.node bs' v' has' leaf' ks') = u at *
            subst hg1
            rw [Nat.zero_add] at hg4
            have hS : Hid (∀ X, Below w.heap.size w X → X.cell? ⟨g, i * 6, none⟩ = some (.int .i64 KD') ∧ X.cell? ⟨g, i * 6 + 1, none⟩ = some (.slice pa' pn' pc') ∧ X.cell? ⟨g, i * 6 + 2, none⟩ = some (.bool has') ∧ X.cell? ⟨g, i * 6 + 3, none⟩ = some (.int .u64 v') ∧ X.cell? ⟨g, i * 6 + 4, none⟩ = some (.slice ba' bn' bc') ∧ X.cell? ⟨g, i * 6 + 5, none⟩ = some (.slice ka' kn' kc')) := fun X hb => by
              have hgl := HG.out g hg2
              have e : ∀ j, X.cell? ⟨g, j, none⟩ = w.cell? ⟨g, j, none⟩ := fun j => hb.cell (p := ⟨g, j, none⟩) hgl
              exact ⟨by rw [e]; exact hg4 0 (by omega), by rw [e]; exact hg4 1 (by omega), by rw [e]; exact hg4 2 (by omega), by rw [e]; exact hg4 3 (by omega), by rw [e]; exact hg4 4 (by omega), by rw [e]; exact hg4 5 (by omega)⟩
            have hBw := Lib.hid (hB.out.trans (hBr.out.mono hB.out.size))
            obtain ⟨y0, y1, y2, y3, y4, y5⟩ := hS.out wr hBw.out
            have hw9 : IntKind.i64.wrap (((i : Nat) : Int) + 1) = ((i + 1 : Nat) : Int) := by rw [show ((i : Nat) : Int) + 1 = ((i + 1 : Nat) : Int) by omega]; exact IntWalk.i64_in _ (by omega)
            clear hy hiL hg4 hyT hKD' hg3 hym hyD hyN hyM hS hE
            cases u with
            | false =>
              have hVf : false = V := hE2.out
              subst hVf
              go_wp2_with (first
                | (go_at_call 26; refine (hdn.out _ hBw.out).mono ?_; rintro e w7 ⟨rfl, q7⟩
                   have B7 := Lib.hid (hBr.out.trans (q7.mono hBr.out.size))
                   clear q7))
              go_ret
              exact ⟨rfl, hB.out.trans (B7.out.mono hB.out.size)⟩
            | true =>
              go_wp2_with (first
                | (go_at_call 26; refine (hdn.out _ hBw.out).mono ?_; rintro e w7 ⟨rfl, q7⟩
                   have B7 := Lib.hid (hBr.out.trans (q7.mono hBr.out.size))
                   clear q7))
              go_roundw
              case rel => exact ⟨i + 1, (by first | rfl | go_num), by omega, by have e := hE2.out; rw [Bool.true_and] at e; exact e, B7⟩
              case measure => (simp [intOf]) <;> omega
        · have l1 : ¬ (i : Int) < (m : Int) := by omega
          obtain rfl : i = m := by omega
          have hVt : true = V := by
            have e := hE.out
            rw [hmL.out (), List.drop_length] at e
            exact e
          subst hVt
          go_wp2_with fail
          go_ret
          exact ⟨rfl, hB.out.trans (hBr.out.mono hB.out.size)⟩)
theorem fn_any : ∀ N, FnAsk N
  | 0 => fun bs v has leaf ks c w G hd => absurd hd (by simp only [tdep]; omega)
  | N + 1 => fun bs v has leaf ks c w G hd hR hG hO hD => fn_in N (fn_any N) bs v has leaf ks c (by simp only [tdep] at hd; omega) hR hG hO hD
end Go.Proofs.YtfhdiimcimafkaaGreatDoor
/- The document's depth of a tree (XQDep's text, for seats without the chapters 30 and 32). -/
namespace Go.Proofs.YtfhdiimcimafkaaGreatDoor
open Go.RowKit
def DpAsk (N : Nat) : Prop := ∀ (bs : List Nat) (v : Int) (has leaf : Bool) (ks : Tr) (c : List Value) {w : World} {G : Nat → Prop}, tdep (.node bs v has leaf ks) ≤ N → RT w G (.node bs v has leaf ks) none 0 c → (∀ j, G j → j < w.heap.size) → TOk (.node bs v has leaf ks) → tdep (.node bs v has leaf ks) ≤ 1000000 → Calls Tryz.prog 25 #[.agg c.toArray] w (belowPost (.int .i64 (tdep (.node bs v has leaf ks) : Nat)) w)
theorem tdep_drop {L : List (Nat × Tr)} {i : Nat} {x : Nat × Tr} (h : L[i]? = some x) : tdep (ofL (L.drop i)) = max (tdep x.2) (tdep (ofL (L.drop (i + 1)))) := by
  have hi : i < L.length := (List.getElem?_eq_some_iff.1 h).1
  have e : L[i] = x := (List.getElem?_eq_some_iff.1 h).2
  rw [List.drop_eq_getElem_cons hi, e]; rfl
set_option maxHeartbeats 4000000 in
set_option maxRecDepth 100000 in
theorem dp_in (N : Nat) (IH : DpAsk N) (bs : List Nat) (v : Int) (has leaf : Bool) (ks : Tr) (c : List Value) {w : World} {G : Nat → Prop} (hdp : tdep ks ≤ N) (hR : RT w G (.node bs v has leaf ks) none 0 c) (hG : ∀ j, G j → j < w.heap.size) (hO : TOk (.node bs v has leaf ks)) (hD : tdep (.node bs v has leaf ks) ≤ 1000000) :
    Calls Tryz.prog 25 #[.agg c.toArray] w (belowPost (.int .i64 (tdep (.node bs v has leaf ks) : Nat)) w) := by
  obtain ⟨pa, pn, pc, ba, bn, bc, ka, rn, kc, rfl, h2, h3, rfl, h5, h6⟩ := hR
  obtain ⟨o1, o2, o3, o4, o5, o6, o7⟩ := hO
  have hR6 := rt_chain h6 o6 o7
  have hke := ofL_chain ks o6 o7
  obtain ⟨L, hL⟩ : ∃ L, L = chain ks := ⟨_, rfl⟩
  rw [← hL] at hR6 hke ⊢
  obtain ⟨m, hm⟩ : ∃ m, m = L.length := ⟨_, rfl⟩
  rw [← hm]
  have hm2 : m ≤ 256 := by have := chain256 o6 o7; rw [← hL, ← hm] at this; exact this
  have hrk : ((rkind leaf ks : Nat) : Int) ≠ 0 := by
    unfold rkind
    split
    · omega
    · unfold kindOf; split <;> (try split) <;> (try split) <;> omega
  show Calls _ _ #[.agg #[.int .i64 ((rkind leaf ks : Nat) : Int), .slice pa pn pc, .bool has, .int .u64 v, .slice ba bn bc, .slice ka m kc]] _ _
  obtain ⟨KD, hKD⟩ : ∃ x : Int, x = ((rkind leaf ks : Nat) : Int) := ⟨_, rfl⟩
  rw [← hKD] at hrk ⊢
  have hk0 : (KD == 0) = false := by rw [beq_eq_false_iff_ne]; exact hrk
  obtain ⟨V, hV⟩ : ∃ V, V = tdep ks := ⟨_, rfl⟩
  have hT : tdep (.node bs v has leaf ks) = 1 + V := by rw [hV]; rfl
  rw [hT] at hD ⊢
  obtain ⟨Z, hZ⟩ : ∃ Z, Z = 1 + V := ⟨_, rfl⟩
  rw [← hZ] at hD ⊢
  have HZ : Hid (∀ x, x = V → IntKind.i64.wrap ((x : Nat) + 1 : Int) = (Z : Int)) := fun x e => by
    rw [e, show ((V : Nat) : Int) + 1 = ((Z : Nat) : Int) by omega]; exact IntWalk.i64_in _ (by omega)
  have HS : Hid (max 0 (tdep (ofL (L.drop 0))) = V) := by show _ = _; rw [List.drop_zero, hke, hV]; omega
  have HOL : Hid (TOk (ofL L)) := by rw [hke]; exact o7
  have HdL : Hid (tdep (ofL L) ≤ N ∧ tdep (ofL L) ≤ 1000000) := by rw [hke]; exact ⟨hdp, by omega⟩
  have H6 := Lib.hid hR6
  have HG := Lib.hid hG
  have HIH := Lib.hid IH
  have hmL := Lib.hid (fun (_ : Unit) => hm)
  obtain ⟨wb, hwb⟩ : ∃ wb, wb = w.alloc (.cells #[.int .i64 KD, .slice pa pn pc, .bool has, .int .u64 v, .slice ba bn bc, .slice ka m kc] rnT) := ⟨_, rfl⟩
  have hbox : wb.heap[w.heap.size]? = some (.cells [.int .i64 KD, .slice pa pn pc, .bool has, .int .u64 v, .slice ba bn bc, .slice ka m kc].toArray rnT (0, 0)) := by rw [hwb]; exact six_new w _ _ _ _ _ _ rnT
  have hB : Hid (Below w.heap.size w wb) := by rw [hwb]; exact below_al w _
  have hall : Hid (∀ X, Below wb.heap.size wb X → X.cell? ⟨w.heap.size, 0, none⟩ = some (.int .i64 KD) ∧ X.cell? ⟨w.heap.size, 5, none⟩ = some (.slice ka m kc)) := fun X hb => by
    obtain ⟨x0, x1, x2, x3, x4, x5, _⟩ := six_facts ((hb.block w.heap.size (Array.getElem?_eq_some_iff.1 hbox).1).trans hbox)
    exact ⟨x0, x5⟩
  obtain ⟨x0, x5⟩ := hall.out wb (Below.refl _ _)
  clear h2 h3 h5 h6 o1 o2 o3 o4 o5 o6 o7 hR6 hke hL hrk hKD hdp hD hV hT hZ IH hG hm hbox
  go_enter Tryz.func25, Tryz.ntmps25
  go_upto_region 1 with fail
  rw [← hwb]
  clear hwb
  go_wp2_with fail
  go_loopw [3, 4] (fun v3 v4 wr => ∃ (i d : Nat), v3 = .int .i64 (d : Nat) ∧ v4 = .int .i64 (i : Nat) ∧ i ≤ m ∧ Hid (max d (tdep (ofL (L.drop i))) = V) ∧ Hid (Below wb.heap.size wb wr)) (fun _ v4 _ => (m - intOf v4).toNat)
  case atStart => exact ⟨0, 0, rfl, rfl, Nat.zero_le _, HS, Below.refl _ _⟩
  case round =>
    clear x0 x5 HS
    obtain ⟨i, d, rfl, rfl, him, hE, hBr⟩ := hrel
    obtain ⟨x0, x5⟩ := hall.out wr hBr.out
    by_cases hlt : i < m
    · have l1 : (i : Int) < (m : Int) := by omega
      have l0 : (0 : Int) ≤ (i : Int) := by omega
      have hiL : i < L.length := by rw [← hmL.out ()]; exact hlt
      obtain ⟨y, hy⟩ : ∃ y, L[i]? = some y := ⟨_, List.getElem?_eq_getElem hiL⟩
      obtain ⟨g, c', hg1, hg2, hg3, hg4, hg5⟩ := rt_at H6.out i y hy
      have hE2 : Hid (max (max d (tdep y.2)) (tdep (ofL (L.drop (i + 1)))) = V) := by
        have e := hE.out
        rw [tdep_drop hy] at e
        show _ = _
        omega
      obtain ⟨yb, yt⟩ := y
      have hym := List.mem_of_getElem? hy
      have hyT := ((tok_ofL L).1 HOL.out).1 (yb, yt) hym
      have hyD : tdep yt ≤ tdep (ofL L) := tdep_ofL2 hym
      have hyN : tdep yt ≤ N := Nat.le_trans hyD HdL.out.1
      have hyM : tdep yt ≤ 1000000 := Nat.le_trans hyD HdL.out.2
      cases yt with
      | nil => exact hyT.2.1.elim
      | kid => exact hyT.2.1.elim
      | node bs' v' has' leaf' ks' =>
        have hE2 : Hid (max (max d (tdep (.node bs' v' has' leaf' ks'))) (tdep (ofL (L.drop (i + 1)))) = V) := hE2
        have hg5 : RT w G (.node bs' v' has' leaf' ks') none 0 c' := hg5
        have hdn : Hid (∀ X, Below w.heap.size w X → Calls Tryz.prog 25 #[.agg c'.toArray] X (belowPost (.int .i64 (tdep (.node bs' v' has' leaf' ks') : Nat)) X)) := fun X hb =>
          HIH.out bs' v' has' leaf' ks' c' hyN (hg5.keep hb.size fun j hj => hb.block j (HG.out j hj)) (fun j hj => Nat.lt_of_lt_of_le (HG.out j hj) hb.size) hyT.2.2 hyM
        obtain ⟨pa', pn', pc', ba', bn', bc', ka', kn', kc', hc', hx'⟩ := hg5
        clear hx'
        subst hc'
        obtain ⟨KD', hKD'⟩ : ∃ x : Int, x = ((rkind leaf' ks' : Nat) : Int) := ⟨_, rfl⟩
        rw [← hKD'] at hdn hg4
        generalize tdep (.node bs' v' has' leaf' ks') = u at *
        subst hg1
        rw [Nat.zero_add] at hg4
        obtain ⟨z, hz⟩ : ∃ z, z = max d u := ⟨_, rfl⟩
        rw [← hz] at hE2
        have hmx : max (d : Int) (u : Int) = (z : Int) := by omega
        have hS : Hid (∀ X, Below w.heap.size w X → X.cell? ⟨g, i * 6, none⟩ = some (.int .i64 KD') ∧ X.cell? ⟨g, i * 6 + 1, none⟩ = some (.slice pa' pn' pc') ∧ X.cell? ⟨g, i * 6 + 2, none⟩ = some (.bool has') ∧ X.cell? ⟨g, i * 6 + 3, none⟩ = some (.int .u64 v') ∧ X.cell? ⟨g, i * 6 + 4, none⟩ = some (.slice ba' bn' bc') ∧ X.cell? ⟨g, i * 6 + 5, none⟩ = some (.slice ka' kn' kc')) := fun X hb => by
          have hgl := HG.out g hg2
          have e : ∀ j, X.cell? ⟨g, j, none⟩ = w.cell? ⟨g, j, none⟩ := fun j => hb.cell (p := ⟨g, j, none⟩) hgl
          exact ⟨by rw [e]; exact hg4 0 (by omega), by rw [e]; exact hg4 1 (by omega), by rw [e]; exact hg4 2 (by omega), by rw [e]; exact hg4 3 (by omega), by rw [e]; exact hg4 4 (by omega), by rw [e]; exact hg4 5 (by omega)⟩
        have hBw := Lib.hid (hB.out.trans (hBr.out.mono hB.out.size))
        obtain ⟨y0, y1, y2, y3, y4, y5⟩ := hS.out wr hBw.out
        have hw9 : IntKind.i64.wrap (((i : Nat) : Int) + 1) = ((i + 1 : Nat) : Int) := by rw [show ((i : Nat) : Int) + 1 = ((i + 1 : Nat) : Int) by omega]; exact IntWalk.i64_in _ (by omega)
        clear hy hiL hg4 hyT hKD' hg3 hym hyD hyN hyM hS hE hz
        go_wp2_with (first
          | (go_at_call 25; refine (hdn.out _ hBw.out).mono ?_; rintro e w7 ⟨rfl, q7⟩
             have B7 := Lib.hid (hBr.out.trans (q7.mono hBr.out.size))
             clear q7))
        go_roundw
        case rel => exact ⟨i + 1, z, rfl, (by first | rfl | go_num), by omega, hE2, B7⟩
        case measure => (simp [intOf]) <;> omega
    · have l1 : ¬ (i : Int) < (m : Int) := by omega
      obtain rfl : i = m := by omega
      have hdV : d = V := by
        have e := hE.out
        rw [hmL.out (), List.drop_length, show tdep (ofL ([] : List (Nat × Tr))) = 0 from rfl] at e
        omega
      have hzz := HZ.out d hdV
      clear hdV
      go_wp2_with fail
      go_ret
      exact ⟨rfl, hB.out.trans (hBr.out.mono hB.out.size)⟩
theorem dp_any : ∀ N, DpAsk N
  | 0 => fun bs v has leaf ks c w G hd => absurd hd (by simp only [tdep]; omega)
  | N + 1 => fun bs v has leaf ks c w G hd hR hG hO hD => dp_in N (dp_any N) bs v has leaf ks c (by simp only [tdep] at hd; omega) hR hG hO hD
end Go.Proofs.YtfhdiimcimafkaaGreatDoor
/- How many nodes the document's tree has, as the document tells. -/
namespace Go.Proofs.YtfhdiimcimafkaaGreatDoor
open Go.RowKit
def MdAsk (N : Nat) : Prop := ∀ (bs : List Nat) (v : Int) (has leaf : Bool) (ks : Tr) (c : List Value) {w : World} {G : Nat → Prop}, tdep (.node bs v has leaf ks) ≤ N → RT w G (.node bs v has leaf ks) none 0 c → (∀ j, G j → j < w.heap.size) → TOk (.node bs v has leaf ks) → tsz (.node bs v has leaf ks) ≤ 1000000 → Calls Tryz.prog 30 #[.agg c.toArray] w (belowPost (.int .i64 (tsz (.node bs v has leaf ks) : Nat)) w)
theorem tsz_drop {L : List (Nat × Tr)} {i : Nat} {x : Nat × Tr} (h : L[i]? = some x) : tsz (ofL (L.drop i)) = tsz x.2 + tsz (ofL (L.drop (i + 1))) := by
  have hi : i < L.length := (List.getElem?_eq_some_iff.1 h).1
  have e : L[i] = x := (List.getElem?_eq_some_iff.1 h).2
  rw [List.drop_eq_getElem_cons hi, e]; rfl
theorem tsz_ofL2 : ∀ {L : List (Nat × Tr)} {x : Nat × Tr}, x ∈ L → tsz x.2 ≤ tsz (ofL L)
  | y :: L, x, h => by
    show _ ≤ tsz y.2 + tsz (ofL L)
    rcases List.mem_cons.1 h with rfl | h
    · omega
    · have := tsz_ofL2 h; omega
set_option maxHeartbeats 4000000 in
set_option maxRecDepth 100000 in
theorem md_in (N : Nat) (IH : MdAsk N) (bs : List Nat) (v : Int) (has leaf : Bool) (ks : Tr) (c : List Value) {w : World} {G : Nat → Prop} (hdp : tdep ks ≤ N) (hR : RT w G (.node bs v has leaf ks) none 0 c) (hG : ∀ j, G j → j < w.heap.size) (hO : TOk (.node bs v has leaf ks)) (hD : tsz (.node bs v has leaf ks) ≤ 1000000) :
    Calls Tryz.prog 30 #[.agg c.toArray] w (belowPost (.int .i64 (tsz (.node bs v has leaf ks) : Nat)) w) := by
  obtain ⟨pa, pn, pc, ba, bn, bc, ka, rn, kc, rfl, h2, h3, rfl, h5, h6⟩ := hR
  obtain ⟨o1, o2, o3, o4, o5, o6, o7⟩ := hO
  have hR6 := rt_chain h6 o6 o7
  have hke := ofL_chain ks o6 o7
  obtain ⟨L, hL⟩ : ∃ L, L = chain ks := ⟨_, rfl⟩
  rw [← hL] at hR6 hke ⊢
  obtain ⟨m, hm⟩ : ∃ m, m = L.length := ⟨_, rfl⟩
  rw [← hm]
  have hm2 : m ≤ 256 := by have := chain256 o6 o7; rw [← hL, ← hm] at this; exact this
  have hrk : ((rkind leaf ks : Nat) : Int) ≠ 0 := by
    unfold rkind
    split
    · omega
    · unfold kindOf; split <;> (try split) <;> (try split) <;> omega
  show Calls _ _ #[.agg #[.int .i64 ((rkind leaf ks : Nat) : Int), .slice pa pn pc, .bool has, .int .u64 v, .slice ba bn bc, .slice ka m kc]] _ _
  obtain ⟨KD, hKD⟩ : ∃ x : Int, x = ((rkind leaf ks : Nat) : Int) := ⟨_, rfl⟩
  rw [← hKD] at hrk ⊢
  have hk0 : (KD == 0) = false := by rw [beq_eq_false_iff_ne]; exact hrk
  obtain ⟨V, hV⟩ : ∃ V, V = tsz ks := ⟨_, rfl⟩
  have hT : tsz (.node bs v has leaf ks) = 1 + V := by rw [hV]; rfl
  rw [hT] at hD ⊢
  obtain ⟨Z, hZ⟩ : ∃ Z, Z = 1 + V := ⟨_, rfl⟩
  rw [← hZ] at hD ⊢
  have HZ : Hid (Z ≤ 1000000) := hD
  have HS : Hid (1 + tsz (ofL (L.drop 0)) = Z) := by show _ = _; rw [List.drop_zero, hke, hZ, hV]
  have HOL : Hid (TOk (ofL L)) := by rw [hke]; exact o7
  have HdL : Hid (tdep (ofL L) ≤ N ∧ tsz (ofL L) ≤ 1000000) := by rw [hke]; exact ⟨hdp, by omega⟩
  have H6 := Lib.hid hR6
  have HG := Lib.hid hG
  have HIH := Lib.hid IH
  have hmL := Lib.hid (fun (_ : Unit) => hm)
  obtain ⟨wb, hwb⟩ : ∃ wb, wb = w.alloc (.cells #[.int .i64 KD, .slice pa pn pc, .bool has, .int .u64 v, .slice ba bn bc, .slice ka m kc] rnT) := ⟨_, rfl⟩
  have hbox : wb.heap[w.heap.size]? = some (.cells [.int .i64 KD, .slice pa pn pc, .bool has, .int .u64 v, .slice ba bn bc, .slice ka m kc].toArray rnT (0, 0)) := by rw [hwb]; exact six_new w _ _ _ _ _ _ rnT
  have hB : Hid (Below w.heap.size w wb) := by rw [hwb]; exact below_al w _
  have hall : Hid (∀ X, Below wb.heap.size wb X → X.cell? ⟨w.heap.size, 0, none⟩ = some (.int .i64 KD) ∧ X.cell? ⟨w.heap.size, 5, none⟩ = some (.slice ka m kc)) := fun X hb => by
    obtain ⟨x0, x1, x2, x3, x4, x5, _⟩ := six_facts ((hb.block w.heap.size (Array.getElem?_eq_some_iff.1 hbox).1).trans hbox)
    exact ⟨x0, x5⟩
  obtain ⟨x0, x5⟩ := hall.out wb (Below.refl _ _)
  clear h2 h3 h5 h6 o1 o2 o3 o4 o5 o6 o7 hR6 hke hL hrk hKD hdp hD hV hT hZ IH hG hm hbox
  go_enter Tryz.func30, Tryz.ntmps30
  go_upto_region 1 with fail
  rw [← hwb]
  clear hwb
  go_wp2_with fail
  go_loopw [3, 4] (fun v3 v4 wr => ∃ (i d : Nat), v3 = .int .i64 (d : Nat) ∧ v4 = .int .i64 (i : Nat) ∧ i ≤ m ∧ Hid (d + tsz (ofL (L.drop i)) = Z) ∧ Hid (Below wb.heap.size wb wr)) (fun _ v4 _ => (m - intOf v4).toNat)
  case atStart => exact ⟨0, 1, rfl, rfl, Nat.zero_le _, HS, Below.refl _ _⟩
  case round =>
    clear x0 x5 HS
    obtain ⟨i, d, rfl, rfl, him, hE, hBr⟩ := hrel
    obtain ⟨x0, x5⟩ := hall.out wr hBr.out
    by_cases hlt : i < m
    · have l1 : (i : Int) < (m : Int) := by omega
      have l0 : (0 : Int) ≤ (i : Int) := by omega
      have hiL : i < L.length := by rw [← hmL.out ()]; exact hlt
      obtain ⟨y, hy⟩ : ∃ y, L[i]? = some y := ⟨_, List.getElem?_eq_getElem hiL⟩
      obtain ⟨g, c', hg1, hg2, hg3, hg4, hg5⟩ := rt_at H6.out i y hy
      have hE2 : Hid (d + tsz y.2 + tsz (ofL (L.drop (i + 1))) = Z) := by
        have e := hE.out
        rw [tsz_drop hy] at e
        show _ = _
        omega
      obtain ⟨yb, yt⟩ := y
      have hym := List.mem_of_getElem? hy
      have hyT := ((tok_ofL L).1 HOL.out).1 (yb, yt) hym
      have hyD : tdep yt ≤ tdep (ofL L) := tdep_ofL2 hym
      have hyN : tdep yt ≤ N := Nat.le_trans hyD HdL.out.1
      have hyM : tsz yt ≤ 1000000 := Nat.le_trans (tsz_ofL2 hym) HdL.out.2
      cases yt with
      | nil => exact hyT.2.1.elim
      | kid => exact hyT.2.1.elim
      | node bs' v' has' leaf' ks' =>
        have hE2 : Hid (d + tsz (.node bs' v' has' leaf' ks') + tsz (ofL (L.drop (i + 1))) = Z) := hE2
        have hg5 : RT w G (.node bs' v' has' leaf' ks') none 0 c' := hg5
        have hdn : Hid (∀ X, Below w.heap.size w X → Calls Tryz.prog 30 #[.agg c'.toArray] X (belowPost (.int .i64 (tsz (.node bs' v' has' leaf' ks') : Nat)) X)) := fun X hb =>
          HIH.out bs' v' has' leaf' ks' c' hyN (hg5.keep hb.size fun j hj => hb.block j (HG.out j hj)) (fun j hj => Nat.lt_of_lt_of_le (HG.out j hj) hb.size) hyT.2.2 hyM
        obtain ⟨pa', pn', pc', ba', bn', bc', ka', kn', kc', hc', hx'⟩ := hg5
        clear hx'
        subst hc'
        obtain ⟨KD', hKD'⟩ : ∃ x : Int, x = ((rkind leaf' ks' : Nat) : Int) := ⟨_, rfl⟩
        rw [← hKD'] at hdn hg4
        generalize tsz (.node bs' v' has' leaf' ks') = u at *
        subst hg1
        rw [Nat.zero_add] at hg4
        obtain ⟨z, hz⟩ : ∃ z, z = d + u := ⟨_, rfl⟩
        rw [← hz] at hE2
        have hmx : IntKind.i64.wrap ((d : Int) + (u : Int)) = (z : Int) := by
          have h1 := hE2.out
          have h2 := HZ.out
          rw [show (d : Int) + (u : Int) = (z : Int) by omega]; exact IntWalk.i64_in _ (by omega)
        have hS : Hid (∀ X, Below w.heap.size w X → X.cell? ⟨g, i * 6, none⟩ = some (.int .i64 KD') ∧ X.cell? ⟨g, i * 6 + 1, none⟩ = some (.slice pa' pn' pc') ∧ X.cell? ⟨g, i * 6 + 2, none⟩ = some (.bool has') ∧ X.cell? ⟨g, i * 6 + 3, none⟩ = some (.int .u64 v') ∧ X.cell? ⟨g, i * 6 + 4, none⟩ = some (.slice ba' bn' bc') ∧ X.cell? ⟨g, i * 6 + 5, none⟩ = some (.slice ka' kn' kc')) := fun X hb => by
          have hgl := HG.out g hg2
          have e : ∀ j, X.cell? ⟨g, j, none⟩ = w.cell? ⟨g, j, none⟩ := fun j => hb.cell (p := ⟨g, j, none⟩) hgl
          exact ⟨by rw [e]; exact hg4 0 (by omega), by rw [e]; exact hg4 1 (by omega), by rw [e]; exact hg4 2 (by omega), by rw [e]; exact hg4 3 (by omega), by rw [e]; exact hg4 4 (by omega), by rw [e]; exact hg4 5 (by omega)⟩
        have hBw := Lib.hid (hB.out.trans (hBr.out.mono hB.out.size))
        obtain ⟨y0, y1, y2, y3, y4, y5⟩ := hS.out wr hBw.out
        have hw9 : IntKind.i64.wrap (((i : Nat) : Int) + 1) = ((i + 1 : Nat) : Int) := by rw [show ((i : Nat) : Int) + 1 = ((i + 1 : Nat) : Int) by omega]; exact IntWalk.i64_in _ (by omega)
        clear hy hiL hg4 hyT hKD' hg3 hym hyD hyN hyM hS hE hz
        go_wp2_with (first
          | (go_at_call 30; refine (hdn.out _ hBw.out).mono ?_; rintro e w7 ⟨rfl, q7⟩
             have B7 := Lib.hid (hBr.out.trans (q7.mono hBr.out.size))
             clear q7))
        go_roundw
        case rel => exact ⟨i + 1, z, rfl, (by first | rfl | go_num), by omega, hE2, B7⟩
        case measure => (simp [intOf]) <;> omega
    · have l1 : ¬ (i : Int) < (m : Int) := by omega
      obtain rfl : i = m := by omega
      have hdV : d = Z := by
        have e := hE.out
        rw [hmL.out (), List.drop_length, show tsz (ofL ([] : List (Nat × Tr))) = 0 from rfl] at e
        omega
      subst hdV
      go_wp2_with fail
      go_ret
      exact ⟨rfl, hB.out.trans (hBr.out.mono hB.out.size)⟩
theorem md_any : ∀ N, MdAsk N
  | 0 => fun bs v has leaf ks c w G hd => absurd hd (by simp only [tdep]; omega)
  | N + 1 => fun bs v has leaf ks c w G hd hR hG hO hD => md_in N (md_any N) bs v has leaf ks c (by simp only [tdep] at hd; omega) hR hG hO hD
end Go.Proofs.YtfhdiimcimafkaaGreatDoor
/- The document's Digits. -/
namespace Go.Proofs.YtfhdiimcimafkaaGreatDoor
open Go.RowKit
theorem dec_split (u : Nat) : decU u = if u < 10 then [UInt8.ofNat (48 + u)] else decU (u / 10) ++ [UInt8.ofNat (48 + u % 10)] := by
  unfold decU
  conv => lhs; unfold Lib.decDigits
  split <;> rfl
theorem dig_ext (d : Nat) (h : d < 10) : (⟨#[48, 49, 50, 51, 52, 53, 54, 55, 56, 57]⟩ : ByteArray).extract d (d + 1) = ⟨[UInt8.ofNat (48 + d)].toArray⟩ := by
  have : d = 0 ∨ d = 1 ∨ d = 2 ∨ d = 3 ∨ d = 4 ∨ d = 5 ∨ d = 6 ∨ d = 7 ∨ d = 8 ∨ d = 9 := by omega
  rcases this with rfl | rfl | rfl | rfl | rfl | rfl | rfl | rfl | rfl | rfl <;> decide
set_option maxHeartbeats 1000000 in
theorem ref_digits (w : World) (u : Nat) (hu : u < 18446744073709551616) : Calls Tryz.prog 56 #[.int .u64 (u : Nat)] w (belowPost (.string ⟨(decU u).toArray⟩) w) := by
  have hB : Hid (∃ k, w = w.drewN k) := ⟨0, rfl⟩
  go_enter Tryz.func56, Tryz.ntmps56
  go_wp2_with fail
  go_loopw [0, 3] (fun v0 v3 wr => ∃ (m : Nat) (t : ByteArray), v0 = .int .u64 (m : Nat) ∧ v3 = .string t ∧ m < 18446744073709551616 ∧ t.size ≤ 100 ∧ Hid (∃ acc : List UInt8, t = ⟨acc.toArray⟩ ∧ decU m ++ acc = decU u) ∧ Hid (Below w.heap.size w wr)) (fun v0 _ _ => (intOf v0).toNat)
  case atStart => exact ⟨u, ⟨#[]⟩, rfl, rfl, hu, by decide, ⟨[], rfl, by simp⟩, Below.refl _ _⟩
  case round =>
    obtain ⟨m, t, rfl, rfl, hm, ht, hA, B⟩ := hrel
    obtain ⟨d, hd⟩ : ∃ d, d = m % 10 := ⟨_, rfl⟩
    obtain ⟨q, hq⟩ : ∃ q, q = m / 10 := ⟨_, rfl⟩
    have hd10 : d < 10 := by omega
    have hqi : (m : Int) / 10 = (q : Nat) := by omega
    have hdi : (m : Int) % 10 = (d : Nat) := by omega
    have hd1 : (d : Int) < 10 := by omega
    have hd2 : (d : Int) + 1 ≤ 10 := by omega
    have hd0 : (0 : Int) ≤ (d : Int) := by omega
    have hw1 : IntKind.i64.wrap ((d : Int) + 1) = ((d + 1 : Nat) : Int) := by rw [show (d : Int) + 1 = ((d + 1 : Nat) : Int) by omega]; exact IntWalk.i64_in _ (by omega)
    obtain ⟨X, hX⟩ : ∃ X : ByteArray, X = (⟨#[48, 49, 50, 51, 52, 53, 54, 55, 56, 57]⟩ : ByteArray).extract d (d + 1) ++ t := ⟨_, rfl⟩
    have hXa : Hid (∀ acc : List UInt8, t = ⟨acc.toArray⟩ → X = ⟨(UInt8.ofNat (48 + d) :: acc).toArray⟩) := fun acc e => by rw [hX, dig_ext d hd10, e, cat_str]; rfl
    by_cases hq0 : q = 0
    · have hq1 : ((q : Nat) : Int) = 0 := by omega
      have hE : Hid (X = ⟨(decU u).toArray⟩) := by
        obtain ⟨acc, e1, e2⟩ := hA.out
        show _ = _
        rw [hXa.out acc e1, ← e2, dec_split m, if_pos (by omega), show m = d by omega]
        rfl
      rw [hq1] at hqi
      clear hA hB hd hq hXa
      go_wp2_with fail
      go_ret
      rw [← hX, hE.out]
      exact ⟨rfl, B.out⟩
    · have hq1 : ((q : Nat) : Int) ≠ 0 := by omega
      have hq2 : (((q : Nat) : Int) == 0) = false := by rw [beq_eq_false_iff_ne]; exact hq1
      have hE : Hid (∃ acc : List UInt8, X = ⟨acc.toArray⟩ ∧ decU q ++ acc = decU u) := by
        obtain ⟨acc, e1, e2⟩ := hA.out
        refine ⟨_, hXa.out acc e1, ?_⟩
        rw [← e2, dec_split m, if_neg (by omega), ← hq, ← hd, List.append_assoc]
        rfl
      have hXs : X.size ≤ 100 := by
        obtain ⟨acc, e1, e2⟩ := hE.out
        have := congrArg List.length e2
        have hl := decU_len hu
        rw [List.length_append] at this
        rw [e1]
        show acc.toArray.size ≤ 100
        rw [List.size_toArray]
        omega
      have hqm : q < m := by omega
      have hqu : q < 18446744073709551616 := by omega
      clear hA hB hd hq hXa hq1
      go_wp2_with fail
      go_roundw
      case rel => exact ⟨q, X, rfl, by rw [hX], hqu, hXs, hE, B⟩
      case measure => (simp [intOf]) <;> omega
end Go.Proofs.YtfhdiimcimafkaaGreatDoor
/- The document's Text. -/
namespace Go.Proofs.YtfhdiimcimafkaaGreatDoor
open Go.RowKit
abbrev hexA : ByteArray := ⟨#[48, 49, 50, 51, 52, 53, 54, 55, 56, 57, 97, 98, 99, 100, 101, 102]⟩
theorem hex_ext (d : Nat) (h : d < 16) : hexA.extract d (d + 1) = ⟨[UInt8.ofNat (hexN d)].toArray⟩ := by
  have : d = 0 ∨ d = 1 ∨ d = 2 ∨ d = 3 ∨ d = 4 ∨ d = 5 ∨ d = 6 ∨ d = 7 ∨ d = 8 ∨ d = 9 ∨ d = 10 ∨ d = 11 ∨ d = 12 ∨ d = 13 ∨ d = 14 ∨ d = 15 := by omega
  rcases this with rfl | rfl | rfl | rfl | rfl | rfl | rfl | rfl | rfl | rfl | rfl | rfl | rfl | rfl | rfl | rfl <;> decide
set_option maxHeartbeats 1000000 in
theorem ref_digs (w : World) (b : Nat) (hb : b < 256) : Calls Tryz.prog 79 #[.int .u8 (b : Nat)] w (belowPost (.string ⟨(u8s (hexL [b])).toArray⟩) w) := by
  obtain ⟨h, hh⟩ : ∃ h, h = b / 16 := ⟨_, rfl⟩
  obtain ⟨d, hd⟩ : ∃ d, d = b % 16 := ⟨_, rfl⟩
  have e1 : (b : Int) / 16 = (h : Nat) := by omega
  have e2 : (b : Int) % 16 = (d : Nat) := by omega
  have h1 : (h : Int) + 1 ≤ 16 := by omega
  have h2 : (h : Int) < 16 := by omega
  have h0 : (0 : Int) ≤ (h : Int) := by omega
  have d1 : (d : Int) + 1 ≤ 16 := by omega
  have d2 : (d : Int) < 16 := by omega
  have d0 : (0 : Int) ≤ (d : Int) := by omega
  have b0 : (b : Int) < 256 := by omega
  have hw1 : IntKind.i64.wrap ((h : Int) + 1) = ((h + 1 : Nat) : Int) := by rw [show (h : Int) + 1 = ((h + 1 : Nat) : Int) by omega]; exact IntWalk.i64_in _ (by omega)
  have hw2 : IntKind.i64.wrap ((d : Int) + 1) = ((d + 1 : Nat) : Int) := by rw [show (d : Int) + 1 = ((d + 1 : Nat) : Int) by omega]; exact IntWalk.i64_in _ (by omega)
  have hE : Hid (hexA.extract h (h + 1) ++ hexA.extract d (d + 1) = ⟨(u8s (hexL [b])).toArray⟩) := by
    show _ = _
    rw [hex_ext h (by omega), hex_ext d (by omega), cat_str, hh, hd]
    rfl
  clear hh hd
  go_enter Tryz.func79, Tryz.ntmps79
  go_wp2_with fail
  rw [e2]
  go_region
  go_wp2_with fail
  go_ret
  exact ⟨congrArg (fun x => Ending.returned (.string x)) hE.out, (Below.refl _ w).drew⟩
set_option maxHeartbeats 1000000 in
theorem ref_text {w : World} {a : Option Addr} {n c : Nat} {bs : List Nat} (h : Sl w a n c bs) (hn : n ≤ 400000) : Calls Tryz.prog 55 #[.slice a n c] w (belowPost (.string ⟨(u8s (hexL bs)).toArray⟩) w) := by
  have H := Lib.hid h
  have hl := Lib.hid h.len
  have hB : Hid (Below w.heap.size w w) := Below.refl _ w
  have hS0 : Hid ((⟨#[]⟩ : ByteArray) = ⟨(u8s (hexL (bs.take 0))).toArray⟩) := rfl
  clear h
  go_enter Tryz.func55, Tryz.ntmps55
  go_wp2_with fail
  go_loopw [4, 3] (fun v4 v3 wr => ∃ (i : Nat) (t : ByteArray), v4 = .int .i64 (i : Nat) ∧ v3 = .string t ∧ i ≤ n ∧ Hid (t = ⟨(u8s (hexL (bs.take i))).toArray⟩) ∧ Hid (Below w.heap.size w wr)) (fun v4 _ _ => (n - intOf v4).toNat)
  case atStart => exact ⟨0, ⟨#[]⟩, rfl, rfl, Nat.zero_le _, hS0, hB⟩
  case round =>
    clear hS0 hB
    obtain ⟨i, t, rfl, rfl, hi, hT, B⟩ := hrel
    by_cases hlt : i < n
    · have l1 : (i : Int) < (n : Int) := by omega
      have l0 : (0 : Int) ≤ (i : Int) := by omega
      have hib : i < bs.length := by rw [hl.out]; exact hlt
      obtain ⟨p, rfl, q1, q2⟩ := (H.out.below B.out).at_.2 i hib
      have hb8 := (H.out.at_.1) (bs.getD i 0) (by simp [List.getD, List.getElem?_eq_getElem hib])
      have htk : bs.take (i + 1) = bs.take i ++ [bs.getD i 0] := by rw [List.take_succ_eq_append_getElem hib]; simp [List.getD, List.getElem?_eq_getElem hib]
      generalize bs.getD i 0 = b at *
      obtain ⟨X, hX⟩ : ∃ X : ByteArray, X = ⟨(u8s (hexL [b])).toArray⟩ := ⟨_, rfl⟩
      have hDg : Hid (Calls Tryz.prog 79 #[.int .u8 (b : Nat)] wr (belowPost (.string X) wr)) := by rw [hX]; exact ref_digs wr b hb8
      have hT2 : Hid (t ++ X = ⟨(u8s (hexL (bs.take (i + 1)))).toArray⟩) := by
        show _ = _
        rw [hT.out, hX, cat_str, htk, ← u8s_app]
        unfold hexL
        rw [List.flatMap_append]
      have hts : t.size ≤ 800000 := by
        rw [hT.out]; show (u8s (hexL (bs.take i))).toArray.size ≤ _
        rw [List.size_toArray, u8s, List.length_map, hexL_len, List.length_take]; omega
      have hXs : X.size = 2 := by rw [hX]; rfl
      have hsz : ¬ 9223372036854775807 < t.size + X.size := by omega
      have hw9 : IntKind.i64.wrap (((i : Nat) : Int) + 1) = ((i + 1 : Nat) : Int) := by rw [show ((i : Nat) : Int) + 1 = ((i + 1 : Nat) : Int) by omega]; exact IntWalk.i64_in _ (by omega)
      clear hT hX htk hb8 hib q1 hts hXs
      go_wp2_with (go_at_call 79; refine hDg.out.mono ?_; rintro e w1 ⟨rfl, z⟩; have B1 := Lib.hid (B.out.trans (z.mono B.out.size)); clear z)
      go_roundw
      case rel => exact ⟨i + 1, t ++ X, (by first | rfl | go_num), rfl, by omega, hT2, B1⟩
      case measure => (simp [intOf]) <;> omega
    · have l1 : ¬ (i : Int) < (n : Int) := by omega
      obtain rfl : i = n := by omega
      have hT2 : t = ⟨(u8s (hexL bs)).toArray⟩ := by
        rw [hT.out, List.take_of_length_le (by rw [hl.out]; exact Nat.le_refl _)]
      clear hT
      go_wp2_with fail
      go_ret
      exact ⟨rfl, B.out⟩
end Go.Proofs.YtfhdiimcimafkaaGreatDoor
/- The document's Shape of a tree. -/
namespace Go.Proofs.YtfhdiimcimafkaaGreatDoor
open Go.RowKit
def SpAsk (N : Nat) : Prop := ∀ (bs : List Nat) (v : Int) (has leaf : Bool) (ks : Tr) (c : List Value) {w : World} {G : Nat → Prop}, tdep (.node bs v has leaf ks) ≤ N → RT w G (.node bs v has leaf ks) none 0 c → (∀ j, G j → j < w.heap.size) → TOk (.node bs v has leaf ks) → tway (.node bs v has leaf ks) ≤ 400000 → (shp (.node bs v has leaf ks)).length ≤ 40000000 → Calls Tryz.prog 23 #[.agg c.toArray] w (belowPost (.string ⟨(shp (.node bs v has leaf ks)).toArray⟩) w)
theorem shp_drop {L : List (Nat × Tr)} {i : Nat} {x : Nat × Tr} (h : L[i]? = some x) : shp (ofL (L.drop i)) = 58 :: (u8s (hexL [x.1]) ++ (shp x.2 ++ shp (ofL (L.drop (i + 1))))) := by
  have hi : i < L.length := (List.getElem?_eq_some_iff.1 h).1
  have e : L[i] = x := (List.getElem?_eq_some_iff.1 h).2
  rw [List.drop_eq_getElem_cons hi, e]; rfl
theorem tway_ofL2 : ∀ {L : List (Nat × Tr)} {x : Nat × Tr}, x ∈ L → tway x.2 ≤ tway (ofL L)
  | y :: L, x, h => by
    show _ ≤ max (1 + tway y.2) (tway (ofL L))
    rcases List.mem_cons.1 h with rfl | h
    · omega
    · have := tway_ofL2 h; omega
theorem ba_size (l : List UInt8) : (⟨l.toArray⟩ : ByteArray).size = l.length := by simp [ByteArray.size]
theorem hex_size (bs : List Nat) : (⟨(u8s (hexL bs)).toArray⟩ : ByteArray).size = 2 * bs.length := by rw [ba_size]; simp [u8s, hexL_len]
set_option maxHeartbeats 2000000 in
set_option maxRecDepth 100000 in
/-- a leaf's shape -/
theorem sp_leaf_ (bs : List Nat) (v : Int) (c : List Value) {w : World} {G : Nat → Prop} (hR : RT w G (.node bs v true true .nil) none 0 c) (hO : TOk (.node bs v true true .nil)) (hw : bs.length ≤ 400000) :
    Calls Tryz.prog 23 #[.agg c.toArray] w (belowPost (.string ⟨(shp (.node bs v true true .nil)).toArray⟩) w) := by
  obtain ⟨pa, pn, pc, ba, bn, bc, ka, rn, kc, rfl, h2, h3, rfl, h5, h6⟩ := hR
  obtain ⟨o1, o2, o3, o4, o5, o6, o7⟩ := hO
  obtain ⟨y, rfl⟩ : ∃ y : Nat, v = (y : Nat) := ⟨v.toNat, by omega⟩
  have hy : y < 18446744073709551616 := by omega
  show Calls _ _ #[.agg #[.int .i64 1, .slice pa pn pc, .bool true, .int .u64 (y : Nat), .slice ba bn bc, .slice ka 0 kc]] _ _
  obtain ⟨tx, htx⟩ : ∃ s : ByteArray, s = ⟨(u8s (hexL bs)).toArray⟩ := ⟨_, rfl⟩
  obtain ⟨sv, hsv⟩ : ∃ s : ByteArray, s = ⟨(decU y).toArray⟩ := ⟨_, rfl⟩
  obtain ⟨X1, hX1⟩ : ∃ s : ByteArray, (⟨#[76]⟩ : ByteArray) ++ tx = s := ⟨_, rfl⟩
  obtain ⟨X2, hX2⟩ : ∃ s : ByteArray, X1 ++ ⟨#[61]⟩ = s := ⟨_, rfl⟩
  obtain ⟨X3, hX3⟩ : ∃ s : ByteArray, X2 ++ sv = s := ⟨_, rfl⟩
  have e1 : X1 = ⟨(76 :: u8s (hexL bs)).toArray⟩ := by rw [← hX1, htx]; exact cat_str [76] _
  have e2 : X2 = ⟨(76 :: u8s (hexL bs) ++ [61]).toArray⟩ := by rw [← hX2, e1]; exact cat_str _ [61]
  have e3 : X3 = ⟨(shp (.node bs (y : Nat) true true .nil)).toArray⟩ := by rw [← hX3, e2, hsv, cat_str]; simp [shp]
  have d1 := decU_len hy
  have t1 : tx.size ≤ 800000 := by rw [htx, hex_size]; omega
  have t2 : sv.size ≤ 20 := by rw [hsv, ba_size]; exact d1
  have t3 : X1.size ≤ 800001 := by rw [e1, ba_size]; simp [u8s, hexL_len]; omega
  have t4 : X2.size ≤ 800002 := by rw [e2, ba_size]; simp [u8s, hexL_len]; omega
  have n1 : ¬ 9223372036854775807 < 1 + tx.size := by omega
  have n2 : ¬ 9223372036854775807 < X1.size + 1 := by omega
  have n3 : ¬ 9223372036854775807 < X2.size + sv.size := by omega
  have E3 := Lib.hid e3
  obtain ⟨wb, hwb⟩ : ∃ wb, wb = w.alloc (.cells #[.int .i64 1, .slice pa pn pc, .bool true, .int .u64 (y : Nat), .slice ba bn bc, .slice ka 0 kc] rnT) := ⟨_, rfl⟩
  have hbox : wb.heap[w.heap.size]? = some (.cells [.int .i64 1, .slice pa pn pc, .bool true, .int .u64 (y : Nat), .slice ba bn bc, .slice ka 0 kc].toArray rnT (0, 0)) := by rw [hwb]; exact six_new w _ _ _ _ _ _ rnT
  have hB : Hid (Below w.heap.size w wb) := by rw [hwb]; exact below_al w _
  have hall : Hid (∀ X, Below wb.heap.size wb X → X.cell? ⟨w.heap.size, 0, none⟩ = some (.int .i64 1) ∧ X.cell? ⟨w.heap.size, 1, none⟩ = some (.slice pa pn pc) ∧ X.cell? ⟨w.heap.size, 3, none⟩ = some (.int .u64 (y : Nat))) := fun X hb => by
    obtain ⟨x0, x1, x2, x3, x4, x5, _⟩ := six_facts ((hb.block w.heap.size (Array.getElem?_eq_some_iff.1 hbox).1).trans hbox)
    exact ⟨x0, x1, x3⟩
  obtain ⟨x0, x1, x3⟩ := hall.out wb (Below.refl _ _)
  have hTx : Hid (∀ X, Below w.heap.size w X → Calls Tryz.prog 55 #[.slice pa pn pc] X (belowPost (.string tx) X)) := fun X hb => by rw [htx]; exact ref_text (h2.sl.below hb) (by rw [← h2.sl.len]; omega)
  have hDg : Hid (∀ X, Calls Tryz.prog 56 #[.int .u64 (y : Nat)] X (belowPost (.string sv) X)) := fun X => by rw [hsv]; exact ref_digits X y hy
  have Hx1 := Lib.hid hX1
  have Hx2 := Lib.hid hX2
  have Hx3 := Lib.hid hX3
  have R0 := Lib.hid (Below.refl wb.heap.size wb)
  have R1 : Hid (Below wb.heap.size wb wb.drew) := (Below.refl wb.heap.size wb).drew
  clear h2 h3 h5 h6 o1 o2 o3 o4 o5 o6 o7 hbox e1 e2 e3 htx hsv d1 hy hw
  go_enter Tryz.func23, Tryz.ntmps23
  go_upto_region 1 with fail
  rw [← hwb]
  clear hwb
  go_wp2_with fail
  go_region_held3 (fun w' => w'.cell? ⟨w.heap.size, 0, none⟩ = some (.int .i64 1) ∧ w'.cell? ⟨w.heap.size, 1, none⟩ = some (.slice pa pn pc) ∧ w'.cell? ⟨w.heap.size, 3, none⟩ = some (.int .u64 (y : Nat)))
    (first | exact hall.out _ B2.out | exact hall.out _ B1.out | exact hall.out _ R1.out | exact hall.out _ R0.out)
    (first
      | (go_simp; go_at_call 56; have g0 := B1; refine (hDg.out _).mono ?_; rintro e w2 ⟨rfl, z⟩; have B2 := Lib.hid (B1.out.trans (z.mono B1.out.size)); clear z)
      | (go_simp; go_at_call 55; refine (hTx.out _ (hB.out.trans (R1.out.mono hB.out.size))).mono ?_; rintro e w1 ⟨rfl, z⟩; have B1 := Lib.hid (R1.out.trans (z.mono R1.out.size)); clear z))
  (try simp only [Exit.then, Exit.inBlock])
  go_wp2_with fail
  go_ret
  exact ⟨by rw [E3.out]; rfl, hB.out.trans (B2.out.mono hB.out.size)⟩
end Go.Proofs.YtfhdiimcimafkaaGreatDoor
/- The document's Shape of an inner node. -/
namespace Go.Proofs.YtfhdiimcimafkaaGreatDoor
open Go.RowKit
set_option maxHeartbeats 8000000 in
set_option maxRecDepth 100000 in
theorem sp_in_true (N : Nat) (IH : SpAsk N) (bs : List Nat) (v : Int) (ks : Tr) (c : List Value) {w : World} {G : Nat → Prop} (hdp : tdep ks ≤ N) (hR : RT w G (.node bs v true false ks) none 0 c) (hG : ∀ j, G j → j < w.heap.size) (hO : TOk (.node bs v true false ks)) (hw : tway (.node bs v true false ks) ≤ 400000) (hL40 : (shp (.node bs v true false ks)).length ≤ 40000000) :
    Calls Tryz.prog 23 #[.agg c.toArray] w (belowPost (.string ⟨(shp (.node bs v true false ks)).toArray⟩) w) := by
  obtain ⟨pa, pn, pc, ba, bn, bc, ka, rn, rc, rfl, h2, h3, rfl, h5, h6⟩ := hR
  obtain ⟨o1, o2, o3, o4, o5, o6, o7⟩ := hO
  obtain ⟨y, rfl⟩ : ∃ y : Nat, v = (y : Nat) := ⟨v.toNat, by omega⟩
  have hy : y < 18446744073709551616 := by omega
  have hR6 := rt_chain h6 o6 o7
  have hke := ofL_chain ks o6 o7
  have hkc := krowC_chain ks o6
  obtain ⟨L, hL⟩ : ∃ L, L = chain ks := ⟨_, rfl⟩
  rw [← hL] at hR6 hke hkc ⊢
  rw [← hL] at h3
  obtain ⟨m, hm⟩ : ∃ m, m = L.length := ⟨_, rfl⟩
  rw [← hm] at hkc ⊢
  have hm2 : m ≤ 256 := by have := chain256 o6 o7; rw [← hL, ← hm] at this; exact this
  obtain ⟨kd, hkd⟩ : ∃ kd, kd = kindOf m := ⟨_, rfl⟩
  have hrk : rkind false ks = kd := by rw [hkd]; unfold rkind; simp only [Bool.false_eq_true, if_false]; rw [← hL, ← hm]
  show Calls _ _ #[.agg #[.int .i64 ((rkind false ks : Nat) : Int), .slice pa pn pc, .bool true, .int .u64 (y : Nat), .slice ba bn bc, .slice ka m rc]] _ _
  rw [hrk]
  have hkd1 : 1 < kd ∧ kd ≤ 256 := by rw [hkd]; unfold kindOf; split <;> (try split) <;> (try split) <;> omega
  have hk0 : ((kd : Int) == 0) = false := by rw [beq_eq_false_iff_ne]; omega
  have hk1 : ((kd : Int) == 1) = false := by rw [beq_eq_false_iff_ne]; omega
  have hkw : IntKind.u64.wrap (kd : Int) = (kd : Int) := by
    show (kd : Int) % 18446744073709551616 = _
    omega
  obtain ⟨tx, htx⟩ : ∃ s : ByteArray, s = ⟨(u8s (hexL bs)).toArray⟩ := ⟨_, rfl⟩
  obtain ⟨dk, hdk⟩ : ∃ s : ByteArray, s = ⟨(decU kd).toArray⟩ := ⟨_, rfl⟩
  obtain ⟨sv, hsv⟩ : ∃ s : ByteArray, s = ⟨(decU y).toArray⟩ := ⟨_, rfl⟩
  obtain ⟨X1, hX1⟩ : ∃ s : ByteArray, dk ++ ⟨#[60]⟩ = s := ⟨_, rfl⟩
  obtain ⟨X2, hX2⟩ : ∃ s : ByteArray, X1 ++ tx = s := ⟨_, rfl⟩
  obtain ⟨X3, hX3⟩ : ∃ s : ByteArray, (⟨#[61]⟩ : ByteArray) ++ sv = s := ⟨_, rfl⟩
  obtain ⟨X4, hX4⟩ : ∃ s : ByteArray, X2 ++ X3 = s := ⟨_, rfl⟩
  have e1 : X1 = ⟨(decU kd ++ [60]).toArray⟩ := by rw [← hX1, hdk]; exact cat_str _ [60]
  have e2 : X2 = ⟨(decU kd ++ [60] ++ u8s (hexL bs)).toArray⟩ := by rw [← hX2, e1, htx, cat_str]
  have e3 : X3 = ⟨(61 :: decU y).toArray⟩ := by rw [← hX3, hsv]; exact cat_str [61] _
  have e4 : X4 = ⟨(decU kd ++ [60] ++ u8s (hexL bs) ++ (61 :: decU y)).toArray⟩ := by rw [← hX4, e2, e3, cat_str]
  have d1 := decU_len hy
  have d2 := decU_len (n := kd) (by omega)
  have hbs : bs.length ≤ 400000 := by simp only [tway] at hw; omega
  have t1 : tx.size ≤ 800000 := by rw [htx, hex_size]; omega
  have t2 : sv.size ≤ 20 := by rw [hsv, ba_size]; exact d1
  have t0 : dk.size ≤ 20 := by rw [hdk, ba_size]; exact d2
  have t3 : X1.size ≤ 30 := by rw [e1, ba_size]; simp; omega
  have t4 : X2.size ≤ 800040 := by rw [e2, ba_size]; simp [u8s, hexL_len]; omega
  have t5 : X3.size ≤ 30 := by rw [e3, ba_size]; simp; omega
  have n1 : ¬ 9223372036854775807 < dk.size + 1 := by omega
  have n2 : ¬ 9223372036854775807 < X1.size + tx.size := by omega
  have n3 : ¬ 9223372036854775807 < 1 + sv.size := by omega
  have n4 : ¬ 9223372036854775807 < X2.size + X3.size := by omega
  obtain ⟨A, hA⟩ : ∃ A, A = shp (.node bs (y : Nat) true false ks) := ⟨_, rfl⟩
  rw [← hA] at hL40 ⊢
  obtain ⟨S0, hS0⟩ : ∃ S0, S0 = decU kd ++ [60] ++ u8s (hexL bs) ++ (61 :: decU y) := ⟨_, rfl⟩
  have eS : X4 = ⟨S0.toArray⟩ := by rw [e4, hS0]
  have hAe : S0 ++ (shp (ofL (L.drop 0)) ++ [62]) = A := by
    rw [List.drop_zero, hke, hA, hS0]
    simp [shp, hkc, hkd]
  have HA := Lib.hid hAe
  have HA40 := Lib.hid hL40
  have ES := Lib.hid eS
  have HOL : Hid (TOk (ofL L)) := by rw [hke]; exact o7
  have HdL : Hid (tdep (ofL L) ≤ N ∧ tway (ofL L) ≤ 400000) := by rw [hke]; exact ⟨hdp, by simp only [tway] at hw; omega⟩
  have H6 := Lib.hid hR6
  have HG := Lib.hid hG
  have HIH := Lib.hid IH
  have H3 := Lib.hid h3
  have HmL := Lib.hid hm
  obtain ⟨wb, hwb⟩ : ∃ wb, wb = w.alloc (.cells #[.int .i64 (kd : Nat), .slice pa pn pc, .bool true, .int .u64 (y : Nat), .slice ba bn bc, .slice ka m rc] rnT) := ⟨_, rfl⟩
  have hbox : wb.heap[w.heap.size]? = some (.cells [.int .i64 (kd : Nat), .slice pa pn pc, .bool true, .int .u64 (y : Nat), .slice ba bn bc, .slice ka m rc].toArray rnT (0, 0)) := by rw [hwb]; exact six_new w _ _ _ _ _ _ rnT
  have HB : Hid (Below w.heap.size w wb) := by rw [hwb]; exact below_al w _
  have hall : Hid (∀ X, Below wb.heap.size wb X → X.cell? ⟨w.heap.size, 0, none⟩ = some (.int .i64 (kd : Nat)) ∧ X.cell? ⟨w.heap.size, 1, none⟩ = some (.slice pa pn pc) ∧ X.cell? ⟨w.heap.size, 2, none⟩ = some (.bool true) ∧ X.cell? ⟨w.heap.size, 3, none⟩ = some (.int .u64 (y : Nat)) ∧ X.cell? ⟨w.heap.size, 4, none⟩ = some (.slice ba bn bc) ∧ X.cell? ⟨w.heap.size, 5, none⟩ = some (.slice ka m rc)) := fun X hb => by
    obtain ⟨x0, x1, x2, x3, x4, x5, _⟩ := six_facts ((hb.block w.heap.size (Array.getElem?_eq_some_iff.1 hbox).1).trans hbox)
    exact ⟨x0, x1, x2, x3, x4, x5⟩
  obtain ⟨x0, x1, x2, x3, x4, x5⟩ := hall.out wb (Below.refl _ _)
  have hTx : Hid (∀ X, Below w.heap.size w X → Calls Tryz.prog 55 #[.slice pa pn pc] X (belowPost (.string tx) X)) := fun X hb => by rw [htx]; exact ref_text (h2.sl.below hb) (by rw [← h2.sl.len]; omega)
  have hDk : Hid (∀ X, Calls Tryz.prog 56 #[.int .u64 (kd : Nat)] X (belowPost (.string dk) X)) := fun X => by rw [hdk]; exact ref_digits X kd (by omega)
  have hDg : Hid (∀ X, Calls Tryz.prog 56 #[.int .u64 (y : Nat)] X (belowPost (.string sv) X)) := fun X => by rw [hsv]; exact ref_digits X y hy
  have R0 := Lib.hid (Below.refl wb.heap.size wb)
  have R1 : Hid (Below wb.heap.size wb wb.drew) := (Below.refl wb.heap.size wb).drew
  clear h2 h3 h5 h6 o1 o2 o3 o4 o5 o6 o7 hbox e1 e2 e3 e4 eS htx hdk hsv d1 d2 hy hw hbs hdp hL40 hA hAe hS0 hR6 hke hkc hL hm hkd hrk IH hG t0 t1 t2 t3 t4 t5
  go_enter Tryz.func23, Tryz.ntmps23
  go_upto_region 1 with fail
  rw [← hwb]
  clear hwb
  go_wp2_with fail
  go_region_held3 (fun w' => w'.cell? ⟨w.heap.size, 0, none⟩ = some (.int .i64 (kd : Nat)) ∧ w'.cell? ⟨w.heap.size, 1, none⟩ = some (.slice pa pn pc))
    (first | exact ⟨(hall.out _ B2.out).1, (hall.out _ B2.out).2.1⟩ | exact ⟨(hall.out _ B1.out).1, (hall.out _ B1.out).2.1⟩ | exact ⟨(hall.out _ R1.out).1, (hall.out _ R1.out).2.1⟩ | exact ⟨(hall.out _ R0.out).1, (hall.out _ R0.out).2.1⟩)
    (first
      | (go_simp; go_at_call 55; have g0 := B1; refine (hTx.out _ (HB.out.trans (B1.out.mono HB.out.size))).mono ?_; rintro e w2 ⟨rfl, z⟩; have B2 := Lib.hid (B1.out.trans (z.mono B1.out.size)); clear z)
      | (go_simp; go_at_call 56; refine (hDk.out _).mono ?_; rintro e w1 ⟨rfl, z⟩; have B1 := Lib.hid (R1.out.trans (z.mono R1.out.size)); clear z))
  (try simp only [Exit.then, Exit.inBlock])
  obtain ⟨z0, z1, z2, z3, z4, z5⟩ := hall.out w2 B2.out
  clear x0 x1 x2 x3 x4 x5 hTx hDk
  go_wp2_with (go_at_call 56; refine (hDg.out _).mono ?_; rintro e w3 ⟨rfl, z⟩; have B3 := Lib.hid (B2.out.trans (z.mono B2.out.size)); clear z)
  clear z0 z1 z2 z3 z4 z5 hX1 hX2 hX3 hX4 n1 n2 n3 n4 hDg
  go_loopw [4, 3] (fun s4 s3 wr => ∃ (i : Nat) (S : ByteArray), s4 = .int .i64 (i : Nat) ∧ s3 = .string S ∧ i ≤ m ∧ Hid (∃ acc : List UInt8, S = ⟨acc.toArray⟩ ∧ acc ++ (shp (ofL (L.drop i)) ++ [62]) = A) ∧ Hid (Below wb.heap.size wb wr)) (fun s4 _ _ => (m - intOf s4).toNat)
  case atStart => exact ⟨0, _, rfl, rfl, Nat.zero_le _, ⟨S0, ES.out, HA.out⟩, B3⟩
  case round =>
    clear B1 B2 B3 R1 R0 HA ES
    obtain ⟨i, S, rfl, rfl, him, hI, hBr⟩ := hrel
    obtain ⟨x0, x1, x2, x3, x4, x5⟩ := hall.out wr hBr.out
    obtain ⟨acc, hSe, hacc⟩ := hI.out
    have hal : acc.length + 1 ≤ 40000000 := by
      have := congrArg List.length hacc
      have := HA40.out
      simp only [List.length_append, List.length_cons, List.length_nil] at *
      omega
    have hSsz : S.size ≤ 40000000 := by rw [hSe, ba_size]; omega
    by_cases hlt : i < m
    · have l1 : (i : Int) < (m : Int) := by omega
      have l0 : (0 : Int) ≤ (i : Int) := by omega
      have hiL : i < L.length := by rw [← HmL.out]; exact hlt
      have l2 : (i : Int) < (bn : Int) := by have := H3.out.sl.len; rw [List.length_map] at this; omega
      obtain ⟨q, hq⟩ : ∃ q, L[i]? = some q := ⟨_, List.getElem?_eq_getElem hiL⟩
      obtain ⟨pb, rfl, hz1, hz2⟩ := H3.out.sl.at_.2 i (by rw [List.length_map]; exact hiL)
      have hz3 : (L.map (·.1)).getD i 0 = q.1 := by rw [List.getD, List.getElem?_map, hq]; rfl
      rw [hz3] at hz2
      obtain ⟨g, c', hg1, hg2, hg3, hg4, hg5⟩ := rt_at H6.out i q hq
      have hdr := shp_drop hq
      rw [hdr] at hacc
      obtain ⟨yb, yt⟩ := q
      have hym := List.mem_of_getElem? hq
      have hyT := ((tok_ofL L).1 HOL.out).1 (yb, yt) hym
      have hyD : tdep yt ≤ N := Nat.le_trans (tdep_ofL2 hym) HdL.out.1
      have hyW : tway yt ≤ 400000 := Nat.le_trans (tway_ofL2 hym) HdL.out.2
      have hyb : yb < 256 := hyT.1
      have hlen := congrArg List.length hacc
      have hA4 := HA40.out
      simp only [List.length_append, List.length_cons, List.length_nil] at hlen
      cases yt with
      | nil => exact hyT.2.1.elim
      | kid => exact hyT.2.1.elim
      | node bs' v' has' leaf' ks' =>
        have hg5 : RT w G (.node bs' v' has' leaf' ks') none 0 c' := hg5
        have hdn : Hid (∀ X, Below w.heap.size w X → Calls Tryz.prog 23 #[.agg c'.toArray] X (belowPost (.string ⟨(shp (.node bs' v' has' leaf' ks')).toArray⟩) X)) := fun X hb =>
          HIH.out bs' v' has' leaf' ks' c' hyD (hg5.keep hb.size fun j hj => hb.block j (HG.out j hj)) (fun j hj => Nat.lt_of_lt_of_le (HG.out j hj) hb.size) hyT.2.2 hyW (by omega)
        obtain ⟨pa', pn', pc', ba', bn', bc', ka', kn', kc', hc', hx'⟩ := hg5
        clear hx'
        subst hc'
        obtain ⟨KD', hKD'⟩ : ∃ x : Int, x = ((rkind leaf' ks' : Nat) : Int) := ⟨_, rfl⟩
        rw [← hKD'] at hdn hg4
        simp only at hacc hlen
        generalize shp (.node bs' v' has' leaf' ks') = SK at *
        subst hg1
        rw [Nat.zero_add] at hg4
        obtain ⟨sk, hsk⟩ : ∃ s : ByteArray, s = ⟨SK.toArray⟩ := ⟨_, rfl⟩
        rw [← hsk] at hdn
        obtain ⟨sb, hsb⟩ : ∃ s : ByteArray, s = ⟨(u8s (hexL [yb])).toArray⟩ := ⟨_, rfl⟩
        obtain ⟨Y1, hY1⟩ : ∃ s : ByteArray, (⟨#[58]⟩ : ByteArray) ++ sb = s := ⟨_, rfl⟩
        obtain ⟨Y2, hY2⟩ : ∃ s : ByteArray, Y1 ++ sk = s := ⟨_, rfl⟩
        obtain ⟨Y3, hY3⟩ : ∃ s : ByteArray, S ++ Y2 = s := ⟨_, rfl⟩
        have f1 : Y1 = ⟨(58 :: u8s (hexL [yb])).toArray⟩ := by rw [← hY1, hsb]; exact cat_str [58] _
        have f2 : Y2 = ⟨(58 :: u8s (hexL [yb]) ++ SK).toArray⟩ := by rw [← hY2, f1, hsk, cat_str]
        have f3 : Y3 = ⟨(acc ++ (58 :: u8s (hexL [yb]) ++ SK)).toArray⟩ := by rw [← hY3, f2, hSe, cat_str]
        have u1 : sb.size = 2 := by rw [hsb, hex_size]; rfl
        have u2 : Y1.size ≤ 10 := by rw [f1, ba_size]; simp [u8s, hexL_len]
        have u3 : sk.size ≤ 40000000 := by rw [hsk, ba_size]; omega
        have u4 : Y2.size ≤ 40000000 := by rw [f2, ba_size]; simp [u8s, hexL_len] at hlen ⊢; omega
        have n1 : ¬ 9223372036854775807 < 1 + sb.size := by omega
        have n2 : ¬ 9223372036854775807 < Y1.size + sk.size := by omega
        have n3 : ¬ 9223372036854775807 < S.size + Y2.size := by omega
        have hI2 : Hid (∃ acc : List UInt8, Y3 = ⟨acc.toArray⟩ ∧ acc ++ (shp (ofL (L.drop (i + 1))) ++ [62]) = A) := ⟨_, f3, by rw [← hacc]; simp⟩
        have hS : Hid (∀ X, Below wb.heap.size wb X → X.cell? ⟨w.heap.size, 4, none⟩ = some (.slice (some pb) bn bc) ∧ X.cell? ⟨w.heap.size, 5, none⟩ = some (.slice (some ⟨g, 0, none⟩) m rc) ∧ X.cell? (pb.add i) = some (.int .u8 (yb : Nat)) ∧ X.cell? ⟨g, i * 6, none⟩ = some (.int .i64 KD') ∧ X.cell? ⟨g, i * 6 + 1, none⟩ = some (.slice pa' pn' pc') ∧ X.cell? ⟨g, i * 6 + 2, none⟩ = some (.bool has') ∧ X.cell? ⟨g, i * 6 + 3, none⟩ = some (.int .u64 v') ∧ X.cell? ⟨g, i * 6 + 4, none⟩ = some (.slice ba' bn' bc') ∧ X.cell? ⟨g, i * 6 + 5, none⟩ = some (.slice ka' kn' kc')) := fun X hb => by
          obtain ⟨_, _, _, _, p4, p5⟩ := hall.out X hb
          have hwX := HB.out.trans (hb.mono HB.out.size)
          have hgl := HG.out g hg2
          have e : ∀ j, X.cell? ⟨g, j, none⟩ = w.cell? ⟨g, j, none⟩ := fun j => hwX.cell (p := ⟨g, j, none⟩) hgl
          exact ⟨p4, p5, (hwX.cell hz1).trans hz2, by rw [e]; exact hg4 0 (by omega), by rw [e]; exact hg4 1 (by omega), by rw [e]; exact hg4 2 (by omega), by rw [e]; exact hg4 3 (by omega), by rw [e]; exact hg4 4 (by omega), by rw [e]; exact hg4 5 (by omega)⟩
        have hw9 : IntKind.i64.wrap (((i : Nat) : Int) + 1) = ((i + 1 : Nat) : Int) := by rw [show ((i : Nat) : Int) + 1 = ((i + 1 : Nat) : Int) by omega]; exact IntWalk.i64_in _ (by omega)
        have hAl0 : Hid (Below wb.heap.size wb (wr.drew.alloc (.cells #[.int .u8 (yb : Nat)] 5))) := hBr.out.drew.alloc hBr.out.size _
        have hAl1 : Hid (Below wb.heap.size wb wr.drew) := hBr.out.drew
        have hT1 : Hid (Calls Tryz.prog 55 #[.slice (some ⟨wr.heap.size, 0, none⟩) 1 1] (wr.drew.alloc (.cells #[.int .u8 (yb : Nat)] 5)) (belowPost (.string sb) (wr.drew.alloc (.cells #[.int .u8 (yb : Nat)] 5)))) := by
          rw [hsb]; exact ref_text (sl_one wr.drew yb 5 hyb) (by omega)
        clear hq hz1 hz2 hz3 hiL hg4 hyT hdr hKD' hg3 hym hyD hyW hyb hlen hA4 hacc hal hSe hI hSsz f1 f2 f3 u1 u2 u3 u4 hsk hsb
        go_wp2_with fail
        go_region_held3 (fun w' => w'.cell? ⟨w.heap.size, 4, none⟩ = some (.slice (some pb) bn bc) ∧ w'.cell? ⟨w.heap.size, 5, none⟩ = some (.slice (some ⟨g, 0, none⟩) m rc) ∧ w'.cell? (pb.add i) = some (.int .u8 (yb : Nat)) ∧ w'.cell? ⟨g, i * 6, none⟩ = some (.int .i64 KD') ∧ w'.cell? ⟨g, i * 6 + 1, none⟩ = some (.slice pa' pn' pc') ∧ w'.cell? ⟨g, i * 6 + 2, none⟩ = some (.bool has') ∧ w'.cell? ⟨g, i * 6 + 3, none⟩ = some (.int .u64 v') ∧ w'.cell? ⟨g, i * 6 + 4, none⟩ = some (.slice ba' bn' bc') ∧ w'.cell? ⟨g, i * 6 + 5, none⟩ = some (.slice ka' kn' kc'))
          (first | exact hS.out _ B7.out | exact hS.out _ B6.out | exact hS.out _ hAl0.out | exact hS.out _ hAl1.out | exact hS.out _ hBr.out)
          (first
            | (go_simp; go_at_call 23; have g0 := B6; refine (hdn.out _ (HB.out.trans (B6.out.mono HB.out.size))).mono ?_; rintro e w7 ⟨rfl, z⟩; have B7 := Lib.hid (B6.out.trans (z.mono B6.out.size)); clear z)
            | (go_simp; go_at_call 55; refine hT1.out.mono ?_; rintro e w6 ⟨rfl, z⟩; have B6 := Lib.hid (hAl0.out.trans (z.mono hAl0.out.size)); clear z))
        all_goals
          (try simp only [Exit.then, Exit.inBlock])
          go_wp2_with fail
        go_roundw
        case rel => exact ⟨i + 1, Y3, (by first | rfl | go_num), rfl, by omega, hI2, B7⟩
        case measure => (simp [intOf]) <;> omega
    · have l1 : ¬ (i : Int) < (m : Int) := by omega
      obtain rfl : i = m := by omega
      have hfin : Hid (S ++ ⟨#[62]⟩ = ⟨A.toArray⟩) := by
        show _ = _
        rw [HmL.out, List.drop_length, show shp (ofL ([] : List (Nat × Tr))) = [] from rfl, List.nil_append] at hacc
        rw [hSe, ← hacc]
        exact cat_str acc [62]
      have n9 : ¬ 9223372036854775807 < S.size + 1 := by omega
      clear hacc hal hSe hI hSsz
      go_wp2_with fail
      go_ret
      exact ⟨by first | (rw [hfin.out]; done) | (rw [hfin.out]; rfl), HB.out.trans (hBr.out.mono HB.out.size)⟩

set_option maxHeartbeats 8000000 in
set_option maxRecDepth 100000 in
theorem sp_in_false (N : Nat) (IH : SpAsk N) (bs : List Nat) (v : Int) (ks : Tr) (c : List Value) {w : World} {G : Nat → Prop} (hdp : tdep ks ≤ N) (hR : RT w G (.node bs v false false ks) none 0 c) (hG : ∀ j, G j → j < w.heap.size) (hO : TOk (.node bs v false false ks)) (hw : tway (.node bs v false false ks) ≤ 400000) (hL40 : (shp (.node bs v false false ks)).length ≤ 40000000) :
    Calls Tryz.prog 23 #[.agg c.toArray] w (belowPost (.string ⟨(shp (.node bs v false false ks)).toArray⟩) w) := by
  obtain ⟨pa, pn, pc, ba, bn, bc, ka, rn, rc, rfl, h2, h3, rfl, h5, h6⟩ := hR
  obtain ⟨o1, o2, o3, o4, o5, o6, o7⟩ := hO
  obtain ⟨y, rfl⟩ : ∃ y : Nat, v = (y : Nat) := ⟨v.toNat, by omega⟩
  have hy : y < 18446744073709551616 := by omega
  have hR6 := rt_chain h6 o6 o7
  have hke := ofL_chain ks o6 o7
  have hkc := krowC_chain ks o6
  obtain ⟨L, hL⟩ : ∃ L, L = chain ks := ⟨_, rfl⟩
  rw [← hL] at hR6 hke hkc ⊢
  rw [← hL] at h3
  obtain ⟨m, hm⟩ : ∃ m, m = L.length := ⟨_, rfl⟩
  rw [← hm] at hkc ⊢
  have hm2 : m ≤ 256 := by have := chain256 o6 o7; rw [← hL, ← hm] at this; exact this
  obtain ⟨kd, hkd⟩ : ∃ kd, kd = kindOf m := ⟨_, rfl⟩
  have hrk : rkind false ks = kd := by rw [hkd]; unfold rkind; simp only [Bool.false_eq_true, if_false]; rw [← hL, ← hm]
  show Calls _ _ #[.agg #[.int .i64 ((rkind false ks : Nat) : Int), .slice pa pn pc, .bool false, .int .u64 (y : Nat), .slice ba bn bc, .slice ka m rc]] _ _
  rw [hrk]
  have hkd1 : 1 < kd ∧ kd ≤ 256 := by rw [hkd]; unfold kindOf; split <;> (try split) <;> (try split) <;> omega
  have hk0 : ((kd : Int) == 0) = false := by rw [beq_eq_false_iff_ne]; omega
  have hk1 : ((kd : Int) == 1) = false := by rw [beq_eq_false_iff_ne]; omega
  have hkw : IntKind.u64.wrap (kd : Int) = (kd : Int) := by
    show (kd : Int) % 18446744073709551616 = _
    omega
  obtain ⟨tx, htx⟩ : ∃ s : ByteArray, s = ⟨(u8s (hexL bs)).toArray⟩ := ⟨_, rfl⟩
  obtain ⟨dk, hdk⟩ : ∃ s : ByteArray, s = ⟨(decU kd).toArray⟩ := ⟨_, rfl⟩
  obtain ⟨sv, hsv⟩ : ∃ s : ByteArray, s = ⟨(decU y).toArray⟩ := ⟨_, rfl⟩
  obtain ⟨X1, hX1⟩ : ∃ s : ByteArray, dk ++ ⟨#[60]⟩ = s := ⟨_, rfl⟩
  obtain ⟨X2, hX2⟩ : ∃ s : ByteArray, X1 ++ tx = s := ⟨_, rfl⟩
  obtain ⟨X3, hX3⟩ : ∃ s : ByteArray, (⟨#[61]⟩ : ByteArray) ++ sv = s := ⟨_, rfl⟩
  obtain ⟨X4, hX4⟩ : ∃ s : ByteArray, X2 ++ X3 = s := ⟨_, rfl⟩
  have e1 : X1 = ⟨(decU kd ++ [60]).toArray⟩ := by rw [← hX1, hdk]; exact cat_str _ [60]
  have e2 : X2 = ⟨(decU kd ++ [60] ++ u8s (hexL bs)).toArray⟩ := by rw [← hX2, e1, htx, cat_str]
  have e3 : X3 = ⟨(61 :: decU y).toArray⟩ := by rw [← hX3, hsv]; exact cat_str [61] _
  have e4 : X4 = ⟨(decU kd ++ [60] ++ u8s (hexL bs) ++ (61 :: decU y)).toArray⟩ := by rw [← hX4, e2, e3, cat_str]
  have d1 := decU_len hy
  have d2 := decU_len (n := kd) (by omega)
  have hbs : bs.length ≤ 400000 := by simp only [tway] at hw; omega
  have t1 : tx.size ≤ 800000 := by rw [htx, hex_size]; omega
  have t2 : sv.size ≤ 20 := by rw [hsv, ba_size]; exact d1
  have t0 : dk.size ≤ 20 := by rw [hdk, ba_size]; exact d2
  have t3 : X1.size ≤ 30 := by rw [e1, ba_size]; simp; omega
  have t4 : X2.size ≤ 800040 := by rw [e2, ba_size]; simp [u8s, hexL_len]; omega
  have t5 : X3.size ≤ 30 := by rw [e3, ba_size]; simp; omega
  have n1 : ¬ 9223372036854775807 < dk.size + 1 := by omega
  have n2 : ¬ 9223372036854775807 < X1.size + tx.size := by omega
  have n3 : ¬ 9223372036854775807 < 1 + sv.size := by omega
  have n4 : ¬ 9223372036854775807 < X2.size + X3.size := by omega
  obtain ⟨A, hA⟩ : ∃ A, A = shp (.node bs (y : Nat) false false ks) := ⟨_, rfl⟩
  rw [← hA] at hL40 ⊢
  obtain ⟨S0, hS0⟩ : ∃ S0, S0 = decU kd ++ [60] ++ u8s (hexL bs) := ⟨_, rfl⟩
  have eS : X2 = ⟨S0.toArray⟩ := by rw [e2, hS0]
  have hAe : S0 ++ (shp (ofL (L.drop 0)) ++ [62]) = A := by
    rw [List.drop_zero, hke, hA, hS0]
    simp [shp, hkc, hkd]
  have HA := Lib.hid hAe
  have HA40 := Lib.hid hL40
  have ES := Lib.hid eS
  have HOL : Hid (TOk (ofL L)) := by rw [hke]; exact o7
  have HdL : Hid (tdep (ofL L) ≤ N ∧ tway (ofL L) ≤ 400000) := by rw [hke]; exact ⟨hdp, by simp only [tway] at hw; omega⟩
  have H6 := Lib.hid hR6
  have HG := Lib.hid hG
  have HIH := Lib.hid IH
  have H3 := Lib.hid h3
  have HmL := Lib.hid hm
  obtain ⟨wb, hwb⟩ : ∃ wb, wb = w.alloc (.cells #[.int .i64 (kd : Nat), .slice pa pn pc, .bool false, .int .u64 (y : Nat), .slice ba bn bc, .slice ka m rc] rnT) := ⟨_, rfl⟩
  have hbox : wb.heap[w.heap.size]? = some (.cells [.int .i64 (kd : Nat), .slice pa pn pc, .bool false, .int .u64 (y : Nat), .slice ba bn bc, .slice ka m rc].toArray rnT (0, 0)) := by rw [hwb]; exact six_new w _ _ _ _ _ _ rnT
  have HB : Hid (Below w.heap.size w wb) := by rw [hwb]; exact below_al w _
  have hall : Hid (∀ X, Below wb.heap.size wb X → X.cell? ⟨w.heap.size, 0, none⟩ = some (.int .i64 (kd : Nat)) ∧ X.cell? ⟨w.heap.size, 1, none⟩ = some (.slice pa pn pc) ∧ X.cell? ⟨w.heap.size, 2, none⟩ = some (.bool false) ∧ X.cell? ⟨w.heap.size, 3, none⟩ = some (.int .u64 (y : Nat)) ∧ X.cell? ⟨w.heap.size, 4, none⟩ = some (.slice ba bn bc) ∧ X.cell? ⟨w.heap.size, 5, none⟩ = some (.slice ka m rc)) := fun X hb => by
    obtain ⟨x0, x1, x2, x3, x4, x5, _⟩ := six_facts ((hb.block w.heap.size (Array.getElem?_eq_some_iff.1 hbox).1).trans hbox)
    exact ⟨x0, x1, x2, x3, x4, x5⟩
  obtain ⟨x0, x1, x2, x3, x4, x5⟩ := hall.out wb (Below.refl _ _)
  have hTx : Hid (∀ X, Below w.heap.size w X → Calls Tryz.prog 55 #[.slice pa pn pc] X (belowPost (.string tx) X)) := fun X hb => by rw [htx]; exact ref_text (h2.sl.below hb) (by rw [← h2.sl.len]; omega)
  have hDk : Hid (∀ X, Calls Tryz.prog 56 #[.int .u64 (kd : Nat)] X (belowPost (.string dk) X)) := fun X => by rw [hdk]; exact ref_digits X kd (by omega)
  have hDg : Hid (∀ X, Calls Tryz.prog 56 #[.int .u64 (y : Nat)] X (belowPost (.string sv) X)) := fun X => by rw [hsv]; exact ref_digits X y hy
  have R0 := Lib.hid (Below.refl wb.heap.size wb)
  have R1 : Hid (Below wb.heap.size wb wb.drew) := (Below.refl wb.heap.size wb).drew
  clear h2 h3 h5 h6 o1 o2 o3 o4 o5 o6 o7 hbox e1 e2 e3 e4 eS htx hdk hsv d1 d2 hy hw hbs hdp hL40 hA hAe hS0 hR6 hke hkc hL hm hkd hrk IH hG t0 t1 t2 t3 t4 t5
  go_enter Tryz.func23, Tryz.ntmps23
  go_upto_region 1 with fail
  rw [← hwb]
  clear hwb
  go_wp2_with fail
  go_region_held3 (fun w' => w'.cell? ⟨w.heap.size, 0, none⟩ = some (.int .i64 (kd : Nat)) ∧ w'.cell? ⟨w.heap.size, 1, none⟩ = some (.slice pa pn pc))
    (first | exact ⟨(hall.out _ B2.out).1, (hall.out _ B2.out).2.1⟩ | exact ⟨(hall.out _ B1.out).1, (hall.out _ B1.out).2.1⟩ | exact ⟨(hall.out _ R1.out).1, (hall.out _ R1.out).2.1⟩ | exact ⟨(hall.out _ R0.out).1, (hall.out _ R0.out).2.1⟩)
    (first
      | (go_simp; go_at_call 55; have g0 := B1; refine (hTx.out _ (HB.out.trans (B1.out.mono HB.out.size))).mono ?_; rintro e w2 ⟨rfl, z⟩; have B2 := Lib.hid (B1.out.trans (z.mono B1.out.size)); clear z)
      | (go_simp; go_at_call 56; refine (hDk.out _).mono ?_; rintro e w1 ⟨rfl, z⟩; have B1 := Lib.hid (R1.out.trans (z.mono R1.out.size)); clear z))
  (try simp only [Exit.then, Exit.inBlock])
  obtain ⟨z0, z1, z2, z3, z4, z5⟩ := hall.out w2 B2.out
  clear x0 x1 x2 x3 x4 x5 hTx hDk
  go_wp2_with fail
  have B3 := Lib.hid B2.out
  clear z0 z1 z2 z3 z4 z5 hX1 hX2 hX3 hX4 n1 n2 n3 n4 hDg
  go_loopw [4, 3] (fun s4 s3 wr => ∃ (i : Nat) (S : ByteArray), s4 = .int .i64 (i : Nat) ∧ s3 = .string S ∧ i ≤ m ∧ Hid (∃ acc : List UInt8, S = ⟨acc.toArray⟩ ∧ acc ++ (shp (ofL (L.drop i)) ++ [62]) = A) ∧ Hid (Below wb.heap.size wb wr)) (fun s4 _ _ => (m - intOf s4).toNat)
  case atStart => exact ⟨0, _, rfl, rfl, Nat.zero_le _, ⟨S0, ES.out, HA.out⟩, B3⟩
  case round =>
    clear B1 B2 B3 R1 R0 HA ES
    obtain ⟨i, S, rfl, rfl, him, hI, hBr⟩ := hrel
    obtain ⟨x0, x1, x2, x3, x4, x5⟩ := hall.out wr hBr.out
    obtain ⟨acc, hSe, hacc⟩ := hI.out
    have hal : acc.length + 1 ≤ 40000000 := by
      have := congrArg List.length hacc
      have := HA40.out
      simp only [List.length_append, List.length_cons, List.length_nil] at *
      omega
    have hSsz : S.size ≤ 40000000 := by rw [hSe, ba_size]; omega
    by_cases hlt : i < m
    · have l1 : (i : Int) < (m : Int) := by omega
      have l0 : (0 : Int) ≤ (i : Int) := by omega
      have hiL : i < L.length := by rw [← HmL.out]; exact hlt
      have l2 : (i : Int) < (bn : Int) := by have := H3.out.sl.len; rw [List.length_map] at this; omega
      obtain ⟨q, hq⟩ : ∃ q, L[i]? = some q := ⟨_, List.getElem?_eq_getElem hiL⟩
      obtain ⟨pb, rfl, hz1, hz2⟩ := H3.out.sl.at_.2 i (by rw [List.length_map]; exact hiL)
      have hz3 : (L.map (·.1)).getD i 0 = q.1 := by rw [List.getD, List.getElem?_map, hq]; rfl
      rw [hz3] at hz2
      obtain ⟨g, c', hg1, hg2, hg3, hg4, hg5⟩ := rt_at H6.out i q hq
      have hdr := shp_drop hq
      rw [hdr] at hacc
      obtain ⟨yb, yt⟩ := q
      have hym := List.mem_of_getElem? hq
      have hyT := ((tok_ofL L).1 HOL.out).1 (yb, yt) hym
      have hyD : tdep yt ≤ N := Nat.le_trans (tdep_ofL2 hym) HdL.out.1
      have hyW : tway yt ≤ 400000 := Nat.le_trans (tway_ofL2 hym) HdL.out.2
      have hyb : yb < 256 := hyT.1
      have hlen := congrArg List.length hacc
      have hA4 := HA40.out
      simp only [List.length_append, List.length_cons, List.length_nil] at hlen
      cases yt with
      | nil => exact hyT.2.1.elim
      | kid => exact hyT.2.1.elim
      | node bs' v' has' leaf' ks' =>
        have hg5 : RT w G (.node bs' v' has' leaf' ks') none 0 c' := hg5
        have hdn : Hid (∀ X, Below w.heap.size w X → Calls Tryz.prog 23 #[.agg c'.toArray] X (belowPost (.string ⟨(shp (.node bs' v' has' leaf' ks')).toArray⟩) X)) := fun X hb =>
          HIH.out bs' v' has' leaf' ks' c' hyD (hg5.keep hb.size fun j hj => hb.block j (HG.out j hj)) (fun j hj => Nat.lt_of_lt_of_le (HG.out j hj) hb.size) hyT.2.2 hyW (by omega)
        obtain ⟨pa', pn', pc', ba', bn', bc', ka', kn', kc', hc', hx'⟩ := hg5
        clear hx'
        subst hc'
        obtain ⟨KD', hKD'⟩ : ∃ x : Int, x = ((rkind leaf' ks' : Nat) : Int) := ⟨_, rfl⟩
        rw [← hKD'] at hdn hg4
        simp only at hacc hlen
        generalize shp (.node bs' v' has' leaf' ks') = SK at *
        subst hg1
        rw [Nat.zero_add] at hg4
        obtain ⟨sk, hsk⟩ : ∃ s : ByteArray, s = ⟨SK.toArray⟩ := ⟨_, rfl⟩
        rw [← hsk] at hdn
        obtain ⟨sb, hsb⟩ : ∃ s : ByteArray, s = ⟨(u8s (hexL [yb])).toArray⟩ := ⟨_, rfl⟩
        obtain ⟨Y1, hY1⟩ : ∃ s : ByteArray, (⟨#[58]⟩ : ByteArray) ++ sb = s := ⟨_, rfl⟩
        obtain ⟨Y2, hY2⟩ : ∃ s : ByteArray, Y1 ++ sk = s := ⟨_, rfl⟩
        obtain ⟨Y3, hY3⟩ : ∃ s : ByteArray, S ++ Y2 = s := ⟨_, rfl⟩
        have f1 : Y1 = ⟨(58 :: u8s (hexL [yb])).toArray⟩ := by rw [← hY1, hsb]; exact cat_str [58] _
        have f2 : Y2 = ⟨(58 :: u8s (hexL [yb]) ++ SK).toArray⟩ := by rw [← hY2, f1, hsk, cat_str]
        have f3 : Y3 = ⟨(acc ++ (58 :: u8s (hexL [yb]) ++ SK)).toArray⟩ := by rw [← hY3, f2, hSe, cat_str]
        have u1 : sb.size = 2 := by rw [hsb, hex_size]; rfl
        have u2 : Y1.size ≤ 10 := by rw [f1, ba_size]; simp [u8s, hexL_len]
        have u3 : sk.size ≤ 40000000 := by rw [hsk, ba_size]; omega
        have u4 : Y2.size ≤ 40000000 := by rw [f2, ba_size]; simp [u8s, hexL_len] at hlen ⊢; omega
        have n1 : ¬ 9223372036854775807 < 1 + sb.size := by omega
        have n2 : ¬ 9223372036854775807 < Y1.size + sk.size := by omega
        have n3 : ¬ 9223372036854775807 < S.size + Y2.size := by omega
        have hI2 : Hid (∃ acc : List UInt8, Y3 = ⟨acc.toArray⟩ ∧ acc ++ (shp (ofL (L.drop (i + 1))) ++ [62]) = A) := ⟨_, f3, by rw [← hacc]; simp⟩
        have hS : Hid (∀ X, Below wb.heap.size wb X → X.cell? ⟨w.heap.size, 4, none⟩ = some (.slice (some pb) bn bc) ∧ X.cell? ⟨w.heap.size, 5, none⟩ = some (.slice (some ⟨g, 0, none⟩) m rc) ∧ X.cell? (pb.add i) = some (.int .u8 (yb : Nat)) ∧ X.cell? ⟨g, i * 6, none⟩ = some (.int .i64 KD') ∧ X.cell? ⟨g, i * 6 + 1, none⟩ = some (.slice pa' pn' pc') ∧ X.cell? ⟨g, i * 6 + 2, none⟩ = some (.bool has') ∧ X.cell? ⟨g, i * 6 + 3, none⟩ = some (.int .u64 v') ∧ X.cell? ⟨g, i * 6 + 4, none⟩ = some (.slice ba' bn' bc') ∧ X.cell? ⟨g, i * 6 + 5, none⟩ = some (.slice ka' kn' kc')) := fun X hb => by
          obtain ⟨_, _, _, _, p4, p5⟩ := hall.out X hb
          have hwX := HB.out.trans (hb.mono HB.out.size)
          have hgl := HG.out g hg2
          have e : ∀ j, X.cell? ⟨g, j, none⟩ = w.cell? ⟨g, j, none⟩ := fun j => hwX.cell (p := ⟨g, j, none⟩) hgl
          exact ⟨p4, p5, (hwX.cell hz1).trans hz2, by rw [e]; exact hg4 0 (by omega), by rw [e]; exact hg4 1 (by omega), by rw [e]; exact hg4 2 (by omega), by rw [e]; exact hg4 3 (by omega), by rw [e]; exact hg4 4 (by omega), by rw [e]; exact hg4 5 (by omega)⟩
        have hw9 : IntKind.i64.wrap (((i : Nat) : Int) + 1) = ((i + 1 : Nat) : Int) := by rw [show ((i : Nat) : Int) + 1 = ((i + 1 : Nat) : Int) by omega]; exact IntWalk.i64_in _ (by omega)
        have hAl0 : Hid (Below wb.heap.size wb (wr.drew.alloc (.cells #[.int .u8 (yb : Nat)] 5))) := hBr.out.drew.alloc hBr.out.size _
        have hAl1 : Hid (Below wb.heap.size wb wr.drew) := hBr.out.drew
        have hT1 : Hid (Calls Tryz.prog 55 #[.slice (some ⟨wr.heap.size, 0, none⟩) 1 1] (wr.drew.alloc (.cells #[.int .u8 (yb : Nat)] 5)) (belowPost (.string sb) (wr.drew.alloc (.cells #[.int .u8 (yb : Nat)] 5)))) := by
          rw [hsb]; exact ref_text (sl_one wr.drew yb 5 hyb) (by omega)
        clear hq hz1 hz2 hz3 hiL hg4 hyT hdr hKD' hg3 hym hyD hyW hyb hlen hA4 hacc hal hSe hI hSsz f1 f2 f3 u1 u2 u3 u4 hsk hsb
        go_wp2_with fail
        go_region_held3 (fun w' => w'.cell? ⟨w.heap.size, 4, none⟩ = some (.slice (some pb) bn bc) ∧ w'.cell? ⟨w.heap.size, 5, none⟩ = some (.slice (some ⟨g, 0, none⟩) m rc) ∧ w'.cell? (pb.add i) = some (.int .u8 (yb : Nat)) ∧ w'.cell? ⟨g, i * 6, none⟩ = some (.int .i64 KD') ∧ w'.cell? ⟨g, i * 6 + 1, none⟩ = some (.slice pa' pn' pc') ∧ w'.cell? ⟨g, i * 6 + 2, none⟩ = some (.bool has') ∧ w'.cell? ⟨g, i * 6 + 3, none⟩ = some (.int .u64 v') ∧ w'.cell? ⟨g, i * 6 + 4, none⟩ = some (.slice ba' bn' bc') ∧ w'.cell? ⟨g, i * 6 + 5, none⟩ = some (.slice ka' kn' kc'))
          (first | exact hS.out _ B7.out | exact hS.out _ B6.out | exact hS.out _ hAl0.out | exact hS.out _ hAl1.out | exact hS.out _ hBr.out)
          (first
            | (go_simp; go_at_call 23; have g0 := B6; refine (hdn.out _ (HB.out.trans (B6.out.mono HB.out.size))).mono ?_; rintro e w7 ⟨rfl, z⟩; have B7 := Lib.hid (B6.out.trans (z.mono B6.out.size)); clear z)
            | (go_simp; go_at_call 55; refine hT1.out.mono ?_; rintro e w6 ⟨rfl, z⟩; have B6 := Lib.hid (hAl0.out.trans (z.mono hAl0.out.size)); clear z))
        all_goals
          (try simp only [Exit.then, Exit.inBlock])
          go_wp2_with fail
        go_roundw
        case rel => exact ⟨i + 1, Y3, (by first | rfl | go_num), rfl, by omega, hI2, B7⟩
        case measure => (simp [intOf]) <;> omega
    · have l1 : ¬ (i : Int) < (m : Int) := by omega
      obtain rfl : i = m := by omega
      have hfin : Hid (S ++ ⟨#[62]⟩ = ⟨A.toArray⟩) := by
        show _ = _
        rw [HmL.out, List.drop_length, show shp (ofL ([] : List (Nat × Tr))) = [] from rfl, List.nil_append] at hacc
        rw [hSe, ← hacc]
        exact cat_str acc [62]
      have n9 : ¬ 9223372036854775807 < S.size + 1 := by omega
      clear hacc hal hSe hI hSsz
      go_wp2_with fail
      go_ret
      exact ⟨by first | (rw [hfin.out]; done) | (rw [hfin.out]; rfl), HB.out.trans (hBr.out.mono HB.out.size)⟩
theorem sp_any : ∀ N, SpAsk N
  | 0 => fun bs v has leaf ks c w G hd => absurd hd (by simp only [tdep]; omega)
  | N + 1 => fun bs v has leaf ks c w G hd hR hG hO hw hl => by
    simp only [tdep] at hd
    cases leaf with
    | true =>
      obtain ⟨e1, e2⟩ := hO.2.2.2.2.1 rfl
      subst e1; subst e2
      exact sp_leaf_ bs v c hR hO (by simp only [tway] at hw; omega)
    | false =>
      cases has with
      | true => exact sp_in_true N (sp_any N) bs v ks c (by omega) hR hG hO hw hl
      | false => exact sp_in_false N (sp_any N) bs v ks c (by omega) hR hG hO hw hl
/-- nothing's shape -/
theorem sp_none (w : World) (pa : Option Addr) (pn pc : Nat) (hs : Bool) (v : Int) (ba : Option Addr) (bn bc : Nat) (ka : Option Addr) (kn kc : Nat) : Calls Tryz.prog 23 #[.agg #[.int .i64 0, .slice pa pn pc, .bool hs, .int .u64 v, .slice ba bn bc, .slice ka kn kc]] w (belowPost (.string ⟨#[46]⟩) w) := by
  have hb : Hid (∀ o, Below w.heap.size w (w.alloc o)) := fun o => (Below.refl _ w).alloc (Nat.le_refl _) o
  go_enter Tryz.func23, Tryz.ntmps23
  go_wp2_with fail
  go_ret
  exact ⟨rfl, hb.out _⟩
theorem rmd_none (w : World) (pa : Option Addr) (pn pc : Nat) (hs : Bool) (v : Int) (ba : Option Addr) (bn bc : Nat) (ka : Option Addr) (kn kc : Nat) : Calls Tryz.prog 30 #[.agg #[.int .i64 0, .slice pa pn pc, .bool hs, .int .u64 v, .slice ba bn bc, .slice ka kn kc]] w (belowPost (.int .i64 0) w) := by
  have hb : Hid (∀ o, Below w.heap.size w (w.alloc o)) := fun o => (Below.refl _ w).alloc (Nat.le_refl _) o
  go_enter Tryz.func30, Tryz.ntmps30
  go_wp2_with fail
  go_ret
  exact ⟨rfl, hb.out _⟩
theorem dp_none (w : World) (pa : Option Addr) (pn pc : Nat) (hs : Bool) (v : Int) (ba : Option Addr) (bn bc : Nat) (ka : Option Addr) (kn kc : Nat) : Calls Tryz.prog 25 #[.agg #[.int .i64 0, .slice pa pn pc, .bool hs, .int .u64 v, .slice ba bn bc, .slice ka kn kc]] w (belowPost (.int .i64 0) w) := by
  have hb : Hid (∀ o, Below w.heap.size w (w.alloc o)) := fun o => (Below.refl _ w).alloc (Nat.le_refl _) o
  go_enter Tryz.func25, Tryz.ntmps25
  go_wp2_with fail
  go_ret
  exact ⟨rfl, hb.out _⟩
end Go.Proofs.YtfhdiimcimafkaaGreatDoor
/- The document's list of a tree: what it leaves; appends of pairs. -/
namespace Go.Proofs.YtfhdiimcimafkaaGreatDoor
open Go.RowKit
/-- pairs that were laid since w, with keys that were laid since w -/
structure LO (w : World) (l : PL) (wr : World) (v : Value) (es : EL) (bo : Option Nat) : Prop where
  own : OwnS 2 kpT wr v l.length (flat es) bo
  ents : Ents wr es l
  new : bo = none ∨ ∃ g, bo = some g ∧ w.heap.size ≤ g
  kb : ∀ i (h : i < es.length) (p : Addr) n c, (es[i]).1 = .slice (some p) n c → w.heap.size ≤ p.block ∧ p.block < wr.heap.size ∧ bo ≠ some p.block
  since : Below w.heap.size w wr
theorem LO.nil {w wr : World} (hb : Below w.heap.size w wr) : LO w [] wr (.slice none 0 0) [] none :=
  ⟨OwnS.nil _ _ _, ents_nil _, Or.inl rfl, fun i h => by simp at h, hb⟩
theorem LO.below {w wr w' : World} {l : PL} {v : Value} {es : EL} {bo : Option Nat} (h : LO w l wr v es bo) (hb : Below wr.heap.size wr w') : LO w l w' v es bo :=
  ⟨h.own.below hb, h.ents.below hb, h.new, fun i hi p n c e => by have := h.kb i hi p n c e; exact ⟨this.1, Nat.lt_of_lt_of_le this.2.1 hb.size, this.2.2⟩, h.since.trans (hb.mono h.since.size)⟩
theorem LO.rebase {w0 w wr : World} {l : PL} {v : Value} {es : EL} {bo : Option Nat} (h : LO w l wr v es bo) (hb : Below w0.heap.size w0 w) : LO w0 l wr v es bo :=
  ⟨h.own, h.ents, by rcases h.new with e | ⟨g, e, hg⟩; exact Or.inl e; exact Or.inr ⟨g, e, Nat.le_trans hb.size hg⟩, fun i hi p n c e => by have := h.kb i hi p n c e; exact ⟨Nat.le_trans hb.size this.1, this.2⟩, hb.trans (h.since.mono hb.size)⟩
theorem ents_app {w : World} {es fs : EL} {l m : PL} (h : Ents w es l) (k : Ents w fs m) : Ents w (es ++ fs) (l ++ m) := by
  refine ⟨by simp [h.1, k.1], fun i h1 h2 => ?_⟩
  by_cases hi : i < es.length
  · rw [List.getElem_append_left hi, List.getElem_append_left (by rw [← h.1]; exact hi)]
    exact h.2 i hi _
  · rw [List.getElem_append_right (by omega), List.getElem_append_right (by rw [← h.1]; omega)]
    have hl := h.1
    have h3 : i - es.length < fs.length := by rw [List.length_append] at h1; omega
    have := k.2 (i - es.length) h3 (by rw [← k.1]; exact h3)
    simpa [hl] using this
/-- one list's pairs behind another one's -/
theorem LO.app {w wr wk w8 w9 : World} {l l2 : PL} {v v2 v' : Value} {es es2 : EL} {bo bo2 bo' : Option Nat} (h : LO w l wr v es bo) (hb : Below wr.heap.size wr wk) (k : LO wk l2 w8 v2 es2 bo2)
    (ho : OwnS 2 kpT w9 v' (l.length + l2.length) (flat es ++ flat es2) bo') (hm : Mod (fun j => bo = some j) w8 w9) (hn : NewOr w8 bo bo') : LO w (l ++ l2) w9 v' (es ++ es2) bo' := by
  have s1 := h.since.size
  have s2 := hb.size
  have s3 := k.since.size
  have s4 := hm.size
  have hb8 : Below wr.heap.size wr w8 := hb.trans (k.since.mono hb.size)
  have hlt : ∀ g, bo = some g → g < wr.heap.size := fun g e => by have := h.own; rw [e] at this; exact this.lt
  refine ⟨by rw [flat_append, List.length_append]; exact ho, ents_app (ents_keep (h.ents.below hb8) hm fun i hi p n c e => (h.kb i hi p n c e).2.2) (ents_keep k.ents hm fun i hi p n c e t => ?_), ?_, fun i hi p n c e => ?_, ?_⟩
  · have := (k.kb i hi p n c e).1
    have := hlt _ t
    omega
  · rcases hn with e | ⟨g, e, hg⟩
    · rw [e]; exact h.new
    · exact Or.inr ⟨g, e, by omega⟩
  · by_cases hi2 : i < es.length
    · rw [List.getElem_append_left hi2] at e
      obtain ⟨q1, q2, q3⟩ := h.kb i hi2 p n c e
      refine ⟨q1, by omega, fun t => ?_⟩
      rcases hn with e2 | ⟨g, e2, hg⟩
      · exact q3 (e2 ▸ t)
      · rw [e2] at t; cases t; omega
    · rw [List.getElem_append_right (by omega)] at e
      have hi3 : i - es.length < es2.length := by rw [List.length_append] at hi; omega
      obtain ⟨q1, q2, q3⟩ := k.kb (i - es.length) hi3 p n c e
      refine ⟨by omega, by omega, fun t => ?_⟩
      rcases hn with e2 | ⟨g, e2, hg⟩
      · have := hlt _ (e2 ▸ t); omega
      · rw [e2] at t; cases t; omega
  · refine (h.since.trans (hb8.mono s1)).trans ?_
    exact hm.sinceOf h.new (by omega)
/-- one pair -/
theorem LO.one {w wr w9 : World} {K : List Nat} {val : Int} {ak : Option Addr} {nk ck : Nat} {v' : Value} {bo' : Option Nat} (hb : Below w.heap.size w wr) (hs : Sl wr ak nk ck K) (hk : ∀ p, ak = some p → w.heap.size ≤ p.block ∧ p.block < wr.heap.size) (hv : 0 ≤ val ∧ val < 18446744073709551616)
    (ho : OwnS 2 kpT w9 v' 1 [.slice ak nk ck, .int .u64 val] bo') (hm : Mod (fun j => (none : Option Nat) = some j) wr w9) (hn : NewOr wr none bo') : LO w [(K, val)] w9 v' [(.slice ak nk ck, val)] bo' := by
  have hbl : Below wr.heap.size wr w9 := ⟨hm.os, hm.tape, hm.output, hm.size, fun j hj => hm.same j hj (fun e => by cases e)⟩
  have s := hb.size
  refine ⟨ho, (ents_nil w9).snoc (e := (.slice ak nk ck, val)) (p := (K, val)) ⟨⟨_, _, _, rfl, hs.below hbl⟩, rfl, hv⟩, ?_, fun i hi p n c e => ?_, hb.trans (hbl.mono s)⟩
  · rcases hn with e | ⟨g, e, hg⟩
    · exact Or.inl e
    · exact Or.inr ⟨g, e, by omega⟩
  · obtain rfl : i = 0 := by simpa using hi
    have e' : (Value.slice ak nk ck) = .slice (some p) n c := e
    injection e' with e'
    have q := hk p e'
    have := hbl.size
    refine ⟨q.1, by omega, fun t => ?_⟩
    rcases hn with e2 | ⟨g, e2, hg⟩
    · rw [e2] at t; cases t
    · rw [e2] at t; cases t; omega
theorem LO.prs {w wr : World} {l : PL} {v : Value} {es : EL} {bo : Option Nat} (h : LO w l wr v es bo) : ∃ a c, v = .slice a l.length c ∧ Prs wr a l.length c l := prs_of_own h.own h.ents
theorem run_append_no2 (w : World) (t ty : TypeId) (ht : Tryz.prog.underlying t = some (.slice kpT)) (b : Option Addr) (n cap c : Nat) (hle : n ≤ cap) : (Builtin.append_ #[t, t] ty #[.slice b n cap, .slice none 0 c]).run Tryz.prog w = .ok (.slice b n cap) w := by
  obtain ⟨i, hi, hz, hsize, hby⟩ := info_parts kpInfo
  have hu : ∀ w, (underlying t).run Tryz.prog w = .ok (.slice kpT) w := fun w => by simp [underlying, go_sem, ht]
  have hs : ∀ w, (sizeOf kpT).run Tryz.prog w = .ok 2 w := fun w => by
    have hi' : Tryz.prog.info? kpT = some i := hi
    simp [sizeOf, typeInfo, go_sem, hi', hsize]
  cases b with
  | none =>
    simp only [Builtin.append_, Sem.run_bind, Result.andThen_ok, hu, hs, List.getElem?_toArray, List.getElem?_cons_zero, List.getElem?_cons_succ]
    simp [go_sem, hu, hs, hle, storeCells]
  | some p =>
    simp only [Builtin.append_, Sem.run_bind, Result.andThen_ok, hu, hs, List.getElem?_toArray, List.getElem?_cons_zero, List.getElem?_cons_succ]
    simp [go_sem, hu, hs, hle, storeCells]
theorem ents_one {w : World} {es : EL} {l : PL} (h : Ents w es l) : ∀ u ∈ flat es, u.oneCell' = true := fun u hu => by
  unfold flat at hu
  obtain ⟨e, he, hu⟩ := List.mem_flatMap.1 hu
  obtain ⟨i, hi, rfl⟩ := List.getElem_of_mem he
  obtain ⟨⟨a, n, c, q, _⟩, _⟩ := h.2 i hi (by rw [← h.1]; exact hi)
  simp only [List.mem_cons, List.not_mem_nil, or_false] at hu
  rcases hu with rfl | rfl
  · rw [q]; rfl
  · rfl
theorem run_append_k {w : World} {v : Value} {n : Nat} {es : EL} {bo : Option Nat} (h : OwnS 2 kpT w v n (flat es) bo) {v2 : Value} {m : Nat} {es2 : EL} {bo2 : Option Nat} (h2 : OwnS 2 kpT w v2 m (flat es2) bo2) {l2 : PL} (he : Ents w es2 l2) (hn : n + m ≤ 100000) (ty : TypeId) :
    ∃ v' w' bo', (Builtin.append_ #[22, 22] ty #[v, v2]).run Tryz.prog w = .ok v' w' ∧ OwnS 2 kpT w' v' (n + m) (flat es ++ flat es2) bo' ∧ Mod (fun j => bo = some j) w w' ∧ NewOr w bo bo' := by
  rcases h2 with ⟨rfl, rfl, e, rfl⟩ | ⟨g, cap, cur, rfl, rfl, h4, h5, h6, h7, h8, h9⟩
  · obtain ⟨b, cap, rfl, h1, _⟩ := h.len
    exact ⟨_, w, bo, run_append_no2 w 22 ty Tryz.underlying22 b n cap 0 h1, by rw [e, List.append_nil]; exact h, Mod.refl _ _, Or.inl rfl⟩
  · obtain ⟨i, hi, hz, hsize, hby⟩ := info_parts kpInfo
    refine run_append_s w 22 ty kpT i _ 2 32 Tryz.underlying22 hi hz hsize hby rfl (by omega) v n (flat es) bo h ⟨g, 0, none⟩ m cap (flat es2) h9 (fun j u hj => ?_) (ents_one he) (by unfold maxLen; omega) (by omega)
    have hj2 : j < m * 2 := by rw [← h9]; exact (List.getElem?_eq_some_iff.1 hj).1
    have h4' : w.heap[g]? = some (.cells cur.toList.toArray kpT (0, 0)) := h4
    rw [add0, cell_of_blk h4', ← hj, ← h8, List.getElem?_take, if_pos hj2]
theorem step_k {w : World} {ops : Array Oper} {o : Oper} {a : Act} {K : Act → World → Prop} {Q : Exit → Act → World → Prop} {E : Prop} (hgd : o.guard = none) (s x : Operand)
    (ho : o.op = .call { callee := .builtin .append, args := #[s, x], argTypes := #[22, 22] })
    {v : Value} {n : Nat} {es : EL} {bo : Option Nat} (hs : a.eval s = v) (h : OwnS 2 kpT w v n (flat es) bo) {v2 : Value} {m : Nat} {es2 : EL} {bo2 : Option Nat} {l2 : PL} (hx : a.eval x = v2) (h2 : OwnS 2 kpT w v2 m (flat es2) bo2) (he : Ents w es2 l2) (hn : n + m ≤ 100000)
    (h' : ∀ v' w' bo', Hid (OwnS 2 kpT w' v' (n + m) (flat es ++ flat es2) bo') → Hid (Mod (fun j => bo = some j) w w') → Hid (NewOr w bo bo') → K (a.put o.dst v') w') :
    if Region.wanted o (yielded ops a.tmps) = true then Oper.wp Tryz.prog o a w K Q else E := by
  have hw : Region.wanted o (yielded ops a.tmps) = true := by simp [Region.wanted, hgd]
  rw [if_pos hw]
  obtain ⟨v', w', bo', hr, h2, h3, h4⟩ := run_append_k h h2 he hn o.type
  unfold Oper.wp execOp
  simp only [ho, resolve, invoke, builtin, Sem.run_bind, Sem.run_pure, Result.andThen_ok, List.map_toArray, List.map_cons, List.map_nil, hs, hx, hr]
  exact h' v' w' bo' h2 h3 h4
def ltPost (l : PL) (w : World) (e : Ending) (w' : World) : Prop := ∃ v es bo, e = .returned v ∧ LO w l w' v es bo
def LtAsk (N : Nat) : Prop := ∀ (bs : List Nat) (v : Int) (has leaf : Bool) (ks : Tr) (c : List Value) (a : Option Addr) (n cc : Nat) (way : List Nat) {w : World} {G : Nat → Prop}, tdep (.node bs v has leaf ks) ≤ N → RT w G (.node bs v has leaf ks) none 0 c → (∀ j, G j → j < w.heap.size) → TOk (.node bs v has leaf ks) → Sl w a n cc way → way.length + tway (.node bs v has leaf ks) ≤ 900000 → (tl (.node bs v has leaf ks)).length ≤ 2000 → Calls Tryz.prog 54 #[.agg c.toArray, .slice a n cc] w (ltPost (pre way (tl (.node bs v has leaf ks))) w)
theorem tl_drop {L : List (Nat × Tr)} {i : Nat} {x : Nat × Tr} (h : L[i]? = some x) : tl (ofL (L.drop i)) = pre [x.1] (tl x.2) ++ tl (ofL (L.drop (i + 1))) := by
  have hi : i < L.length := (List.getElem?_eq_some_iff.1 h).1
  have e : L[i] = x := (List.getElem?_eq_some_iff.1 h).2
  rw [List.drop_eq_getElem_cons hi, e]; rfl
end Go.Proofs.YtfhdiimcimafkaaGreatDoor
/- The document's list and List of a tree, walked whole. -/
namespace Go.Proofs.YtfhdiimcimafkaaGreatDoor
open Go.RowKit
theorem tway_ofL3 : ∀ {L : List (Nat × Tr)} {x : Nat × Tr}, x ∈ L → 1 + tway x.2 ≤ tway (ofL L)
  | y :: L, x, h => by
    show _ ≤ max (1 + tway y.2) (tway (ofL L))
    rcases List.mem_cons.1 h with rfl | h
    · omega
    · have := tway_ofL3 h; omega
theorem own_blk {ty n : Nat} {w : World} {v : Value} {xs : List Value} {bo : Option Nat} (h : OwnS 1 ty w v n xs bo) : ∀ a m c (p : Addr), v = .slice a m c → a = some p → ∃ g, bo = some g ∧ p.block = g ∧ g < w.heap.size := fun a m c p e e2 => by
  rcases h with ⟨rfl, _⟩ | ⟨g, cap, cur, rfl, rfl, hg, _⟩
  · injection e with e; rw [← e] at e2; cases e2
  · injection e with e; rw [← e] at e2; cases e2
    exact ⟨g, rfl, rfl, (Array.getElem?_eq_some_iff.1 hg).1⟩
set_option maxHeartbeats 8000000 in
set_option maxRecDepth 100000 in
theorem lt_true (N : Nat) (IH : LtAsk N) (bs : List Nat) (v : Int) (leaf : Bool) (ks : Tr) (c : List Value) (a : Option Addr) (n cc : Nat) (way : List Nat) {w : World} {G : Nat → Prop} (hdp : tdep ks ≤ N) (hR : RT w G (.node bs v true leaf ks) none 0 c) (hG : ∀ j, G j → j < w.heap.size) (hO : TOk (.node bs v true leaf ks)) (hSw : Sl w a n cc way) (hw : way.length + tway (.node bs v true leaf ks) ≤ 900000) (ht : (tl (.node bs v true leaf ks)).length ≤ 2000) :
    Calls Tryz.prog 54 #[.agg c.toArray, .slice a n cc] w (ltPost (pre way (tl (.node bs v true leaf ks))) w) := by
  obtain ⟨pa, pn, pc, ba, bn, bc, ka, rn, rc, rfl, h2, h3, rfl, h5, h6⟩ := hR
  obtain ⟨o1, o2, o3, o4, o5, o6, o7⟩ := hO
  have hR6 := rt_chain h6 o6 o7
  have hke := ofL_chain ks o6 o7
  obtain ⟨L, hL⟩ : ∃ L, L = chain ks := ⟨_, rfl⟩
  rw [← hL] at hR6 hke h3 ⊢
  obtain ⟨m, hm⟩ : ∃ m, m = L.length := ⟨_, rfl⟩
  rw [← hm]
  have hm2 : m ≤ 256 := by have := chain256 o6 o7; rw [← hL, ← hm] at this; exact this
  show Calls _ _ #[.agg #[.int .i64 ((rkind leaf ks : Nat) : Int), .slice pa pn pc, .bool true, .int .u64 v, .slice ba bn bc, .slice ka m rc], .slice a n cc] _ _
  obtain ⟨KD, hKD⟩ : ∃ x : Int, x = ((rkind leaf ks : Nat) : Int) := ⟨_, rfl⟩
  rw [← hKD]
  obtain ⟨K, hK⟩ : ∃ K, K = way ++ bs := ⟨_, rfl⟩
  obtain ⟨T, hT⟩ : ∃ T, T = pre way (tl (.node bs v true leaf ks)) := ⟨_, rfl⟩
  rw [← hT]
  have hTl : T.length ≤ 2000 := by rw [hT, pre_length]; exact ht
  have hTe : T = [(K, v)] ++ pre K (tl (ofL (L.drop 0))) := by
    rw [List.drop_zero, hke, hT, hK, ← pre_pre]
    simp [tl, pre]
  simp only [tway] at hw
  have hwK : K.length + tway (ofL L) ≤ 900000 := by rw [hke, hK, List.length_append]; omega
  have hKb : ∀ x ∈ K, x < 256 := fun x hx => by
    rw [hK] at hx
    rcases List.mem_append.1 hx with hx | hx
    · exact hSw.at_.1 x hx
    · exact o1 x hx
  have HT := Lib.hid hTe
  have HTL := Lib.hid hTl
  have HKW := Lib.hid hwK
  have HKB := Lib.hid hKb
  have HKe := Lib.hid hK
  have hnl : n ≤ 1000000 := by have := hSw.len; omega
  have hpl : pn ≤ 1000000 := by have := h2.sl.len; omega
  have hvv : Hid (0 ≤ v ∧ v < 18446744073709551616) := ⟨o2, o3⟩
  have HOL : Hid (TOk (ofL L)) := by rw [hke]; exact o7
  have HdL : Hid (tdep (ofL L) ≤ N) := by rw [hke]; exact hdp
  have H6 := Lib.hid hR6
  have HG := Lib.hid hG
  have HIH := Lib.hid IH
  have H3 := Lib.hid h3
  have HmL := Lib.hid hm
  have HSw := Lib.hid hSw
  have HSp := Lib.hid h2.sl
  have HB8 : Hid (∀ x ∈ bs, x < 256) := o1
  obtain ⟨wb, hwb⟩ : ∃ wb, wb = w.alloc (.cells #[.int .i64 KD, .slice pa pn pc, .bool true, .int .u64 v, .slice ba bn bc, .slice ka m rc] rnT) := ⟨_, rfl⟩
  have hbox : wb.heap[w.heap.size]? = some (.cells [.int .i64 KD, .slice pa pn pc, .bool true, .int .u64 v, .slice ba bn bc, .slice ka m rc].toArray rnT (0, 0)) := by rw [hwb]; exact six_new w _ _ _ _ _ _ rnT
  have HB : Hid (Below w.heap.size w wb) := by rw [hwb]; exact below_al w _
  have hall : Hid (∀ X, Below wb.heap.size wb X → X.cell? ⟨w.heap.size, 1, none⟩ = some (.slice pa pn pc) ∧ X.cell? ⟨w.heap.size, 2, none⟩ = some (.bool true) ∧ X.cell? ⟨w.heap.size, 3, none⟩ = some (.int .u64 v) ∧ X.cell? ⟨w.heap.size, 4, none⟩ = some (.slice ba bn bc) ∧ X.cell? ⟨w.heap.size, 5, none⟩ = some (.slice ka m rc)) := fun X hb => by
    obtain ⟨x0, x1, x2, x3, x4, x5, _⟩ := six_facts ((hb.block w.heap.size (Array.getElem?_eq_some_iff.1 hbox).1).trans hbox)
    exact ⟨x1, x2, x3, x4, x5⟩
  obtain ⟨x1, x2, x3, x4, x5⟩ := hall.out wb (Below.refl _ _)
  have R0 := Lib.hid (Below.refl wb.heap.size wb)
  have R1 : Hid (Below wb.heap.size wb wb.drew) := (Below.refl wb.heap.size wb).drew
  have hOn : Hid (OwnS 1 u8T wb.drew (.slice none 0 0) 0 (bV []) none) := OwnS.nil _ _ _
  have hSw1 : Hid (Sl wb.drew a n cc way) := hSw.below (HB.out.trans (R1.out.mono HB.out.size))
  have h0m : Hid (0 ≤ 1000000) := Nat.zero_le _
  have hnm := Lib.hid hnl
  have hpm := Lib.hid hpl
  clear h2 h3 h5 h6 o1 o2 o3 o4 o5 o6 o7 hbox hdp hG hSw hw ht hR6 hke hL hm hKD hK hT hTl hTe hwK hKb IH hnl hpl
  go_enter Tryz.func54, Tryz.ntmps54
  go_upto_region 1 with fail
  rw [← hwb]
  clear hwb
  go_upto_region 2 with fail
  go_cut [6] from 8 to 12 (fun s6 w' => ∃ bo, OwnS 1 u8T w' s6 K.length (bV K) bo ∧ (∀ g, bo = some g → wb.heap.size ≤ g) ∧ Below wb.heap.size wb w')
  case first =>
    go_region_held3 (fun w' => w'.cell? ⟨w.heap.size, 1, none⟩ = some (.slice pa pn pc))
      (first | exact (hall.out _ B4.out).1 | exact (hall.out _ B3.out).1 | exact (hall.out _ R1.out).1 | exact (hall.out _ R0.out).1)
      (first
        | (have g0 := B3; refine step_l (v := v3) (a3 := pa) (m := pn) (c := pc) rfl _ _ rfl rfl O3.out rfl hSp3.out hnm.out hpm.out ?_; intro v4 w4 bo4 HO HM HN
           have B4 : Hid (Below wb.heap.size wb w4) := B3.out.trans (mod_lo HM.out N3.out B3.out.size)
           have N4 : Hid (∀ g, bo4 = some g → wb.heap.size ≤ g) := newOr_lo HN.out N3.out B3.out.size
           have O4 := Lib.hid HO.out
           clear HO HM HN)
        | (refine step_l (v := .slice none 0 0) (a3 := a) (m := n) (c := cc) rfl (.const (.slice none 0 0)) _ rfl rfl hOn.out rfl hSw1.out h0m.out hnm.out ?_; intro v3 w3 bo3 HO HM HN
           have B3 : Hid (Below wb.heap.size wb w3) := R1.out.trans (mod_lo HM.out (fun g e => by cases e) R1.out.size)
           have N3 : Hid (∀ g, bo3 = some g → wb.heap.size ≤ g) := newOr_lo HN.out (fun g e => by cases e) R1.out.size
           have O3 : Hid (OwnS 1 u8T w3 v3 n (bV way) bo3) := by have := HO.out; rw [Nat.zero_add] at this; exact this
           have hSp3 : Hid (Sl w3 pa pn pc bs) := HSp.out.below (HB.out.trans (B3.out.mono HB.out.size))
           clear HO HM HN))
    all_goals
      (try simp only [Exit.then, Exit.inBlock])
      go_wp2_with fail
      go_meet
    all_goals
      exact ⟨bo4, by
        have e1 := HSw.out.len
        have e2 := HSp.out.len
        have e3 := HKe.out
        have := O4.out
        rw [← bV_app, ← e3, show n + pn = K.length by rw [e3, List.length_append, e1, e2]] at this
        exact this, N4.out, B4.out⟩
  case rest =>
    obtain ⟨bok, hO, hNk, hBc⟩ := hcut
    obtain ⟨nk, hnk⟩ : ∃ nk, nk = K.length := ⟨_, rfl⟩
    rw [← hnk] at hO
    have hblk := own_blk hO
    obtain ⟨ak, ck, rfl, hSk⟩ := sl_of_own hO HKB.out
    have hkb : Hid (∀ p, ak = some p → wb.heap.size ≤ p.block ∧ p.block < wc.heap.size) := fun p e => by
      obtain ⟨g, q1, q2, q3⟩ := hblk ak nk ck p rfl e
      rw [q2]
      exact ⟨hNk g q1, q3⟩
    have hKey : Hid (∀ X, Below wc.heap.size wc X → Sl X ak nk ck K) := fun X hX => hSk.below hX
    have HBc := Lib.hid hBc
    have HNk := Lib.hid hnk
    have hnkm : Hid (nk ≤ 1000000) := by show _ ≤ _; have := HKW.out; omega
    have hRc := Lib.hid (Below.refl wc.heap.size wc)
    clear hblk hO hNk hBc hSk hnk hOn hSw1 hnm hpm R0 R1 x1 x2 x3 x4 x5
    obtain ⟨y1, y2, y3, y4, y5⟩ := hall.out wc HBc.out
    have hnw : Hid (∀ j u, ([.slice ak nk ck, .int .u64 v] : List Value)[j]? = some u → (wc.alloc (.cells #[.slice ak nk ck, .int .u64 v] kpT)).cell? ((⟨wc.heap.size, 0, none⟩ : Addr).add j) = some u) := pair_news wc (.slice ak nk ck) v kpT
    have h1p := Lib.hid (oneP (a := ak) (n := nk) (c := ck) (y := v))
    have hA1 : Hid (Below wc.heap.size wc (wc.alloc (.cells #[.slice ak nk ck, .int .u64 v] kpT))) := (Below.refl _ wc).alloc (Nat.le_refl _) _
    go_wp2_with (
      at_builtin
      go_loud (refine wpList_append_s rfl (.tmp 15) (.tmp 20) 22 rfl kpT _ 2 32 Tryz.underlying22 kpInfo rfl (by omega) (.slice none 0 0) rfl 0 [] none (OwnS.nil _ _ _) ⟨wc.heap.size, 0, none⟩ 1 1 [.slice ak nk ck, .int .u64 v] rfl rfl hnw.out h1p.out (by unfold maxLen; omega) (by omega) ?_)
      intro v5 w5 bo5 HO HM HN
      have q1 := LO.one (HBc.out.trans (hA1.out.mono HBc.out.size)) (hKey.out _ hA1.out) (fun p e => by have := hkb.out p e; have := hA1.out.size; omega) hvv.out (by have := HO.out; simpa using this) HM.out HN.out
      have hL0 := Lib.hid q1
      have hN5 : Hid (∀ g, bo5 = some g → wc.heap.size ≤ g) := newOr_lo HN.out (fun g e => by cases e) hA1.out.size
      have hW5 : Hid (Below wc.heap.size wc w5) := hA1.out.trans (mod_lo HM.out (fun g e => by cases e) hA1.out.size)
      clear HO HM HN q1)
    have hT0 : Hid ([(K, v)] ++ pre K (tl (ofL (L.drop 0))) = T) := HT.out.symm
    have hLS : Hid (∃ dn es bo, LO wb dn w5 v5 es bo ∧ dn ++ pre K (tl (ofL (L.drop 0))) = T ∧ ∀ g, bo = some g → wc.heap.size ≤ g) := ⟨_, _, _, hL0.out, hT0.out, hN5.out⟩
    clear hL0 hT0 hnw h1p hA1
    clear y1 y2 y3 y4 y5
    go_loopw [7, 5] (fun v7 v5 wr => ∃ (i : Nat), v7 = .int .i64 (i : Nat) ∧ i ≤ m ∧ Hid (∃ dn es bo, LO wb dn wr v5 es bo ∧ dn ++ pre K (tl (ofL (L.drop i))) = T ∧ ∀ g, bo = some g → wc.heap.size ≤ g) ∧ Hid (Below wc.heap.size wc wr)) (fun v7 _ _ => (m - intOf v7).toNat)
    case atStart => exact ⟨0, rfl, Nat.zero_le _, hLS, hW5⟩
    case round =>
      clear hLS hW5
      obtain ⟨i, rfl, him, hI, hBr⟩ := hrel
      have hBw : Hid (Below wb.heap.size wb wr) := HBc.out.trans (hBr.out.mono HBc.out.size)
      obtain ⟨z1, z2, z3, z4, z5⟩ := hall.out wr hBw.out
      by_cases hlt : i < m
      · have l1 : (i : Int) < (m : Int) := by omega
        have l0 : (0 : Int) ≤ (i : Int) := by omega
        have hiL : i < L.length := by rw [← HmL.out]; exact hlt
        have l2 : (i : Int) < (bn : Int) := by have := H3.out.sl.len; rw [List.length_map] at this; omega
        obtain ⟨q, hq⟩ : ∃ q, L[i]? = some q := ⟨_, List.getElem?_eq_getElem hiL⟩
        obtain ⟨pb, rfl, hz1, hz2⟩ := H3.out.sl.at_.2 i (by rw [List.length_map]; exact hiL)
        have hz3 : (L.map (·.1)).getD i 0 = q.1 := by rw [List.getD, List.getElem?_map, hq]; rfl
        rw [hz3] at hz2
        obtain ⟨g, c', hg1, hg2, hg3, hg4, hg5⟩ := rt_at H6.out i q hq
        obtain ⟨dn, es, bo, hLO, hdn, hbn⟩ := hI.out
        rw [tl_drop hq] at hdn
        obtain ⟨yb, yt⟩ := q
        have hym := List.mem_of_getElem? hq
        have hyT := ((tok_ofL L).1 HOL.out).1 (yb, yt) hym
        have hyD : tdep yt ≤ N := Nat.le_trans (tdep_ofL2 hym) HdL.out
        have hyW : K.length + 1 + tway yt ≤ 900000 := by have := tway_ofL3 hym; have := HKW.out; simp only at *; omega
        have hyb : yb < 256 := hyT.1
        have hlen := congrArg List.length hdn
        have hTL := HTL.out
        rw [pre_append] at hdn hlen
        simp only [List.length_append, pre_length] at hlen
        cases yt with
        | nil => exact hyT.2.1.elim
        | kid => exact hyT.2.1.elim
        | node bs' v' has' leaf' ks' =>
          have hg5 : RT w G (.node bs' v' has' leaf' ks') none 0 c' := hg5
          have hdn2 : Hid (∀ X a6 c6, Below w.heap.size w X → Sl X a6 (nk + 1) c6 (K ++ [yb]) → Calls Tryz.prog 54 #[.agg c'.toArray, .slice a6 (nk + 1) c6] X (ltPost (pre K (pre [yb] (tl (.node bs' v' has' leaf' ks')))) X)) := fun X a6 c6 hb hs => by
            rw [pre_pre]
            exact HIH.out bs' v' has' leaf' ks' c' a6 (nk + 1) c6 (K ++ [yb]) hyD (hg5.keep hb.size fun j hj => hb.block j (HG.out j hj)) (fun j hj => Nat.lt_of_lt_of_le (HG.out j hj) hb.size) hyT.2.2 hs (by rw [List.length_append]; simpa using hyW) (by omega)
          obtain ⟨pa', pn', pc', ba', bn', bc', ka', kn', kc', hc', hx'⟩ := hg5
          clear hx'
          subst hc'
          obtain ⟨KD', hKD'⟩ : ∃ x : Int, x = ((rkind leaf' ks' : Nat) : Int) := ⟨_, rfl⟩
          rw [← hKD'] at hdn2 hg4
          simp only at hdn hlen
          obtain ⟨l2', hl2⟩ : ∃ l2', l2' = pre K (pre [yb] (tl (.node bs' v' has' leaf' ks'))) := ⟨_, rfl⟩
          have hl2n : l2'.length = (tl (.node bs' v' has' leaf' ks')).length := by rw [hl2, pre_length, pre_length]
          rw [← hl2n] at hlen
          rw [← hl2] at hdn hdn2
          subst hg1
          rw [Nat.zero_add] at hg4
          have hnn : Hid (dn.length + l2'.length ≤ 100000) := by show _ ≤ _; omega
          have hI2 : Hid ((dn ++ l2') ++ pre K (tl (ofL (L.drop (i + 1)))) = T) := by show _ = _; rw [← hdn]; simp
          have HLO := Lib.hid hLO
          have Hbn := Lib.hid hbn
          have hS : Hid (∀ X, Below wb.heap.size wb X → X.cell? ⟨w.heap.size, 4, none⟩ = some (.slice (some pb) bn bc) ∧ X.cell? ⟨w.heap.size, 5, none⟩ = some (.slice (some ⟨g, 0, none⟩) m rc) ∧ X.cell? (pb.add i) = some (.int .u8 (yb : Nat)) ∧ X.cell? ⟨g, i * 6, none⟩ = some (.int .i64 KD') ∧ X.cell? ⟨g, i * 6 + 1, none⟩ = some (.slice pa' pn' pc') ∧ X.cell? ⟨g, i * 6 + 2, none⟩ = some (.bool has') ∧ X.cell? ⟨g, i * 6 + 3, none⟩ = some (.int .u64 v') ∧ X.cell? ⟨g, i * 6 + 4, none⟩ = some (.slice ba' bn' bc') ∧ X.cell? ⟨g, i * 6 + 5, none⟩ = some (.slice ka' kn' kc')) := fun X hb => by
            obtain ⟨_, _, _, p4, p5⟩ := hall.out X hb
            have hwX := HB.out.trans (hb.mono HB.out.size)
            have hgl := HG.out g hg2
            have e : ∀ j, X.cell? ⟨g, j, none⟩ = w.cell? ⟨g, j, none⟩ := fun j => hwX.cell (p := ⟨g, j, none⟩) hgl
            exact ⟨p4, p5, (hwX.cell hz1).trans hz2, by rw [e]; exact hg4 0 (by omega), by rw [e]; exact hg4 1 (by omega), by rw [e]; exact hg4 2 (by omega), by rw [e]; exact hg4 3 (by omega), by rw [e]; exact hg4 4 (by omega), by rw [e]; exact hg4 5 (by omega)⟩
          have hw9 : IntKind.i64.wrap (((i : Nat) : Int) + 1) = ((i + 1 : Nat) : Int) := by rw [show ((i : Nat) : Int) + 1 = ((i + 1 : Nat) : Int) by omega]; exact IntWalk.i64_in _ (by omega)
          have hAl1 : Hid (Below wb.heap.size wb wr.drew) := hBw.out.drew
          have C1 : Hid (Below wr.heap.size wr ((wr.alloc (.cells #[.int .u8 (yb : Nat)] 5)).drew)) := ((Below.refl _ wr).alloc (Nat.le_refl _) _).drew
          have hAl0 : Hid (Below wb.heap.size wb ((wr.alloc (.cells #[.int .u8 (yb : Nat)] 5)).drew)) := (hBw.out.alloc hBw.out.size _).drew
          have hO1 : Hid (OwnS 1 u8T ((wr.alloc (.cells #[.int .u8 (yb : Nat)] 5)).drew) (.slice none 0 0) 0 (bV []) none) := OwnS.nil _ _ _
          have hK1 : Hid (Sl ((wr.alloc (.cells #[.int .u8 (yb : Nat)] 5)).drew) ak nk ck K) := hKey.out _ (hBr.out.alloc hBr.out.size _).drew
          have hO2 : Hid (OwnS 1 u8T wr.drew (.slice none 0 0) 0 (bV []) none) := OwnS.nil _ _ _
          have hK2 : Hid (Sl wr.drew ak nk ck K) := hKey.out _ hBr.out.drew
          have hyb := Lib.hid hyb
          have hOne : Hid (Sl ((wr.alloc (.cells #[.int .u8 (yb : Nat)] 5)).drew) (some ⟨wr.heap.size, 0, none⟩) 1 1 [yb]) := (sl_one wr yb 5 hyb.out).drewN 1
          have h1m : Hid (1 ≤ 1000000) := by show _ ≤ _; omega
          have hKb2 : Hid (∀ x ∈ K ++ [yb], x < 256) := fun x hx => by
            rcases List.mem_append.1 hx with hx | hx
            · exact HKB.out x hx
            · simp at hx; rw [hx]; exact hyb.out
          clear hq hz1 hz2 hz3 hiL hg4 hyT hKD' hg3 hym hyD hyW hlen hTL hdn hl2 hl2n hLO hI hbn
          go_wp2_with fail
          go_region_held3 (fun w' => w'.cell? ⟨w.heap.size, 4, none⟩ = some (.slice (some pb) bn bc) ∧ w'.cell? ⟨w.heap.size, 5, none⟩ = some (.slice (some ⟨g, 0, none⟩) m rc) ∧ w'.cell? (pb.add i) = some (.int .u8 (yb : Nat)) ∧ w'.cell? ⟨g, i * 6, none⟩ = some (.int .i64 KD') ∧ w'.cell? ⟨g, i * 6 + 1, none⟩ = some (.slice pa' pn' pc') ∧ w'.cell? ⟨g, i * 6 + 2, none⟩ = some (.bool has') ∧ w'.cell? ⟨g, i * 6 + 3, none⟩ = some (.int .u64 v') ∧ w'.cell? ⟨g, i * 6 + 4, none⟩ = some (.slice ba' bn' bc') ∧ w'.cell? ⟨g, i * 6 + 5, none⟩ = some (.slice ka' kn' kc'))
            (first | exact hS.out _ D9.out | exact hS.out _ D8.out | exact hS.out _ D6.out | exact hS.out _ D5.out | exact hS.out _ D4.out | exact hS.out _ hAl0.out | exact hS.out _ hAl1.out | exact hS.out _ hBw.out)
            (first
              | (have g0 := D8; refine step_k rfl _ _ rfl rfl hLO8.out.own rfl K8.out.own K8.out.ents hnn.out ?_; intro v9 w9 bo9 HO HM HN
                 have HLO9 := Lib.hid (HLO.out.app C6.out K8.out HO.out HM.out HN.out)
                 have D9 : Hid (Below wb.heap.size wb w9) := HLO9.out.since
                 have E9 : Hid (Below wc.heap.size wc w9) := (hBr.out.trans (C8.out.mono hBr.out.size)).trans (mod_lo HM.out Hbn.out (hBr.out.trans (C8.out.mono hBr.out.size)).size)
                 have N9 : Hid (∀ g, bo9 = some g → wc.heap.size ≤ g) := newOr_lo HN.out Hbn.out (hBr.out.trans (C8.out.mono hBr.out.size)).size
                 clear HO HM HN)
              | (have g0 := D6; go_simp; go_at_call 54; refine (hdn2.out w6 a6 c6 (HB.out.trans (D6.out.mono HB.out.size)) hS6.out).mono ?_; rintro e w8 ⟨v8, es8, bo8, rfl, k8⟩
                 have K8 := Lib.hid k8
                 have D8 : Hid (Below wb.heap.size wb w8) := D6.out.trans (k8.since.mono D6.out.size)
                 have C8 : Hid (Below wr.heap.size wr w8) := C6.out.trans (k8.since.mono C6.out.size)
                 have hLO8 := Lib.hid (HLO.out.below C8.out)
                 clear k8)
              | (have g0 := hOneA; refine step_l (v := v5') (a3 := some ⟨wr.heap.size, 0, none⟩) (m := 1) (c := 1) rfl _ _ rfl rfl O5.out rfl hOneA.out hnkm.out h1m.out ?_; intro v6 w6 bo6 HO HM HN
                 have C6 : Hid (Below wr.heap.size wr w6) := C5.out.trans (mod_lo HM.out N5.out C5.out.size)
                 have D6 : Hid (Below wb.heap.size wb w6) := hBw.out.trans (C6.out.mono hBw.out.size)
                 have o6 := HO.out
                 rw [← bV_app] at o6
                 obtain ⟨a6, c6, hv6, s6⟩ := sl_of_own o6 hKb2.out
                 subst hv6
                 have hS6 := Lib.hid s6
                 clear HO HM HN o6 s6)
              | (have g0 := hOneB; refine step_l (v := v5') (a3 := some ⟨w5'.heap.size, 0, none⟩) (m := 1) (c := 1) rfl _ _ rfl rfl O5.out rfl hOneB.out hnkm.out h1m.out ?_; intro v6 w6 bo6 HO HM HN
                 have C6 : Hid (Below wr.heap.size wr w6) := C5.out.trans (mod_lo HM.out N5.out C5.out.size)
                 have D6 : Hid (Below wb.heap.size wb w6) := hBw.out.trans (C6.out.mono hBw.out.size)
                 have o6 := HO.out
                 rw [← bV_app] at o6
                 obtain ⟨a6, c6, hv6, s6⟩ := sl_of_own o6 hKb2.out
                 subst hv6
                 have hS6 := Lib.hid s6
                 clear HO HM HN o6 s6)
              | (refine step_l (v := .slice none 0 0) (a3 := ak) (m := nk) (c := ck) rfl (.const (.slice none 0 0)) _ rfl rfl hO1.out rfl hK1.out h0m.out hnkm.out ?_; intro v5' w5' bo5 HO HM HN
                 have hB5 := mod_lo HM.out (fun g e => by cases e) (Nat.le_refl _)
                 have C5 : Hid (Below wr.heap.size wr w5') := C1.out.trans (hB5.mono C1.out.size)
                 have D5 : Hid (Below wb.heap.size wb w5') := hBw.out.trans (C5.out.mono hBw.out.size)
                 have N5 : Hid (∀ g, bo5 = some g → wr.heap.size ≤ g) := newOr_lo HN.out (fun g e => by cases e) C1.out.size
                 have O5 : Hid (OwnS 1 u8T w5' v5' nk (bV K) bo5) := by have := HO.out; rw [Nat.zero_add] at this; exact this
                 have hOneA := Lib.hid (hOne.out.below hB5)
                 clear HO HM HN hB5)
              | (refine step_l (v := .slice none 0 0) (a3 := ak) (m := nk) (c := ck) rfl (.const (.slice none 0 0)) _ rfl rfl hO2.out rfl hK2.out h0m.out hnkm.out ?_; intro v5' w5' bo5 HO HM HN
                 have hB5 := mod_lo HM.out (fun g e => by cases e) (Nat.le_refl _)
                 have hA5 : Below w5'.heap.size w5' (w5'.alloc (.cells #[.int .u8 (yb : Nat)] 5)) := (Below.refl _ w5').alloc (Nat.le_refl _) _
                 have D4 : Hid (Below wb.heap.size wb w5') := hAl1.out.trans (hB5.mono hAl1.out.size)
                 have C4 : Below wr.heap.size wr w5' := (Below.refl wr.heap.size wr).drew.trans (hB5.mono (Nat.le_refl _))
                 have C5 : Hid (Below wr.heap.size wr (w5'.alloc (.cells #[.int .u8 (yb : Nat)] 5))) := C4.trans (hA5.mono C4.size)
                 have D5 : Hid (Below wb.heap.size wb (w5'.alloc (.cells #[.int .u8 (yb : Nat)] 5))) := hBw.out.trans (C5.out.mono hBw.out.size)
                 have N5 : Hid (∀ g, bo5 = some g → wr.heap.size ≤ g) := newOr_lo HN.out (fun g e => by cases e) (Nat.le_refl _)
                 have O5 : Hid (OwnS 1 u8T (w5'.alloc (.cells #[.int .u8 (yb : Nat)] 5)) v5' nk (bV K) bo5) := by have := HO.out; rw [Nat.zero_add] at this; exact this.below hA5
                 have hOneB : Hid (Sl (w5'.alloc (.cells #[.int .u8 (yb : Nat)] 5)) (some ⟨w5'.heap.size, 0, none⟩) 1 1 [yb]) := sl_one w5' yb 5 hyb.out
                 clear HO HM HN hB5 hA5 C4))
          all_goals (
            (try simp only [Exit.then, Exit.inBlock])
            go_wp2_with fail
            go_roundw
            case rel => exact ⟨i + 1, (by first | rfl | go_num), by omega, ⟨_, _, _, HLO9.out, hI2.out, N9.out⟩, E9⟩
            case measure => (simp [intOf]) <;> omega)
      · have l1 : ¬ (i : Int) < (m : Int) := by omega
        obtain rfl : i = m := by omega
        obtain ⟨dn, es, bo, hLO, hdn, hbn⟩ := hI.out
        rw [HmL.out, List.drop_length, show pre K (tl (ofL ([] : List (Nat × Tr)))) = [] from rfl, List.append_nil] at hdn
        rw [hdn] at hLO
        have hfin := Lib.hid (hLO.rebase HB.out)
        clear hLO hdn hI hbn
        go_wp2_with fail
        go_ret
        exact ⟨_, es, bo, rfl, hfin.out⟩

set_option maxHeartbeats 8000000 in
set_option maxRecDepth 100000 in
theorem lt_false (N : Nat) (IH : LtAsk N) (bs : List Nat) (v : Int) (leaf : Bool) (ks : Tr) (c : List Value) (a : Option Addr) (n cc : Nat) (way : List Nat) {w : World} {G : Nat → Prop} (hdp : tdep ks ≤ N) (hR : RT w G (.node bs v false leaf ks) none 0 c) (hG : ∀ j, G j → j < w.heap.size) (hO : TOk (.node bs v false leaf ks)) (hSw : Sl w a n cc way) (hw : way.length + tway (.node bs v false leaf ks) ≤ 900000) (ht : (tl (.node bs v false leaf ks)).length ≤ 2000) :
    Calls Tryz.prog 54 #[.agg c.toArray, .slice a n cc] w (ltPost (pre way (tl (.node bs v false leaf ks))) w) := by
  obtain ⟨pa, pn, pc, ba, bn, bc, ka, rn, rc, rfl, h2, h3, rfl, h5, h6⟩ := hR
  obtain ⟨o1, o2, o3, o4, o5, o6, o7⟩ := hO
  have hR6 := rt_chain h6 o6 o7
  have hke := ofL_chain ks o6 o7
  obtain ⟨L, hL⟩ : ∃ L, L = chain ks := ⟨_, rfl⟩
  rw [← hL] at hR6 hke h3 ⊢
  obtain ⟨m, hm⟩ : ∃ m, m = L.length := ⟨_, rfl⟩
  rw [← hm]
  have hm2 : m ≤ 256 := by have := chain256 o6 o7; rw [← hL, ← hm] at this; exact this
  show Calls _ _ #[.agg #[.int .i64 ((rkind leaf ks : Nat) : Int), .slice pa pn pc, .bool false, .int .u64 v, .slice ba bn bc, .slice ka m rc], .slice a n cc] _ _
  obtain ⟨KD, hKD⟩ : ∃ x : Int, x = ((rkind leaf ks : Nat) : Int) := ⟨_, rfl⟩
  rw [← hKD]
  obtain ⟨K, hK⟩ : ∃ K, K = way ++ bs := ⟨_, rfl⟩
  obtain ⟨T, hT⟩ : ∃ T, T = pre way (tl (.node bs v false leaf ks)) := ⟨_, rfl⟩
  rw [← hT]
  have hTl : T.length ≤ 2000 := by rw [hT, pre_length]; exact ht
  have hTe : T = pre K (tl (ofL (L.drop 0))) := by
    rw [List.drop_zero, hke, hT, hK, ← pre_pre]
    simp [tl, pre]
  simp only [tway] at hw
  have hwK : K.length + tway (ofL L) ≤ 900000 := by rw [hke, hK, List.length_append]; omega
  have hKb : ∀ x ∈ K, x < 256 := fun x hx => by
    rw [hK] at hx
    rcases List.mem_append.1 hx with hx | hx
    · exact hSw.at_.1 x hx
    · exact o1 x hx
  have HT := Lib.hid hTe
  have HTL := Lib.hid hTl
  have HKW := Lib.hid hwK
  have HKB := Lib.hid hKb
  have HKe := Lib.hid hK
  have hnl : n ≤ 1000000 := by have := hSw.len; omega
  have hpl : pn ≤ 1000000 := by have := h2.sl.len; omega
  have hvv : Hid (0 ≤ v ∧ v < 18446744073709551616) := ⟨o2, o3⟩
  have HOL : Hid (TOk (ofL L)) := by rw [hke]; exact o7
  have HdL : Hid (tdep (ofL L) ≤ N) := by rw [hke]; exact hdp
  have H6 := Lib.hid hR6
  have HG := Lib.hid hG
  have HIH := Lib.hid IH
  have H3 := Lib.hid h3
  have HmL := Lib.hid hm
  have HSw := Lib.hid hSw
  have HSp := Lib.hid h2.sl
  have HB8 : Hid (∀ x ∈ bs, x < 256) := o1
  obtain ⟨wb, hwb⟩ : ∃ wb, wb = w.alloc (.cells #[.int .i64 KD, .slice pa pn pc, .bool false, .int .u64 v, .slice ba bn bc, .slice ka m rc] rnT) := ⟨_, rfl⟩
  have hbox : wb.heap[w.heap.size]? = some (.cells [.int .i64 KD, .slice pa pn pc, .bool false, .int .u64 v, .slice ba bn bc, .slice ka m rc].toArray rnT (0, 0)) := by rw [hwb]; exact six_new w _ _ _ _ _ _ rnT
  have HB : Hid (Below w.heap.size w wb) := by rw [hwb]; exact below_al w _
  have hall : Hid (∀ X, Below wb.heap.size wb X → X.cell? ⟨w.heap.size, 1, none⟩ = some (.slice pa pn pc) ∧ X.cell? ⟨w.heap.size, 2, none⟩ = some (.bool false) ∧ X.cell? ⟨w.heap.size, 3, none⟩ = some (.int .u64 v) ∧ X.cell? ⟨w.heap.size, 4, none⟩ = some (.slice ba bn bc) ∧ X.cell? ⟨w.heap.size, 5, none⟩ = some (.slice ka m rc)) := fun X hb => by
    obtain ⟨x0, x1, x2, x3, x4, x5, _⟩ := six_facts ((hb.block w.heap.size (Array.getElem?_eq_some_iff.1 hbox).1).trans hbox)
    exact ⟨x1, x2, x3, x4, x5⟩
  obtain ⟨x1, x2, x3, x4, x5⟩ := hall.out wb (Below.refl _ _)
  have R0 := Lib.hid (Below.refl wb.heap.size wb)
  have R1 : Hid (Below wb.heap.size wb wb.drew) := (Below.refl wb.heap.size wb).drew
  have hOn : Hid (OwnS 1 u8T wb.drew (.slice none 0 0) 0 (bV []) none) := OwnS.nil _ _ _
  have hSw1 : Hid (Sl wb.drew a n cc way) := hSw.below (HB.out.trans (R1.out.mono HB.out.size))
  have h0m : Hid (0 ≤ 1000000) := Nat.zero_le _
  have hnm := Lib.hid hnl
  have hpm := Lib.hid hpl
  clear h2 h3 h5 h6 o1 o2 o3 o4 o5 o6 o7 hbox hdp hG hSw hw ht hR6 hke hL hm hKD hK hT hTl hTe hwK hKb IH hnl hpl
  go_enter Tryz.func54, Tryz.ntmps54
  go_upto_region 1 with fail
  rw [← hwb]
  clear hwb
  go_upto_region 2 with fail
  go_cut [6] from 8 to 12 (fun s6 w' => ∃ bo, OwnS 1 u8T w' s6 K.length (bV K) bo ∧ (∀ g, bo = some g → wb.heap.size ≤ g) ∧ Below wb.heap.size wb w')
  case first =>
    go_region_held3 (fun w' => w'.cell? ⟨w.heap.size, 1, none⟩ = some (.slice pa pn pc))
      (first | exact (hall.out _ B4.out).1 | exact (hall.out _ B3.out).1 | exact (hall.out _ R1.out).1 | exact (hall.out _ R0.out).1)
      (first
        | (have g0 := B3; refine step_l (v := v3) (a3 := pa) (m := pn) (c := pc) rfl _ _ rfl rfl O3.out rfl hSp3.out hnm.out hpm.out ?_; intro v4 w4 bo4 HO HM HN
           have B4 : Hid (Below wb.heap.size wb w4) := B3.out.trans (mod_lo HM.out N3.out B3.out.size)
           have N4 : Hid (∀ g, bo4 = some g → wb.heap.size ≤ g) := newOr_lo HN.out N3.out B3.out.size
           have O4 := Lib.hid HO.out
           clear HO HM HN)
        | (refine step_l (v := .slice none 0 0) (a3 := a) (m := n) (c := cc) rfl (.const (.slice none 0 0)) _ rfl rfl hOn.out rfl hSw1.out h0m.out hnm.out ?_; intro v3 w3 bo3 HO HM HN
           have B3 : Hid (Below wb.heap.size wb w3) := R1.out.trans (mod_lo HM.out (fun g e => by cases e) R1.out.size)
           have N3 : Hid (∀ g, bo3 = some g → wb.heap.size ≤ g) := newOr_lo HN.out (fun g e => by cases e) R1.out.size
           have O3 : Hid (OwnS 1 u8T w3 v3 n (bV way) bo3) := by have := HO.out; rw [Nat.zero_add] at this; exact this
           have hSp3 : Hid (Sl w3 pa pn pc bs) := HSp.out.below (HB.out.trans (B3.out.mono HB.out.size))
           clear HO HM HN))
    all_goals
      (try simp only [Exit.then, Exit.inBlock])
      go_wp2_with fail
      go_meet
    all_goals
      exact ⟨bo4, by
        have e1 := HSw.out.len
        have e2 := HSp.out.len
        have e3 := HKe.out
        have := O4.out
        rw [← bV_app, ← e3, show n + pn = K.length by rw [e3, List.length_append, e1, e2]] at this
        exact this, N4.out, B4.out⟩
  case rest =>
    obtain ⟨bok, hO, hNk, hBc⟩ := hcut
    obtain ⟨nk, hnk⟩ : ∃ nk, nk = K.length := ⟨_, rfl⟩
    rw [← hnk] at hO
    have hblk := own_blk hO
    obtain ⟨ak, ck, rfl, hSk⟩ := sl_of_own hO HKB.out
    have hkb : Hid (∀ p, ak = some p → wb.heap.size ≤ p.block ∧ p.block < wc.heap.size) := fun p e => by
      obtain ⟨g, q1, q2, q3⟩ := hblk ak nk ck p rfl e
      rw [q2]
      exact ⟨hNk g q1, q3⟩
    have hKey : Hid (∀ X, Below wc.heap.size wc X → Sl X ak nk ck K) := fun X hX => hSk.below hX
    have HBc := Lib.hid hBc
    have HNk := Lib.hid hnk
    have hnkm : Hid (nk ≤ 1000000) := by show _ ≤ _; have := HKW.out; omega
    have hRc := Lib.hid (Below.refl wc.heap.size wc)
    clear hblk hO hNk hBc hSk hnk hOn hSw1 hnm hpm R0 R1 x1 x2 x3 x4 x5
    obtain ⟨y1, y2, y3, y4, y5⟩ := hall.out wc HBc.out
    go_wp2_with fail
    have hW5 : Hid (Below wc.heap.size wc wc) := hRc.out
    have hLS : Hid (∃ dn es bo, LO wb dn wc (.slice none 0 0) es bo ∧ dn ++ pre K (tl (ofL (L.drop 0))) = T ∧ ∀ g, bo = some g → wc.heap.size ≤ g) := ⟨[], _, none, LO.nil HBc.out, HT.out.symm, fun g e => by cases e⟩
    clear y1 y2 y3 y4 y5
    go_loopw [7, 5] (fun v7 v5 wr => ∃ (i : Nat), v7 = .int .i64 (i : Nat) ∧ i ≤ m ∧ Hid (∃ dn es bo, LO wb dn wr v5 es bo ∧ dn ++ pre K (tl (ofL (L.drop i))) = T ∧ ∀ g, bo = some g → wc.heap.size ≤ g) ∧ Hid (Below wc.heap.size wc wr)) (fun v7 _ _ => (m - intOf v7).toNat)
    case atStart => exact ⟨0, rfl, Nat.zero_le _, hLS, hW5⟩
    case round =>
      clear hLS hW5
      obtain ⟨i, rfl, him, hI, hBr⟩ := hrel
      have hBw : Hid (Below wb.heap.size wb wr) := HBc.out.trans (hBr.out.mono HBc.out.size)
      obtain ⟨z1, z2, z3, z4, z5⟩ := hall.out wr hBw.out
      by_cases hlt : i < m
      · have l1 : (i : Int) < (m : Int) := by omega
        have l0 : (0 : Int) ≤ (i : Int) := by omega
        have hiL : i < L.length := by rw [← HmL.out]; exact hlt
        have l2 : (i : Int) < (bn : Int) := by have := H3.out.sl.len; rw [List.length_map] at this; omega
        obtain ⟨q, hq⟩ : ∃ q, L[i]? = some q := ⟨_, List.getElem?_eq_getElem hiL⟩
        obtain ⟨pb, rfl, hz1, hz2⟩ := H3.out.sl.at_.2 i (by rw [List.length_map]; exact hiL)
        have hz3 : (L.map (·.1)).getD i 0 = q.1 := by rw [List.getD, List.getElem?_map, hq]; rfl
        rw [hz3] at hz2
        obtain ⟨g, c', hg1, hg2, hg3, hg4, hg5⟩ := rt_at H6.out i q hq
        obtain ⟨dn, es, bo, hLO, hdn, hbn⟩ := hI.out
        rw [tl_drop hq] at hdn
        obtain ⟨yb, yt⟩ := q
        have hym := List.mem_of_getElem? hq
        have hyT := ((tok_ofL L).1 HOL.out).1 (yb, yt) hym
        have hyD : tdep yt ≤ N := Nat.le_trans (tdep_ofL2 hym) HdL.out
        have hyW : K.length + 1 + tway yt ≤ 900000 := by have := tway_ofL3 hym; have := HKW.out; simp only at *; omega
        have hyb : yb < 256 := hyT.1
        have hlen := congrArg List.length hdn
        have hTL := HTL.out
        rw [pre_append] at hdn hlen
        simp only [List.length_append, pre_length] at hlen
        cases yt with
        | nil => exact hyT.2.1.elim
        | kid => exact hyT.2.1.elim
        | node bs' v' has' leaf' ks' =>
          have hg5 : RT w G (.node bs' v' has' leaf' ks') none 0 c' := hg5
          have hdn2 : Hid (∀ X a6 c6, Below w.heap.size w X → Sl X a6 (nk + 1) c6 (K ++ [yb]) → Calls Tryz.prog 54 #[.agg c'.toArray, .slice a6 (nk + 1) c6] X (ltPost (pre K (pre [yb] (tl (.node bs' v' has' leaf' ks')))) X)) := fun X a6 c6 hb hs => by
            rw [pre_pre]
            exact HIH.out bs' v' has' leaf' ks' c' a6 (nk + 1) c6 (K ++ [yb]) hyD (hg5.keep hb.size fun j hj => hb.block j (HG.out j hj)) (fun j hj => Nat.lt_of_lt_of_le (HG.out j hj) hb.size) hyT.2.2 hs (by rw [List.length_append]; simpa using hyW) (by omega)
          obtain ⟨pa', pn', pc', ba', bn', bc', ka', kn', kc', hc', hx'⟩ := hg5
          clear hx'
          subst hc'
          obtain ⟨KD', hKD'⟩ : ∃ x : Int, x = ((rkind leaf' ks' : Nat) : Int) := ⟨_, rfl⟩
          rw [← hKD'] at hdn2 hg4
          simp only at hdn hlen
          obtain ⟨l2', hl2⟩ : ∃ l2', l2' = pre K (pre [yb] (tl (.node bs' v' has' leaf' ks'))) := ⟨_, rfl⟩
          have hl2n : l2'.length = (tl (.node bs' v' has' leaf' ks')).length := by rw [hl2, pre_length, pre_length]
          rw [← hl2n] at hlen
          rw [← hl2] at hdn hdn2
          subst hg1
          rw [Nat.zero_add] at hg4
          have hnn : Hid (dn.length + l2'.length ≤ 100000) := by show _ ≤ _; omega
          have hI2 : Hid ((dn ++ l2') ++ pre K (tl (ofL (L.drop (i + 1)))) = T) := by show _ = _; rw [← hdn]; simp
          have HLO := Lib.hid hLO
          have Hbn := Lib.hid hbn
          have hS : Hid (∀ X, Below wb.heap.size wb X → X.cell? ⟨w.heap.size, 4, none⟩ = some (.slice (some pb) bn bc) ∧ X.cell? ⟨w.heap.size, 5, none⟩ = some (.slice (some ⟨g, 0, none⟩) m rc) ∧ X.cell? (pb.add i) = some (.int .u8 (yb : Nat)) ∧ X.cell? ⟨g, i * 6, none⟩ = some (.int .i64 KD') ∧ X.cell? ⟨g, i * 6 + 1, none⟩ = some (.slice pa' pn' pc') ∧ X.cell? ⟨g, i * 6 + 2, none⟩ = some (.bool has') ∧ X.cell? ⟨g, i * 6 + 3, none⟩ = some (.int .u64 v') ∧ X.cell? ⟨g, i * 6 + 4, none⟩ = some (.slice ba' bn' bc') ∧ X.cell? ⟨g, i * 6 + 5, none⟩ = some (.slice ka' kn' kc')) := fun X hb => by
            obtain ⟨_, _, _, p4, p5⟩ := hall.out X hb
            have hwX := HB.out.trans (hb.mono HB.out.size)
            have hgl := HG.out g hg2
            have e : ∀ j, X.cell? ⟨g, j, none⟩ = w.cell? ⟨g, j, none⟩ := fun j => hwX.cell (p := ⟨g, j, none⟩) hgl
            exact ⟨p4, p5, (hwX.cell hz1).trans hz2, by rw [e]; exact hg4 0 (by omega), by rw [e]; exact hg4 1 (by omega), by rw [e]; exact hg4 2 (by omega), by rw [e]; exact hg4 3 (by omega), by rw [e]; exact hg4 4 (by omega), by rw [e]; exact hg4 5 (by omega)⟩
          have hw9 : IntKind.i64.wrap (((i : Nat) : Int) + 1) = ((i + 1 : Nat) : Int) := by rw [show ((i : Nat) : Int) + 1 = ((i + 1 : Nat) : Int) by omega]; exact IntWalk.i64_in _ (by omega)
          have hAl1 : Hid (Below wb.heap.size wb wr.drew) := hBw.out.drew
          have C1 : Hid (Below wr.heap.size wr ((wr.alloc (.cells #[.int .u8 (yb : Nat)] 5)).drew)) := ((Below.refl _ wr).alloc (Nat.le_refl _) _).drew
          have hAl0 : Hid (Below wb.heap.size wb ((wr.alloc (.cells #[.int .u8 (yb : Nat)] 5)).drew)) := (hBw.out.alloc hBw.out.size _).drew
          have hO1 : Hid (OwnS 1 u8T ((wr.alloc (.cells #[.int .u8 (yb : Nat)] 5)).drew) (.slice none 0 0) 0 (bV []) none) := OwnS.nil _ _ _
          have hK1 : Hid (Sl ((wr.alloc (.cells #[.int .u8 (yb : Nat)] 5)).drew) ak nk ck K) := hKey.out _ (hBr.out.alloc hBr.out.size _).drew
          have hO2 : Hid (OwnS 1 u8T wr.drew (.slice none 0 0) 0 (bV []) none) := OwnS.nil _ _ _
          have hK2 : Hid (Sl wr.drew ak nk ck K) := hKey.out _ hBr.out.drew
          have hyb := Lib.hid hyb
          have hOne : Hid (Sl ((wr.alloc (.cells #[.int .u8 (yb : Nat)] 5)).drew) (some ⟨wr.heap.size, 0, none⟩) 1 1 [yb]) := (sl_one wr yb 5 hyb.out).drewN 1
          have h1m : Hid (1 ≤ 1000000) := by show _ ≤ _; omega
          have hKb2 : Hid (∀ x ∈ K ++ [yb], x < 256) := fun x hx => by
            rcases List.mem_append.1 hx with hx | hx
            · exact HKB.out x hx
            · simp at hx; rw [hx]; exact hyb.out
          clear hq hz1 hz2 hz3 hiL hg4 hyT hKD' hg3 hym hyD hyW hlen hTL hdn hl2 hl2n hLO hI hbn
          go_wp2_with fail
          go_region_held3 (fun w' => w'.cell? ⟨w.heap.size, 4, none⟩ = some (.slice (some pb) bn bc) ∧ w'.cell? ⟨w.heap.size, 5, none⟩ = some (.slice (some ⟨g, 0, none⟩) m rc) ∧ w'.cell? (pb.add i) = some (.int .u8 (yb : Nat)) ∧ w'.cell? ⟨g, i * 6, none⟩ = some (.int .i64 KD') ∧ w'.cell? ⟨g, i * 6 + 1, none⟩ = some (.slice pa' pn' pc') ∧ w'.cell? ⟨g, i * 6 + 2, none⟩ = some (.bool has') ∧ w'.cell? ⟨g, i * 6 + 3, none⟩ = some (.int .u64 v') ∧ w'.cell? ⟨g, i * 6 + 4, none⟩ = some (.slice ba' bn' bc') ∧ w'.cell? ⟨g, i * 6 + 5, none⟩ = some (.slice ka' kn' kc'))
            (first | exact hS.out _ D9.out | exact hS.out _ D8.out | exact hS.out _ D6.out | exact hS.out _ D5.out | exact hS.out _ D4.out | exact hS.out _ hAl0.out | exact hS.out _ hAl1.out | exact hS.out _ hBw.out)
            (first
              | (have g0 := D8; refine step_k rfl _ _ rfl rfl hLO8.out.own rfl K8.out.own K8.out.ents hnn.out ?_; intro v9 w9 bo9 HO HM HN
                 have HLO9 := Lib.hid (HLO.out.app C6.out K8.out HO.out HM.out HN.out)
                 have D9 : Hid (Below wb.heap.size wb w9) := HLO9.out.since
                 have E9 : Hid (Below wc.heap.size wc w9) := (hBr.out.trans (C8.out.mono hBr.out.size)).trans (mod_lo HM.out Hbn.out (hBr.out.trans (C8.out.mono hBr.out.size)).size)
                 have N9 : Hid (∀ g, bo9 = some g → wc.heap.size ≤ g) := newOr_lo HN.out Hbn.out (hBr.out.trans (C8.out.mono hBr.out.size)).size
                 clear HO HM HN)
              | (have g0 := D6; go_simp; go_at_call 54; refine (hdn2.out w6 a6 c6 (HB.out.trans (D6.out.mono HB.out.size)) hS6.out).mono ?_; rintro e w8 ⟨v8, es8, bo8, rfl, k8⟩
                 have K8 := Lib.hid k8
                 have D8 : Hid (Below wb.heap.size wb w8) := D6.out.trans (k8.since.mono D6.out.size)
                 have C8 : Hid (Below wr.heap.size wr w8) := C6.out.trans (k8.since.mono C6.out.size)
                 have hLO8 := Lib.hid (HLO.out.below C8.out)
                 clear k8)
              | (have g0 := hOneA; refine step_l (v := v5') (a3 := some ⟨wr.heap.size, 0, none⟩) (m := 1) (c := 1) rfl _ _ rfl rfl O5.out rfl hOneA.out hnkm.out h1m.out ?_; intro v6 w6 bo6 HO HM HN
                 have C6 : Hid (Below wr.heap.size wr w6) := C5.out.trans (mod_lo HM.out N5.out C5.out.size)
                 have D6 : Hid (Below wb.heap.size wb w6) := hBw.out.trans (C6.out.mono hBw.out.size)
                 have o6 := HO.out
                 rw [← bV_app] at o6
                 obtain ⟨a6, c6, hv6, s6⟩ := sl_of_own o6 hKb2.out
                 subst hv6
                 have hS6 := Lib.hid s6
                 clear HO HM HN o6 s6)
              | (have g0 := hOneB; refine step_l (v := v5') (a3 := some ⟨w5'.heap.size, 0, none⟩) (m := 1) (c := 1) rfl _ _ rfl rfl O5.out rfl hOneB.out hnkm.out h1m.out ?_; intro v6 w6 bo6 HO HM HN
                 have C6 : Hid (Below wr.heap.size wr w6) := C5.out.trans (mod_lo HM.out N5.out C5.out.size)
                 have D6 : Hid (Below wb.heap.size wb w6) := hBw.out.trans (C6.out.mono hBw.out.size)
                 have o6 := HO.out
                 rw [← bV_app] at o6
                 obtain ⟨a6, c6, hv6, s6⟩ := sl_of_own o6 hKb2.out
                 subst hv6
                 have hS6 := Lib.hid s6
                 clear HO HM HN o6 s6)
              | (refine step_l (v := .slice none 0 0) (a3 := ak) (m := nk) (c := ck) rfl (.const (.slice none 0 0)) _ rfl rfl hO1.out rfl hK1.out h0m.out hnkm.out ?_; intro v5' w5' bo5 HO HM HN
                 have hB5 := mod_lo HM.out (fun g e => by cases e) (Nat.le_refl _)
                 have C5 : Hid (Below wr.heap.size wr w5') := C1.out.trans (hB5.mono C1.out.size)
                 have D5 : Hid (Below wb.heap.size wb w5') := hBw.out.trans (C5.out.mono hBw.out.size)
                 have N5 : Hid (∀ g, bo5 = some g → wr.heap.size ≤ g) := newOr_lo HN.out (fun g e => by cases e) C1.out.size
                 have O5 : Hid (OwnS 1 u8T w5' v5' nk (bV K) bo5) := by have := HO.out; rw [Nat.zero_add] at this; exact this
                 have hOneA := Lib.hid (hOne.out.below hB5)
                 clear HO HM HN hB5)
              | (refine step_l (v := .slice none 0 0) (a3 := ak) (m := nk) (c := ck) rfl (.const (.slice none 0 0)) _ rfl rfl hO2.out rfl hK2.out h0m.out hnkm.out ?_; intro v5' w5' bo5 HO HM HN
                 have hB5 := mod_lo HM.out (fun g e => by cases e) (Nat.le_refl _)
                 have hA5 : Below w5'.heap.size w5' (w5'.alloc (.cells #[.int .u8 (yb : Nat)] 5)) := (Below.refl _ w5').alloc (Nat.le_refl _) _
                 have D4 : Hid (Below wb.heap.size wb w5') := hAl1.out.trans (hB5.mono hAl1.out.size)
                 have C4 : Below wr.heap.size wr w5' := (Below.refl wr.heap.size wr).drew.trans (hB5.mono (Nat.le_refl _))
                 have C5 : Hid (Below wr.heap.size wr (w5'.alloc (.cells #[.int .u8 (yb : Nat)] 5))) := C4.trans (hA5.mono C4.size)
                 have D5 : Hid (Below wb.heap.size wb (w5'.alloc (.cells #[.int .u8 (yb : Nat)] 5))) := hBw.out.trans (C5.out.mono hBw.out.size)
                 have N5 : Hid (∀ g, bo5 = some g → wr.heap.size ≤ g) := newOr_lo HN.out (fun g e => by cases e) (Nat.le_refl _)
                 have O5 : Hid (OwnS 1 u8T (w5'.alloc (.cells #[.int .u8 (yb : Nat)] 5)) v5' nk (bV K) bo5) := by have := HO.out; rw [Nat.zero_add] at this; exact this.below hA5
                 have hOneB : Hid (Sl (w5'.alloc (.cells #[.int .u8 (yb : Nat)] 5)) (some ⟨w5'.heap.size, 0, none⟩) 1 1 [yb]) := sl_one w5' yb 5 hyb.out
                 clear HO HM HN hB5 hA5 C4))
          all_goals (
            (try simp only [Exit.then, Exit.inBlock])
            go_wp2_with fail
            go_roundw
            case rel => exact ⟨i + 1, (by first | rfl | go_num), by omega, ⟨_, _, _, HLO9.out, hI2.out, N9.out⟩, E9⟩
            case measure => (simp [intOf]) <;> omega)
      · have l1 : ¬ (i : Int) < (m : Int) := by omega
        obtain rfl : i = m := by omega
        obtain ⟨dn, es, bo, hLO, hdn, hbn⟩ := hI.out
        rw [HmL.out, List.drop_length, show pre K (tl (ofL ([] : List (Nat × Tr)))) = [] from rfl, List.append_nil] at hdn
        rw [hdn] at hLO
        have hfin := Lib.hid (hLO.rebase HB.out)
        clear hLO hdn hI hbn
        go_wp2_with fail
        go_ret
        exact ⟨_, es, bo, rfl, hfin.out⟩
theorem lt_any : ∀ N, LtAsk N
  | 0 => fun bs v has leaf ks c a n cc way w G hd => absurd hd (by simp only [tdep]; omega)
  | N + 1 => fun bs v has leaf ks c a n cc way w G hd hR hG hO hS hw ht => by
    simp only [tdep] at hd
    cases has with
    | true => exact lt_true N (lt_any N) bs v leaf ks c a n cc way (by omega) hR hG hO hS hw ht
    | false => exact lt_false N (lt_any N) bs v leaf ks c a n cc way (by omega) hR hG hO hS hw ht
set_option maxHeartbeats 1000000 in
set_option maxRecDepth 100000 in
/-- the document's List -/
theorem ref_list (bs : List Nat) (v : Int) (has leaf : Bool) (ks : Tr) {KD : Int} {pa : Option Addr} {pn pc : Nat} {hs : Bool} {v' : Int} {ba : Option Addr} {bn bc : Nat} {ka : Option Addr} {kn kc : Nat} {w : World} {G : Nat → Prop} (hd : tdep (.node bs v has leaf ks) ≤ 1000000) (hR : RT w G (.node bs v has leaf ks) none 0 [.int .i64 KD, .slice pa pn pc, .bool hs, .int .u64 v', .slice ba bn bc, .slice ka kn kc]) (hG : ∀ j, G j → j < w.heap.size) (hO : TOk (.node bs v has leaf ks)) (hw : tway (.node bs v has leaf ks) ≤ 900000) (ht : (tl (.node bs v has leaf ks)).length ≤ 2000) :
    Calls Tryz.prog 22 #[.agg #[.int .i64 KD, .slice pa pn pc, .bool hs, .int .u64 v', .slice ba bn bc, .slice ka kn kc]] w (prsPost (tl (.node bs v has leaf ks)) w) := by
  obtain ⟨wb, hwb⟩ : ∃ wb, wb = w.alloc (.cells #[.int .i64 KD, .slice pa pn pc, .bool hs, .int .u64 v', .slice ba bn bc, .slice ka kn kc] rnT) := ⟨_, rfl⟩
  have hbox : wb.heap[w.heap.size]? = some (.cells [.int .i64 KD, .slice pa pn pc, .bool hs, .int .u64 v', .slice ba bn bc, .slice ka kn kc].toArray rnT (0, 0)) := by rw [hwb]; exact six_new w _ _ _ _ _ _ rnT
  have HB : Hid (Below w.heap.size w wb) := by rw [hwb]; exact below_al w _
  obtain ⟨x0, x1, x2, x3, x4, x5, _⟩ := six_facts hbox
  have hB := HB.out
  have hL := lt_any 1000000 bs v has leaf ks _ none 0 0 [] (w := wb) hd (hR.keep hB.size fun j hj => hB.block j (hG j hj)) (fun j hj => Nat.lt_of_lt_of_le (hG j hj) hB.size) hO (sl_nil wb) (by simpa using hw) ht
  rw [pre_none] at hL
  have hL : Hid (Calls Tryz.prog 54 #[.agg #[.int .i64 KD, .slice pa pn pc, .bool hs, .int .u64 v', .slice ba bn bc, .slice ka kn kc], .slice none 0 0] wb (ltPost (tl (.node bs v has leaf ks)) wb)) := hL
  generalize tl (.node bs v has leaf ks) = T at *
  clear hR hG hO hw ht hB hd hbox
  go_enter Tryz.func22, Tryz.ntmps22
  go_upto_region 1 with fail
  rw [← hwb]
  clear hwb
  go_wp2_with (go_at_call 54; refine hL.out.mono ?_; rintro e w2 ⟨v2, es, bo, rfl, q⟩; have Q := Lib.hid q; clear q)
  go_ret
  obtain ⟨a, c, rfl, hp⟩ := Q.out.prs
  exact ⟨a, c, rfl, hp, HB.out.trans (Q.out.since.mono HB.out.size)⟩
end Go.Proofs.YtfhdiimcimafkaaGreatDoor
