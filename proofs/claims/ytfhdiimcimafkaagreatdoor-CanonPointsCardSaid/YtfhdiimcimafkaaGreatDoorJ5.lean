/- canon.Points; alive of law 13; Rows of canon's laws: the table that is laid, numbers that come in; Arguments of rows: bytes, slices of pairs; Nodes made since a world, and the blocks that they lie in: what else was made since then stays as it was, while nodes are made and written to; Nodes told node by node: the tree that they make. No program; A tree's shape tells the tree; so a tree is fine just if its shape is that of the canonical tree of its pairs. No program; How many nodes, how long a shape, how long a way. No program; Slices that lie apart from a meter; nodes that a meter counts, joined; canon's maker.tree, where a meter counts; law CanonLong: keys that are too long; canon.Build, where a meter counts; what a law reads of the tree that was made; What the laws of canon ask of pairs: whether they are too many; the same pairs; Of canonical trees: fewer inner nodes than keys; how many nodes; how deep. No program; law CanonBounds: the walk. -/
import Derived.Test.YtfhdiimcimafkaaGreatDoorJ4
import Derived.Test.YtfhdiimcimafkaaGreatDoorTie
import Derived.Test.YtfhdiimcimafkaaGreatDoorCards
import Derived.ProofKit
import Derived.OpenShut
import Derived.ShutString
import Derived.ChangeOld
import Derived.Below
import Derived.SizedLaws
import Derived.Lay
import Derived.LaidMore
import Derived.SevenTiedAt
import Derived.Stop.Joined
import Derived.Shelf.Vars
import Derived.Lib.LaidTab
import Derived.Test.YtfhdiimcimafkaaGreatDoorRows
import Derived.Test.YtfhdiimcimafkaaGreatDoorJ2
import Derived.WalkKit
import Derived.Deep.SlicePairs
import Derived.Test.YtfhdiimcimafkaaGreatDoorJ3
import Derived.Deep.Cut
set_option linter.unusedVariables false
set_option linter.unusedSimpArgs false
/- canon.Points. -/
namespace Go.Proofs.YtfhdiimcimafkaaGreatDoor
open Go.RowKit
abbrev cpT : TypeId := 40
/-- a point's kind, and whether it has a value, as one number -/
def pcode (kd : Nat) (hb : Bool) : Int := ((2 * kd + (if hb then 1 else 0) : Nat) : Int)
theorem pcode_ok {kd : Nat} {hb : Bool} (h : kd ≤ 256) : 0 ≤ pcode kd hb ∧ pcode kd hb < 18446744073709551616 := by unfold pcode; cases hb <;> simp <;> omega
/-- what Points is told -/
def ptT (key : List Nat) (val : Int) (has leaf : Bool) (m : Nat) : PL := if leaf then [] else [(key, pcode (kindOf m) has)]
def flatP (es : EL) : List Value := es.flatMap fun e => [e.1, .int .i64 (e.2 / 2), .bool (decide (e.2 % 2 = 1))]
theorem flatP_snoc (es : EL) (v : Value) (kd : Nat) (hb : Bool) : flatP (es ++ [(v, pcode kd hb)]) = flatP es ++ [v, .int .i64 (kd : Nat), .bool hb] := by
  have h1 : pcode kd hb / 2 = (kd : Nat) := by unfold pcode; cases hb <;> simp <;> omega
  have h2 : decide (pcode kd hb % 2 = 1) = hb := by
    unfold pcode
    cases hb
    · simp only [Bool.false_eq_true, if_false, decide_eq_false_iff_not]; omega
    · simp only [if_true, decide_eq_true_eq]; omega
  simp only [flatP, List.flatMap_append, List.flatMap_cons, List.flatMap_nil, List.append_nil, h1, h2]
theorem flatP_len (es : EL) : (flatP es).length = es.length * 3 := by
  induction es with
  | nil => rfl
  | cons e es ih => simp only [flatP, List.flatMap_cons, List.length_append] at ih ⊢; rw [ih]; simp; omega
theorem flatP_get (es : EL) (i : Nat) (h : i < es.length) : (flatP es)[i * 3]? = some (es[i]).1 ∧ (flatP es)[i * 3 + 1]? = some (.int .i64 ((es[i]).2 / 2)) ∧ (flatP es)[i * 3 + 2]? = some (.bool (decide ((es[i]).2 % 2 = 1))) := by
  induction es generalizing i with
  | nil => simp at h
  | cons e es ih =>
    cases i with
    | zero => exact ⟨rfl, rfl, rfl⟩
    | succ i =>
      have := ih i (by simpa using h)
      have e1 : (i + 1) * 3 = 3 + i * 3 := by omega
      have hd : ∀ q, (flatP (e :: es))[3 + q]? = (flatP es)[q]? := fun q => by
        have : flatP (e :: es) = [e.1, .int .i64 (e.2 / 2), .bool (decide (e.2 % 2 = 1))] ++ flatP es := rfl
        rw [this, List.getElem?_append_right (by simp)]
        simp
      rw [e1, hd, show 3 + i * 3 + 1 = 3 + (i * 3 + 1) by omega, hd, show 3 + i * 3 + 2 = 3 + (i * 3 + 2) by omega, hd]
      exact this
theorem cpInfo : (Tryz.prog.info? cpT).map (fun i => (i.zero, i.size, i.bytes)) = some (some (.agg #[.slice none 0 0, .int .i64 0, .bool false]), 3, 40) := by kernel_rfl
theorem point_news (w : World) (x : Value) (k : Nat) (hb : Bool) (t : TypeId) : ∀ j u, ([x, .int .i64 (k : Nat), .bool hb] : List Value)[j]? = some u → (w.alloc (.cells #[x, .int .i64 (k : Nat), .bool hb] t)).cell? ((⟨w.heap.size, 0, none⟩ : Addr).add j) = some u := fun j u h => by
  have hb : (w.alloc (.cells #[x, .int .i64 (k : Nat), .bool hb] t)).heap[w.heap.size]? = some (.cells [x, .int .i64 (k : Nat), .bool hb].toArray t (0, 0)) := heap_alloc_new w _
  rw [add0, cell_of_blk hb]
  exact h
theorem oneP3 {a : Option Addr} {n c k : Nat} {hb : Bool} : ∀ u ∈ ([.slice a n c, .int .i64 (k : Nat), .bool hb] : List Value), u.oneCell' = true := by
  intro u hu
  simp only [List.mem_cons, List.not_mem_nil, or_false] at hu
  rcases hu with rfl | rfl | rfl <;> rfl
/-! Points. -/
/-- what Points' callback holds -/
structure SPs (lo bl : Nat) (F : Nat → Prop) (L : PL) (w : World) (v : Value) (es : EL) (bo : Option Nat) : Prop where
  var : w.heap[bl]? = some (.cells [v].toArray 33 (0, 0))
  own : OwnS 3 cpT w v L.length (flatP es) bo
  ents : Ents w es L
  fl : F bl
  fo : ∀ g, bo = some g → F g ∧ g ≠ bl
  fe : ∀ i (h : i < es.length) (p : Addr) n c, (es[i]).1 = .slice (some p) n c → F p.block ∧ p.block ≠ bl ∧ bo ≠ some p.block
  low : ∀ j, F j → lo ≤ j
  high : ∀ j, F j → j < w.heap.size
def SPst (lo bl : Nat) (F : Nat → Prop) (L : PL) (w : World) : Prop := ∃ v es bo, SPs lo bl F L w v es bo
theorem sps_cb (lo bl : Nat) : CbT (SPst lo bl) lo := by
  refine ⟨fun F L w w' ⟨v, es, bo, h⟩ hk => ?_, fun F L w ⟨v, es, bo, h⟩ j hj => h.low j hj, fun F L w ⟨v, es, bo, h⟩ j hj => h.high j hj⟩
  refine ⟨v, es, bo, (hk bl h.fl).trans h.var, h.own.keep fun g e => hk g (h.fo g e).1, ⟨h.ents.1, fun i h1 h2 => ?_⟩, h.fl, h.fo, h.fe, h.low, fun j hj => ?_⟩
  · obtain ⟨⟨a, n, c, e, q⟩, r⟩ := h.ents.2 i h1 h2
    refine ⟨⟨a, n, c, e, q.len, ⟨q.at_.1, fun j hj => ?_⟩, q.cap, q.capm, q.nil⟩, r⟩
    obtain ⟨p, ep, z1, z2⟩ := q.at_.2 j hj
    subst ep
    have hF := (h.fe i h1 p n c e).1
    have e1 := hk p.block hF
    refine ⟨p, rfl, ?_, ?_⟩
    · rw [add_block] at z1 ⊢
      have : w'.heap[p.block]? = some _ := e1.trans (Array.getElem?_eq_getElem z1)
      exact (Array.getElem?_eq_some_iff.1 this).1
    · rw [← z2]
      unfold World.cell?
      rw [add_block, e1]
  · have e1 := hk j hj
    have : w'.heap[j]? = some _ := e1.trans (Array.getElem?_eq_getElem (h.high j hj))
    exact (Array.getElem?_eq_some_iff.1 this).1
/-- one more -/
theorem SPs.step {lo bl : Nat} {F : Nat → Prop} {L : PL} {w wc w1 w2 w3 : World} {v v2 : Value} {es : EL} {bo bo2 : Option Nat} (h : SPs lo bl F L w v es bo) (hlo : lo ≤ w.heap.size) {x : List Nat} {kd : Nat} {hb : Bool} {a6 : Option Addr} {n6 c6 : Nat}
    (hb1 : Below w.heap.size w wc) (hs : Sl wc a6 n6 c6 x) (hn : ∀ p : Addr, a6 = some p → w.heap.size ≤ p.block ∧ p.block < wc.heap.size) (hkd : kd ≤ 256) (hb2 : Below wc.heap.size wc w1)
    (ho : OwnS 3 cpT w2 v2 (L.length + 1) (flatP es ++ [.slice a6 n6 c6, .int .i64 (kd : Nat), .bool hb]) bo2) (hm : Mod (fun j => bo = some j) w1 w2) (hn2 : NewOr w1 bo bo2) (h3 : w3 = w2.setCell ⟨bl, 0, none⟩ v2) :
    ∃ F', SPst lo bl F' (L ++ [(x, pcode kd hb)]) w3 ∧ Mod F w w3 ∧ ∀ j, F' j → F j ∨ w.heap.size ≤ j := by
  have s1 := hb1.size
  have s2 := hb2.size
  have s3 := hm.size
  have hbl := h.high bl h.fl
  have hB : Below w.heap.size w w1 := hb1.trans (hb2.mono s1)
  have hv : w2.heap[bl]? = some (.cells [v].toArray 33 (0, 0)) := (hm.same bl (by omega) (fun e => (h.fo bl e).2 rfl)).trans ((hB.block bl hbl).trans h.var)
  have hM2 : Mod F w w2 := (Mod.of_below hB).trans (hm.mono fun j _ e => (h.fo j e).1)
  have hM3 : Mod F w w3 := by rw [h3]; exact hM2.setCell ⟨bl, 0, none⟩ _ (fun _ => h.fl)
  have s4 : w3.heap.size = w2.heap.size := by rw [h3]; simp [World.setCell]
  have hbo2 : ∀ g, bo2 = some g → (F g ∨ w.heap.size ≤ g) ∧ g ≠ bl ∧ g < w2.heap.size := fun g e => by
    subst e
    refine ⟨?_, ?_, ho.lt⟩
    · rcases hn2 with e | ⟨g', e, hg⟩
      · exact Or.inl (h.fo g e.symm).1
      · cases e; exact Or.inr (by omega)
    · rcases hn2 with e | ⟨g', e, hg⟩
      · exact (h.fo g e.symm).2
      · cases e; omega
  have hneq : ∀ p : Addr, a6 = some p → bo2 ≠ some p.block := fun p e e2 => by
    have h1 := hn p e
    rcases hn2 with e3 | ⟨g', e3, hg⟩
    · rw [e3] at e2
      have := h.high _ (h.fo _ e2).1
      omega
    · rw [e3] at e2
      cases e2
      omega
  have hold : ∀ i (hi : i < es.length) (p : Addr) n c, (es[i]).1 = .slice (some p) n c → bo2 ≠ some p.block := fun i hi p n c e e2 => by
    have h1 := h.fe i hi p n c e
    rcases hn2 with e3 | ⟨g', e3, hg⟩
    · exact h1.2.2 (e3 ▸ e2)
    · rw [e3] at e2
      cases e2
      have := h.high _ h1.1
      omega
  refine ⟨fun j => F j ∨ (w.heap.size ≤ j ∧ j < w3.heap.size), ⟨v2, es ++ [(.slice a6 n6 c6, pcode kd hb)], bo2, ?_, ?_, ?_, Or.inl h.fl, ?_, ?_, ?_, ?_⟩, hM3, fun j hj => by rcases hj with e | e; exact Or.inl e; exact Or.inr e.1⟩
  · rw [h3, setCell_list _ _ _ _ _ _ hv, setRow_heap _ _ _ _ _ _ hv]; rfl
  · rw [flatP_snoc, List.length_append]
    rw [h3]
    refine OwnS.keep ho fun g e => Below.heap_setCell _ _ _ _ (hbo2 g e).2.1
  · have hm3 : Mod (fun j => bo = some j ∨ j = bl) w1 w3 := by rw [h3]; exact (hm.mono (fun j _ e => Or.inl e)).setCell ⟨bl, 0, none⟩ _ (fun _ => Or.inr rfl)
    have hE : Ents w3 es L := ents_keep (h.ents.below hB) hm3 (fun i hi p n c e t => by
      have q := h.fe i hi p n c e
      rcases t with t | t
      · exact q.2.2 t
      · exact q.2.1 t)
    have hs1 := hs.below hb2
    refine hE.snoc ⟨⟨_, _, _, rfl, hs1.len, bytes_keep hs1.at_ hm3 (fun p e t => ?_), hs1.cap, hs1.capm, hs1.nil⟩, rfl, pcode_ok hkd⟩
    have q := hn p e
    rcases t with t | t
    · have := h.high _ (h.fo _ t).1; omega
    · omega
  · intro g e
    have q := hbo2 g e
    exact ⟨by rcases q.1 with r | r; exact Or.inl r; exact Or.inr ⟨r, by omega⟩, q.2.1⟩
  · intro i hi p n c e
    by_cases hi2 : i < es.length
    · rw [List.getElem_append_left hi2] at e
      have q := h.fe i hi2 p n c e
      exact ⟨Or.inl q.1, q.2.1, hold i hi2 p n c e⟩
    · have ei : i = es.length := by simp at hi; omega
      subst ei
      have e' : (Value.slice a6 n6 c6) = .slice (some p) n c := by simpa using e
      injection e' with e'
      have q := hn p e'
      exact ⟨Or.inr ⟨q.1, by omega⟩, by omega, hneq p e'⟩
  · intro j hj
    rcases hj with e | e
    · exact h.low j e
    · omega
  · intro j hj
    rcases hj with e | e
    · have := h.high j e; omega
    · exact e.2
set_option maxHeartbeats 4000000 in
set_option maxRecDepth 100000 in
theorem pts_cbt (wN : World) (bl : Nat) : CbTell ptT (SPst wN.heap.size bl) wN (35) bl := fun F L w n bs y has leaf mm kk ka kn kc x ⟨v, es, bo, h⟩ hN hK hkn hy hy2 hmm hb hL => by
  have hV := Lib.hid (hN.val w (Below.refl _ _))
  have hKd := Lib.hid hN.kind
  have hE0 : Hid (∃ F', SPst wN.heap.size bl F' L w ∧ Mod F w w ∧ ∀ j, F' j → F j ∨ w.heap.size ≤ j) := ⟨F, ⟨v, es, bo, h⟩, Mod.refl _ _, fun j hj => Or.inl hj⟩
  obtain ⟨va, vc, hv, _⟩ := h.own.len
  subst hv
  have c1 : w.cell? ⟨bl, 0, none⟩ = some (.slice va L.length vc) := by rw [cell_of_blk h.var]; rfl
  have f1 := frozen_of_blk h.var 0
  have hcl : Hid (Calls Tryz.prog 38 #[.slice ka kn kc] w.drew fun e w' => ∃ a6 c6, e = .returned (.slice a6 kn c6) ∧ Sl w' a6 kn c6 x ∧ Below w.heap.size w w' ∧ ∀ p : Addr, a6 = some p → w.heap.size ≤ p.block ∧ p.block < w'.heap.size) :=
    (clone_new (hK.below (Below.refl _ _).drew) (by omega)).mono fun e w' ⟨a6, c6, e1, e2, e3, e4⟩ => ⟨a6, c6, e1, e2, (Below.refl _ w).drew.trans e3, e4⟩
  have H := Lib.hid h
  have hvar := Lib.hid h.var
  have hbl := Lib.hid (h.high bl h.fl)
  have hlo := Lib.hid hb.size
  have hb1 : Hid (L.length + 1 ≤ maxLen) := by show _ ≤ _; unfold maxLen; omega
  have hb2 : Hid ((L.length + 1) * 40 ≤ 140737488355328) := by show _ ≤ _; omega
  have hfo : Hid (∀ g, bo = some g → g ≠ bl) := fun g e => (h.fo g e).2
  obtain ⟨kd, ekd⟩ : ∃ kd, kd = kindOf mm := ⟨_, rfl⟩
  have hkd : kd ≤ 256 := by rw [ekd]; have := kindOf_cases mm; omega
  have hkd1 : kd ≠ 1 := by rw [ekd]; have := kindOf_cases mm; omega
  clear h hb hK hN
  cases leaf with
  | true =>
    have e : L ++ ptT x y has true mm = L := by simp [ptT]
    rw [e]
    clear e
    go_enter Tryz.func35, Tryz.ntmps35
    go_wp2_with (go_at_call 36; refine (hKd.out w (Below.refl _ _)).mono ?_; rintro e w' ⟨rfl, rfl⟩)
    go_end0
    exact ⟨rfl, hE0.out⟩
  | false =>
  clear hE0
  have e : ptT x y has false mm = [(x, pcode kd has)] := by rw [ekd]; rfl
  rw [e]
  have hkc : ((kd : Int) == 1) = false := by rw [beq_eq_false_iff_ne]; omega
  have hKk : Hid (∀ X, Below w.heap.size w X → Calls Tryz.prog 36 #[.pointer (some ⟨n, 0, none⟩)] X fun e w' => e = .returned (.int .i64 (kd : Nat)) ∧ X = w') := fun X hb => by rw [ekd]; exact hKd.out X hb
  clear hKd ekd hkd1 e
  go_enter Tryz.func35, Tryz.ntmps35
  go_wp2_with (first
    | (go_at_call 36; refine (hKk.out w (Below.refl _ _)).mono ?_; rintro e w' ⟨rfl, rfl⟩)
    | (go_at_call 37; refine hV.out.mono ?_; rintro e w' ⟨rfl, rfl⟩))
  go_region_law (first
    | (refine step_append_s rfl (.tmp 15) (.tmp 22) 33 rfl cpT _ 3 40 Tryz.underlying33 cpInfo rfl (by omega) (.slice va L.length vc) rfl L.length (flatP es) bo (ho1.out _) ⟨w1.heap.size, 0, none⟩ 1 1 [.slice a6 kn c6, .int .i64 (kd : Nat), .bool has] rfl rfl (hnw.out) (h1.out) hb1.out hb2.out ?_; intro v2 w2 bo2 HO HM HN; obtain ⟨a2, c2, hv2, _⟩ := HO.out.len; subst hv2; have hh := Lib.hid ((HM.out.same bl (by rw [World.size_alloc]; have := hbl.out; have := B1.out.size; omega) (fun e => hfo.out bl e rfl)).trans ((Below.heap_alloc _ _ _ (by have := hbl.out; have := B1.out.size; omega)).trans hv1.out)); have z1 : w2.cell? ⟨bl, 0, none⟩ = some (.slice va L.length vc) := by rw [cell_of_blk hh.out]; rfl
       have z2 := frozen_of_blk hh.out 0)
    | (go_simp; go_at_call 36; have g0 := B1; refine (hKk.out w1 B1.out).mono ?_; rintro e wk ⟨rfl, rfl⟩)
    | (go_simp; go_at_call 38; refine hcl.out.mono ?_; rintro e w1 ⟨a6, c6, rfl, s6, b6, n6⟩; have S6 := Lib.hid s6; have B1 := Lib.hid b6; have N6 := Lib.hid n6; have hv1 := Lib.hid ((b6.block bl hbl.out).trans hvar.out); have d1 : w1.cell? ⟨bl, 0, none⟩ = some (.slice va L.length vc) := by rw [cell_of_blk hv1.out]; rfl
       have ho1 : Hid (∀ o, OwnS 3 cpT (w1.alloc o) (.slice va L.length vc) L.length (flatP es) bo) := fun o => (H.out.own.below b6).below ((Below.refl _ w1).alloc (Nat.le_refl _) o)
       have d2 : ∀ o, (w1.alloc o).cell? ⟨bl, 0, none⟩ = some (.slice va L.length vc) := fun o => (((Below.refl _ w1).alloc (Nat.le_refl _) o).cell (p := ⟨bl, 0, none⟩) (cell_lt d1)).trans d1
       have hnw := Lib.hid (point_news w1 (.slice a6 kn c6) kd has cpT)
       have h1 := Lib.hid (oneP3 (a := a6) (n := kn) (c := c6) (k := kd) (hb := has))
       clear s6 b6 n6))
  all_goals
    have hst := Lib.hid (H.out.step hlo.out B1.out S6.out N6.out hkd ((Below.refl _ w1).alloc (Nat.le_refl _) _) HO.out HM.out HN.out rfl)
    (try simp only [Exit.then, Exit.inBlock])
    go_end0
    exact ⟨rfl, hst.out⟩
/-- points in memory -/
def PtsAt (w : World) (a : Option Addr) (n c : Nat) (l : PL) : Prop := ∃ (es : EL) (bo : Option Nat), OwnS 3 cpT w (.slice a n c) n (flatP es) bo ∧ Ents w es l ∧ l.length = n
def ptsPost (l : PL) (w : World) (e : Ending) (w' : World) : Prop := ∃ a c, e = .returned (.slice a l.length c) ∧ PtsAt w' a l.length c l ∧ Below w.heap.size w w'
theorem pts_of_own {w : World} {v : Value} {es : EL} {bo : Option Nat} {l : PL} (h : OwnS 3 cpT w v l.length (flatP es) bo) (he : Ents w es l) : ∃ a c, v = .slice a l.length c ∧ PtsAt w a l.length c l := by
  obtain ⟨a, c, rfl, _⟩ := h.len
  exact ⟨a, c, rfl, es, bo, h, he, rfl⟩
set_option maxHeartbeats 1000000 in
theorem pts_any {w0 w : World} {Q : List NP} {t : Tr} {p : Option Addr} (hQ : StoreP NoB w0 w Q) (hT : TreeV Q t (.pointer p)) (hO : TOk t) (hway : tway t ≤ 900000) (htot : (tv ptT t []).length ≤ 2000) : Calls Tryz.prog 12 #[.pointer p] w (ptsPost (tv ptT t []) w) := by
  obtain ⟨w4, hw4⟩ : ∃ w4, w4 = w.alloc (.cells #[.slice none 0 0] 33) := ⟨_, rfl⟩
  have hb4 : Below w.heap.size w w4 := by rw [hw4]; exact (Below.refl _ w).alloc (Nat.le_refl _) _
  have hv4 : w4.heap[w.heap.size]? = some (.cells [.slice none 0 0].toArray 33 (0, 0)) := by rw [hw4]; exact heap_alloc_new w _
  have hs4 : w4.heap.size = w.heap.size + 1 := by rw [hw4, World.size_alloc]
  have hS0 : SPst w.heap.size w.heap.size (fun j => j = w.heap.size) [] w4 :=
    ⟨_, [], none, hv4, OwnS.nil _ _ _, ents_nil _, rfl, (fun g e => by cases e), (fun i h => by simp at h), (fun j hj => by rw [hj]; exact Nat.le_refl _), (fun j hj => by rw [hj, hs4]; exact Nat.lt_succ_self _)⟩
  have hEa := Lib.hid (eachTopG_pt (sps_cb w.heap.size w.heap.size) (pts_cbt w w.heap.size) hQ hT hO hb4 hS0 hway htot)
  obtain ⟨T, hTe⟩ : ∃ T, T = tv ptT t [] := ⟨_, rfl⟩
  rw [← hTe] at hEa ⊢
  have HB4 := Lib.hid hb4
  have hfin : Hid (∀ F w5, Mod (fun j => j = w.heap.size) w4 w5 → SPst w.heap.size w.heap.size F T w5 → ∃ a c, w5.cell? ⟨w.heap.size, 0, none⟩ = some (.slice a T.length c) ∧ ptsPost T w (.returned (.slice a T.length c)) w5) := fun F w5 hm ⟨v, es, bo, h⟩ => by
    obtain ⟨a, c, rfl, hp⟩ := pts_of_own h.own h.ents
    refine ⟨a, c, by rw [cell_of_blk h.var]; rfl, a, c, rfl, hp, HB4.out.trans (hm.belowLo (fun j hj => ?_) HB4.out.size)⟩
    have hj : j = w.heap.size := hj
    rw [hj]; exact Nat.le_refl _
  clear hQ hT hO hTe hb4 hS0 hv4 hs4 hway htot
  go_enter Tryz.func12, Tryz.ntmps12
  go_upto_region 2 with fail
  rw [← hw4]
  clear hw4
  go_wp2_with (go_at_call 34; refine hEa.out.mono ?_; rintro e w5 ⟨rfl, F5, z2, z1, _⟩; obtain ⟨a5, c5, y1, y2⟩ := hfin.out F5 w5 z1 z2; have Y := Lib.hid y2; clear z1 z2 y2)
  go_ret
  exact Y.out
end Go.Proofs.YtfhdiimcimafkaaGreatDoor
/- alive of law 13. -/
namespace Go.Proofs.YtfhdiimcimafkaaGreatDoor
open Go.RowKit
theorem dec4 : decU 4 = [52] := Lib.decDigits_one (by omega)
theorem dec5 : decU 5 = [53] := Lib.decDigits_one (by omega)
theorem dec6 : decU 6 = [54] := Lib.decDigits_one (by omega)
theorem alT_shp : shpT alT = [52, 60, 48, 49, 61, 53, 58, 48, 50, 76, 61, 54, 62] := by
  have h : shpT alT = (decU 4 ++ [60]) ++ ([48, 49] ++ ((61 :: decU 5) ++ ((58 :: ([48, 50] ++ ([76] ++ ([] ++ ((61 :: decU 6) ++ [])) ++ []))) ++ [62]))) := rfl
  rw [h, dec4, dec5, dec6]; rfl
structure Al13 (w : World) (a : Addr) : Prop where
  shape : ∀ X, Below w.heap.size w X → Calls Tryz.prog 15 #[.pointer (some a)] X (belowPost (.string ⟨#[52, 60, 48, 49, 61, 53, 58, 48, 50, 76, 61, 54, 62]⟩) X)
  fine : ∀ X, Below w.heap.size w X → Calls Tryz.prog 16 #[.pointer (some a)] X (belowPost (.bool true) X)
  depth : ∀ X, Below w.heap.size w X → Calls Tryz.prog 17 #[.pointer (some a)] X (belowPost (.int .i64 2) X)
  count : ∀ X, Below w.heap.size w X → Calls Tryz.prog 18 #[.pointer (some a)] X (belowPost (.int .i64 2) X)
  list : ∀ X, Below w.heap.size w X → Calls Tryz.prog 19 #[.pointer (some a)] X fun e w' => ∃ b c, e = .returned (.slice b 2 c) ∧ Below X.heap.size X w'
  points : ∀ X, Below w.heap.size w X → Calls Tryz.prog 12 #[.pointer (some a)] X fun e w' => ∃ b c, e = .returned (.slice b 1 c) ∧ Below X.heap.size X w'
theorem al13_of {w0 w : World} {Q : List NP} {t : Tr} {v : Option Addr} (hP : PTab w) (hQ : StoreP NoB w0 w Q) (hT : TreeV Q t (.pointer v)) (hO : TOk t) (hC : Can t) (he : tl t = alL) : ∃ a, v = some a ∧ Al13 w a := by
  have hN : IsN t := hT.node (by rw [he]; simp [alL])
  obtain rfl : t = alT := can_eq hN trivial hO alT_ok hC alT_can (he.trans alT_l.symm)
  obtain ⟨a, rfl⟩ : ∃ a, v = some a := by
    rcases hT with ⟨h, _⟩ | ⟨_, hT⟩
    · cases h
    · obtain ⟨i, p, h0, h1, h2, _⟩ := hT
      exact ⟨_, by simpa using h2⟩
  refine ⟨a, rfl, fun X hb => ?_, fun X hb => ?_, fun X hb => ?_, fun X hb => ?_, fun X hb => ?_, fun X hb => ?_⟩
  · have := canon_shape (hP.below hb) (hQ.below hb) hT hO (by have h := alT_shp; show (shpT alT).length ≤ _; rw [h]; simp) (by simp [alT, tway])
    rw [alT_shp] at this
    exact this
  · exact fine_any (hQ.below hb) hT hO (by simp [alT, tway]) (by simp [alT, tv, fnT])
  · exact depth_any 2 (by omega) alT (by simp [alT, tdep]) (hQ.below hb) hT hO
  · exact count_any (hQ.below hb) hT hO (by simp [alT, tway]) (by rw [alT_l]; simp [alL])
  · exact (list_any (hQ.below hb) hT hO (by simp [alT, tway]) (by rw [alT_l]; simp [alL])).mono fun e w' ⟨b, c, q1, q2, q3⟩ => ⟨b, c, q1, q3⟩
  · exact (pts_any (hQ.below hb) hT hO (by simp [alT, tway]) (by simp [alT, tv, ptT])).mono fun e w' ⟨b, c, q1, q2, q3⟩ => ⟨b, c, q1, q3⟩
set_option maxHeartbeats 2000000 in
set_option maxRecDepth 100000 in
theorem alive13 (w : World) (hP : PTab w) : Calls Tryz.prog 8 #[] w (belowPost (.bool true) w) := by
  obtain ⟨W3, hW3⟩ : ∃ W3, W3 = ((w.alloc (.cells #[.int .u8 1] 5)).alloc (.cells #[.int .u8 1, .int .u8 2] 5)).alloc (.cells #[.slice (some ⟨w.heap.size, 0, none⟩) 1 1, .int .u64 5, .slice (some ⟨w.heap.size + 1, 0, none⟩) 2 2, .int .u64 6] apT) := ⟨_, rfl⟩
  have hB0 : Hid (Below w.heap.size w W3) := by rw [hW3]; exact (((Below.refl _ w).alloc (Nat.le_refl _) _).alloc (by simp) _).alloc (by simp; omega) _
  have hBd : Hid (Calls Tryz.prog 10 #[.pointer none, .int .u64 1, .slice (some ⟨w.heap.size + 1 + 1, 0, none⟩) 2 2] W3 fun e w' => ∃ a, e = .returned (.tuple #[.pointer (some a), .int .i64 0]) ∧ Below W3.heap.size W3 w' ∧ Al13 w' a) := by
    have h := canon_build 1 (by omega) W3 (some ⟨w.heap.size + 1 + 1, 0, none⟩) 2 2 alL (by rw [hW3]; exact al_prs w 5 5 apT) al_srt (by intro x hx; simp [alL] at hx; rcases hx with rfl | rfl <;> simp)
    refine h.mono fun e w' ⟨t, v, Q, q1, q2, q3, q4, q5, q6⟩ => ?_
    obtain ⟨a, rfl, hA⟩ := al13_of ((hP.below hB0.out).below q2.below_) q2 q3 q4 q5 q6
    exact ⟨a, q1, q2.below_, hA⟩
  clear hP
  go_enter Tryz.func8, Tryz.ntmps8
  go_wp2_with (first
    | (have g0 := B6; go_at_call 12; refine (HA.out.points _ B6.out).mono ?_; rintro e w7 ⟨b7, c7, rfl, z⟩; have B7 := Lib.hid (B6.out.trans (z.mono B6.out.size)); clear z)
    | (have g0 := B5; go_at_call 19; refine (HA.out.list _ B5.out).mono ?_; rintro e w6 ⟨b6, c6, rfl, z⟩; have B6 := Lib.hid (B5.out.trans (z.mono B5.out.size)); clear z)
    | (have g0 := B4; go_at_call 18; refine (HA.out.count _ B4.out).mono ?_; rintro e w5 ⟨rfl, z⟩; have B5 := Lib.hid (B4.out.trans (z.mono B4.out.size)); clear z)
    | (have g0 := B3; go_at_call 17; refine (HA.out.depth _ B3.out).mono ?_; rintro e w4 ⟨rfl, z⟩; have B4 := Lib.hid (B3.out.trans (z.mono B3.out.size)); clear z)
    | (have g0 := B2; go_at_call 16; refine (HA.out.fine _ B2.out).mono ?_; rintro e w3 ⟨rfl, z⟩; have B3 := Lib.hid (B2.out.trans (z.mono B2.out.size)); clear z)
    | (have g0 := B1; go_at_call 15; refine (HA.out.shape _ B1.out).mono ?_; rintro e w2 ⟨rfl, z⟩; have B2 := Lib.hid (B1.out.trans (z.mono B1.out.size)); clear z)
    | (rw [← hW3]; clear hW3; go_at_call 10; refine hBd.out.mono ?_; rintro e w1 ⟨a, rfl, z, hA⟩
       have HA := Lib.hid hA
       have BW := Lib.hid (hB0.out.trans (z.mono hB0.out.size))
       have B1 := Lib.hid (Below.refl w1.heap.size w1)
       clear z hA))
  go_ret
  exact ⟨rfl, BW.out.trans (B7.out.mono BW.out.size)⟩
end Go.Proofs.YtfhdiimcimafkaaGreatDoor
/- Rows of canon's laws: the table that is laid, numbers that come in. -/
namespace Go.Proofs.YtfhdiimcimafkaaGreatDoor
open Go.ChangeShapes Go.WideShapes Go.ChangeAt Go.RowKit
theorem own : ownKnob Tryz.prog.godebug = none := by kernel_rfl
theorem laidOut : laidOutB Tryz.prog = true := by kernel_rfl
theorem wf_u32 {n : Int} (h : (Lit.int .u32 n).wf = true) : 0 ≤ n ∧ n < 4294967296 := by
  have : 0 ≤ n ∧ n ≤ 4294967295 := by simpa [Lit.wf, IntKind.min, IntKind.max, IntKind.signed, IntKind.bits] using h
  omega
theorem PTab.of_heap {w w' : World} (h : PTab w) (e : w'.heap = w.heap) : PTab w' := by
  unfold PTab Lib.TabIs World.var? at *
  rw [e]; exact h
theorem p10_glob : Tryz.prog.globalNamed "internal/strconv.uint64pow10" = some 0 := by kernel_rfl
theorem p10_type : (Tryz.prog.globals[(0 : Nat)]?).map (·.type) = some 165 := by kernel_rfl
/-- the list that is laid, for each of these laws -/
abbrev laid13 : List (String × DataW Unit) := [("math/bits.deBruijn32tab", Rows.laid_math_bits_deBruijn32tab), ("math/bits.deBruijn64tab", Rows.laid_math_bits_deBruijn64tab), ("internal/strconv.uint64pow10", Rows.laid_internal_strconv_uint64pow10)]
theorem ptab_of {w : World} (h : laidMetH Tryz.prog laid13 w) : PTab w := by
  rw [MakeChecks.laidMetH_plain _ _ _ (by kernel_rfl)] at h
  obtain ⟨ps, ⟨_, _, _, _, _, q1, _, _, _, _, ⟨_, _, _, _, _, q2, _, _, _, _, h3, _⟩, _⟩, _, _⟩ := h
  obtain ⟨g', t', cs, fuel, p, q, hg', ht', hvar, hd, _, _⟩ := h3
  obtain rfl := Option.some.inj (p10_glob.symm.trans hg')
  obtain rfl := Option.some.inj (p10_type.symm.trans ht')
  unfold PTab Lib.TabIs
  rw [hvar, ← Lib.cells_of_tab (k := .u64) (zs := Lib.pow10Tab) Tryz.underlying165 Tryz.underlying30 (by kernel_rfl) (by kernel_rfl) hd]
end Go.Proofs.YtfhdiimcimafkaaGreatDoor
/- Arguments of rows: bytes, slices of pairs. -/
namespace Go.Proofs.YtfhdiimcimafkaaGreatDoor
open Go.ChangeShapes Go.WideShapes Go.ChangeAt Go.RowKit
section
variable {H : Type} {enc : TypeId × Value → H} {w : World} {base : Nat} {held : Bool}
/-- a slice of bytes that came in, by its cell -/
theorem open_slc {v : Value} {fuel : Nat} {x : DataW H × List MemPlace} (h : DataW.trod enc Tryz.prog w base (fun _ => true) held fuel 38 [v] = some x) :
    ∃ a n c bs, v = .slice a n c ∧ Sl w a n c bs := by
  rcases open_ints Tryz.underlying38 Tryz.underlying5 (by kernel_rfl) h with ⟨e, _⟩ | ⟨a, l, c, zs, e, _, hl, hm, hlen, _, hcell, hw⟩
  · obtain rfl : v = .slice none 0 0 := by simpa using e
    exact ⟨none, 0, 0, [], rfl, sl_nil w⟩
  · obtain rfl : v = .slice (some a) l c := by simpa using e
    have hlen' : zs.length = c := by simpa using hlen
    refine ⟨some a, l, c, (zs.take l).map Int.toNat, rfl, by simp; omega, ⟨?_, ?_⟩, hl, hm, fun e => by cases e⟩
    · intro y hy
      obtain ⟨n, hn, rfl⟩ := List.mem_map.1 hy
      have := wf_u8 (hw n (List.mem_of_mem_take hn))
      omega
    · intro i hi
      have hi' : i < l := by simp at hi; omega
      have hz : i < zs.length := by omega
      have hc := hcell i hz
      have hn := wf_u8 (hw zs[i] (List.getElem_mem _))
      have e : zs.getD i 0 = ((((zs.take l).map Int.toNat).getD i 0 : Nat) : Int) := by
        simp [List.getD, List.getElem?_take, hi', hz]
        omega
      refine ⟨a, rfl, cell_lt hc, ?_⟩
      rw [hc, e]
set_option maxRecDepth 100000 in
theorem open_sl {v : Value} {d : DataW H} {ps : List MemPlace} (h : DataW.Trod enc Tryz.prog w base (fun _ => true) held 38 v d ps) (hv : Value.okWide Tryz.prog w .any base 38 v) :
    ∃ a n c bs, v = .slice a n c ∧ Sl w a n c bs := by
  obtain ⟨a0, n0, c0, rfl⟩ := okWide_slice Tryz.underlying38 hv
  obtain ⟨fuel, h⟩ := h
  exact open_slc (x := (d, ps)) (show DataW.trod enc Tryz.prog w base (fun _ => true) held fuel 38 [.slice a0 n0 c0] = some (d, ps) from h)
set_option maxRecDepth 100000 in
/-- a slice of pairs that came in -/
theorem open_prs {v : Value} {d : DataW H} {ps : List MemPlace} (h : DataW.Trod enc Tryz.prog w base (fun _ => true) held 22 v d ps) (hv : Value.okWide Tryz.prog w .any base 22 v) :
    ∃ a n c l, v = .slice a n c ∧ Prs w a n c l := by
  obtain ⟨a0, n0, c0, rfl⟩ := okWide_slice Tryz.underlying22 hv
  obtain ⟨fuel, h⟩ := h
  have h : DataW.trod enc Tryz.prog w base (fun _ => true) held fuel 22 [.slice a0 n0 c0] = some (d, ps) := h
  rcases Go.Deep.open_slice_pairs Tryz.underlying22 Tryz.underlying73 (by kernel_rfl) rfl rfl (by kernel_rfl) (by kernel_rfl) h with ⟨e, _⟩ | ⟨a, l, c, m, n, V0, V1, D0, D1, P0, P1, e, _, hl, hm, hmm, _, hx⟩
  · obtain ⟨rfl, rfl, rfl⟩ : a0 = none ∧ n0 = 0 ∧ c0 = 0 := by simpa using e
    exact ⟨none, 0, 0, [], rfl, prs_nil w⟩
  · obtain ⟨rfl, rfl, rfl⟩ : a0 = some a ∧ n0 = l ∧ c0 = c := by simpa using e
    have hlm : n0 ≤ m := by rw [hmm]; simp only [if_true]; exact hl
    have key : ∀ i, i < n0 → ∃ y : List Nat × Int, (0 ≤ y.2 ∧ y.2 < 18446744073709551616) ∧ PrC w a i y := fun i hi => by
      obtain ⟨h0, h1, t0, t1⟩ := hx i (by omega)
      obtain ⟨b, k, c, bs, e0, s0⟩ := open_slc t0
      obtain ⟨z, e1, _, wz⟩ := DataW.trod_int Tryz.underlying30 t1
      have e1 : V1 i = .int .u64 z := by simpa using e1
      have := wf_u64 wz
      have hadd : (a.add (i * 2 + 1)) = ⟨(a.add (i * 2)).block, (a.add (i * 2)).off + 1, none⟩ := by
        rw [← Go.Deep.add_add]
        simp [Addr.add]
      refine ⟨(bs, z), ⟨this.1, by show z < _; omega⟩, cell_lt h0, b, k, c, by rw [h0, e0], by rw [← hadd, h1, e1], s0⟩
    obtain ⟨f, hf⟩ := Go.Deep.choose_lt key
    have hget : ∀ i, i < n0 → ((List.range n0).map f).getD i ([], 0) = f i := fun i hi => by
      rw [List.getD_eq_getElem?_getD, List.getElem?_eq_getElem (by simpa using hi)]; simp
    refine ⟨some a, n0, c0, (List.range n0).map f, rfl, by simp, hl, hm, (fun e => by cases e), fun x hx => ?_, fun i hi => ⟨a, rfl, ?_⟩⟩
    · obtain ⟨i, hi, rfl⟩ := List.mem_map.1 hx
      exact (hf i (List.mem_range.1 hi)).1
    · have hi' : i < n0 := by simpa using hi
      rw [hget i hi']
      exact (hf i hi').2
end
end Go.Proofs.YtfhdiimcimafkaaGreatDoor
/- Nodes made since a world, and the blocks that they lie in: what else was made since then stays as it was, while nodes are made and written to. -/
namespace Go.Proofs.YtfhdiimcimafkaaGreatDoor
open Go.RowKit
/-- nodes, all in the blocks Z -/
def StoreW (w0 w : World) (P : List NP) (Z : Nat → Prop) : Prop := ∃ L : List Nd, L.map Nd.toNP = P ∧ Store NoB w0 w L ∧ (∀ (i : Nat) (d : Nd), L[i]? = some d → ∀ j, (d.W j ∨ d.bo = some j) → Z j) ∧ ∀ j, Z j → j < w.heap.size
section
variable {w0 w w' : World} {P : List NP} {Z : Nat → Prop} {i : Nat} {p : NP}
theorem StoreW.toP (h : StoreW w0 w P Z) : StoreP NoB w0 w P := by
  obtain ⟨L, e, h, _⟩ := h; exact ⟨L, e, h⟩
theorem StoreW.nil (w0 w : World) (h : Mod NoB w0 w) : StoreW w0 w [] NoB :=
  ⟨[], rfl, ⟨by simp, by simp, by simp, by simp, by simp, by simp, h⟩, by simp, fun j h => h.elim⟩
theorem StoreW.lt (h : StoreW w0 w P Z) : ∀ j, Z j → j < w.heap.size := by
  obtain ⟨L, _, _, _, h⟩ := h; exact h
/-- what is changed in other blocks -/
theorem StoreW.other {T : Nat → Prop} (h : StoreW w0 w P Z) (hm : Mod T w w') (hT : ∀ j, T j → ¬ Z j) (hlo : ∀ j, T j → w0.heap.size ≤ j) : StoreW w0 w' P Z := by
  obtain ⟨L, e, h, hz, hl⟩ := h
  exact ⟨L, e, h.other hm (fun i d hd j t => ⟨fun q => hT j t (hz i d hd j (Or.inl q)), fun q => hT j t (hz i d hd j (Or.inr q))⟩) (fun j hj t => by have := hlo j t; omega), hz, fun j hj => Nat.lt_of_lt_of_le (hl j hj) hm.size⟩
theorem StoreW.below (h : StoreW w0 w P Z) (hb : Below w.heap.size w w') : StoreW w0 w' P Z :=
  h.other (T := NoB) (Mod.of_below hb) (fun _ e => e.elim) (fun _ e => e.elim)
theorem StoreW.drewN (h : StoreW w0 w P Z) (k : Nat) : StoreW w0 (w.drewN k) P Z := h.below (below_drewN (Below.refl _ w) k)
/-- one node more, that was made -/
theorem StoreW.made {o : Int} {bs : List Nat} {val : Int} {has : Bool} {kk : Option KV} {e : Ending} (h : StoreW w0 w P Z) (hf : (∀ b ∈ bs, b < 256) ∧ bs.length ≤ 140737488355328) (q : madePost o bs val has kk w e w') :
    ∃ n, e = .returned (.pointer (some ⟨n, 0, none⟩)) ∧ Below w.heap.size w w' ∧ ∃ Z', StoreW w0 w' (P ++ [⟨n, o, bs, val, has, kk⟩]) Z' ∧ ∀ j, Z' j → Z j ∨ w.heap.size ≤ j := by
  obtain ⟨L, rfl, h, hz, hl⟩ := h
  obtain ⟨n, pv, bo, kp, Sk, rfl, q1, q2, q3, q4, q5⟩ := q
  obtain ⟨d, hd⟩ : ∃ d : Nd, d = ⟨⟨n, o, bs, val, has, kk⟩, pv, bo, kp, Sk⟩ := ⟨_, rfl⟩
  have hW : ∀ j, d.W j → w.heap.size ≤ j := by
    rw [hd]
    rintro j (rfl | e)
    · exact q3
    · exact q5 j e
  have hB : ∀ j, d.bo = some j → w.heap.size ≤ j := by rw [hd]; exact q4
  have hi : d.is w' := by rw [hd]; exact q1
  refine ⟨n, rfl, q2, fun j => Z j ∨ (d.W j ∨ d.bo = some j), ⟨L ++ [d], by rw [hd]; simp, h.add (d := d) hi (by rw [hd]; exact hf) q2 hW (fun g hg => Or.inl (hB g hg)), fun i d' hd' j hj => ?_, fun j hj => ?_⟩, fun j hj => ?_⟩
  · rw [List.getElem?_append] at hd'
    split at hd'
    · exact Or.inl (hz i d' hd' j hj)
    · have hm := List.mem_of_getElem? hd'
      simp only [List.mem_cons, List.not_mem_nil, or_false] at hm
      rw [hm] at hj
      exact Or.inr hj
  · rcases hj with hj | hj | hj
    · exact Nat.lt_of_lt_of_le (hl j hj) q2.size
    · exact hi.Wlt j hj
    · exact NdIs.Rlt hi j hj
  · rcases hj with hj | hj | hj
    · exact Or.inl hj
    · exact Or.inr (hW j hj)
    · exact Or.inr (hB j hj)
theorem sw_inner {a : Option Addr} {n c : Nat} {bs : List Nat} (h : StoreW w0 w P Z) (hi : In8 w a n c bs) (o : Int) : Calls Tryz.prog 50 #[.pointer none, .int .u64 o, .slice a n c] w fun e w' => ∃ k, e = .returned (.pointer (some ⟨k, 0, none⟩)) ∧ Below w.heap.size w w' ∧ ∃ Z', StoreW w0 w' (P ++ [⟨k, o, bs, 0, false, some []⟩]) Z' ∧ ∀ j, Z' j → Z j ∨ w.heap.size ≤ j :=
  (nd_inner_made w w none o a n c bs ((made_nil 1 w).mono fun e w' q => ⟨q.1, q.2.symm⟩) hi.len hi.at_ hi.cap hi.nil).mono fun e w' q => h.made ⟨hi.at_.1, by rw [hi.len]; exact hi.cap⟩ q
theorem sw_leaf {a : Option Addr} {n c : Nat} {bs : List Nat} (h : StoreW w0 w P Z) (hi : In8 w a n c bs) (o v : Int) : Calls Tryz.prog 51 #[.pointer none, .int .u64 o, .slice a n c, .int .u64 v] w fun e w' => ∃ k, e = .returned (.pointer (some ⟨k, 0, none⟩)) ∧ Below w.heap.size w w' ∧ ∃ Z', StoreW w0 w' (P ++ [⟨k, o, bs, v, true, none⟩]) Z' ∧ ∀ j, Z' j → Z j ∨ w.heap.size ≤ j :=
  (nd_leaf_made w w none o v a n c bs ((made_nil 1 w).mono fun e w' q => ⟨q.1, q.2.symm⟩) hi.len hi.at_ hi.cap hi.nil).mono fun e w' q => h.made ⟨hi.at_.1, by rw [hi.len]; exact hi.cap⟩ q
/-- one node is written to -/
theorem StoreW.write {L : List Nd} {d d' : Nd} (h : Store NoB w0 w L) (hz : ∀ (i : Nat) (d : Nd), L[i]? = some d → ∀ j, (d.W j ∨ d.bo = some j) → Z j) (hl : ∀ j, Z j → j < w.heap.size) (hd : L[i]? = some d) (h' : d'.is w') (hf : d'.toNP.fit) (hm : Mod d.W w w') (hW : ∀ j, d'.W j → d.W j ∨ w.heap.size ≤ j) (hR : d'.bo = d.bo) :
    (∃ Z', StoreW w0 w' ((L.map Nd.toNP).set i d'.toNP) Z' ∧ ∀ j, Z' j → Z j ∨ w.heap.size ≤ j) ∧ Mod Z w w' := by
  have hR' : ∀ g, d'.bo = some g → d.bo = some g ∨ w.heap.size ≤ g := fun g hg => Or.inl (by rw [← hR]; exact hg)
  refine ⟨⟨fun j => Z j ∨ (d'.W j ∨ d'.bo = some j), ⟨L.set i d', by rw [List.map_set], h.write hd h' hf hm hW hR', fun k b hb j hj => ?_, fun j hj => ?_⟩, fun j hj => ?_⟩, hm.mono fun j _ hj => hz i d hd j (Or.inl hj)⟩
  · rw [List.getElem?_set] at hb
    split at hb
    · split at hb
      · obtain rfl : d' = b := by simpa using hb
        exact Or.inr hj
      · cases hb
    · exact Or.inl (hz k b hb j hj)
  · rcases hj with hj | hj | hj
    · exact Nat.lt_of_lt_of_le (hl j hj) hm.size
    · exact h'.Wlt j hj
    · exact NdIs.Rlt h' j hj
  · rcases hj with hj | hj | hj
    · exact Or.inl hj
    · rcases hW j hj with q | q
      · exact Or.inl (hz i d hd j (Or.inl q))
      · exact Or.inr q
    · exact Or.inl (hz i d hd j (Or.inr (by rw [← hR]; exact hj)))
theorem sw_get (h : StoreW w0 w P Z) (hi : P[i]? = some p) : ∃ L d, L.map Nd.toNP = P ∧ Store NoB w0 w L ∧ (∀ (i : Nat) (d : Nd), L[i]? = some d → ∀ j, (d.W j ∨ d.bo = some j) → Z j) ∧ (∀ j, Z j → j < w.heap.size) ∧ L[i]? = some d ∧ d.toNP = p := by
  obtain ⟨L, rfl, h, hz, hl⟩ := h
  rw [List.getElem?_map] at hi
  cases hd : L[i]? with
  | none => rw [hd] at hi; cases hi
  | some d => rw [hd] at hi; exact ⟨L, d, rfl, h, hz, hl, hd, by simpa using hi⟩
theorem sw_setval (h : StoreW w0 w P Z) (hi : P[i]? = some p) (x v : Int) (h0 : ¬ (x = 0 ∨ x ≠ p.o)) : Calls Tryz.prog 52 #[.pointer (some ⟨p.n, 0, none⟩), .int .u64 x, .int .u64 v] w fun e w' => e = .returned (.int .i64 0) ∧ (∃ Z', StoreW w0 w' (P.set i { p with val := v, has := true }) Z' ∧ ∀ j, Z' j → Z j ∨ w.heap.size ≤ j) ∧ Mod Z w w' := by
  obtain ⟨L, d, rfl, h, hz, hl, hd, rfl⟩ := sw_get h hi
  refine (nd_setval (h.here i d hd) x v h0).mono ?_
  rintro e w' ⟨rfl, q1, q2⟩
  exact ⟨rfl, StoreW.write h hz hl hd (d' := { d with val := v, has := true }) q1 (h.fit i d hd) (q2.mono fun j _ e => Or.inl e) (fun j e => Or.inl e) rfl⟩
theorem sw_setkid (h : StoreW w0 w P Z) (hi : P[i]? = some p) {l : KV} (hk : p.kk = some l) (x : Int) (h0 : ¬ (x = 0 ∨ x ≠ p.o)) (b : Nat) (hb : b < 256) (a : Addr) : Calls Tryz.prog 53 #[.pointer (some ⟨p.n, 0, none⟩), .int .u64 x, .int .u8 b, .pointer (some a)] w fun e w' => e = .returned (.int .i64 0) ∧ (∃ Z', StoreW w0 w' (P.set i { p with kk := some (kins l b (.pointer (some a))) }) Z' ∧ ∀ j, Z' j → Z j ∨ w.heap.size ≤ j) ∧ Mod Z w w' := by
  obtain ⟨L, d, rfl, h, hz, hl, hd, rfl⟩ := sw_get h hi
  have H : NdIs w d.n d.o d.bs d.val d.has (some l) d.pv d.bo d.kp d.Sk := by have := h.here i d hd; unfold Nd.is at this; rw [hk] at this; exact this
  refine (nd_setkid H x h0 b hb a).mono ?_
  rintro e w' ⟨rfl, S', q1, q2, q3⟩
  exact ⟨rfl, StoreW.write h hz hl hd (d' := { d with kk := some (kins l b (.pointer (some a))), Sk := S' }) q1 (h.fit i d hd) (q2.mono fun j _ e => Or.inr e) (fun j e => by
    rcases e with e | e
    · exact Or.inl (Or.inl e)
    · rcases q3 j e with e | e
      · exact Or.inl (Or.inr e)
      · exact Or.inr e) rfl⟩
end
end Go.Proofs.YtfhdiimcimafkaaGreatDoor
/- Nodes told node by node: the tree that they make. No program. -/
namespace Go.Proofs.YtfhdiimcimafkaaGreatDoor
open Go.RowKit
/-- a node that is told -/
structure RW where
  leaf : Bool
  bs : List Nat
  has : Bool
  val : Int
  up : Nat
  b : Nat
def RW.ok (r : RW) : Prop := (∀ x ∈ r.bs, x < 256) ∧ r.bs.length ≤ 300 ∧ 0 ≤ r.val ∧ r.val < 18446744073709551616 ∧ r.up < 256 ∧ r.b < 256
/-- a node, its kids by their places -/
structure GN where
  bs : List Nat
  val : Int
  has : Bool
  leaf : Bool
  kids : List (Nat × Nat)
def kinsN (l : List (Nat × Nat)) (b c : Nat) : List (Nat × Nat) := l.filter (fun p => decide (p.1 < b)) ++ (b, c) :: l.filter (fun p => decide (b < p.1))
theorem kins_map (f : Nat → Value) (l : List (Nat × Nat)) (b c : Nat) : kins (l.map fun x => (x.1, f x.2)) b (f c) = (kinsN l b c).map fun x => (x.1, f x.2) := by
  unfold kins kinsN
  rw [List.map_append, List.map_cons, List.filter_map, List.filter_map]
  rfl
theorem kinsN_mem {l : List (Nat × Nat)} {b c : Nat} {x : Nat × Nat} (h : x ∈ kinsN l b c) : x = (b, c) ∨ x ∈ l := by
  unfold kinsN at h
  rcases List.mem_append.1 h with h | h
  · exact Or.inr (List.mem_filter.1 h).1
  · rcases List.mem_cons.1 h with h | h
    · exact Or.inl h
    · exact Or.inr (List.mem_filter.1 h).1
theorem kinsN_srt {l : List (Nat × Nat)} (h : l.Pairwise fun x y => x.1 < y.1) (b c : Nat) : (kinsN l b c).Pairwise fun x y => x.1 < y.1 := by
  unfold kinsN
  rw [List.pairwise_append]
  refine ⟨h.filter _, List.pairwise_cons.2 ⟨fun y hy => ?_, h.filter _⟩, fun x hx y hy => ?_⟩
  · simpa using (List.mem_filter.1 hy).2
  · have h1 : x.1 < b := by simpa using (List.mem_filter.1 hx).2
    rcases List.mem_cons.1 hy with rfl | hy
    · exact h1
    · have h2 : b < y.1 := by simpa using (List.mem_filter.1 hy).2
      omega
def gnNew (r : RW) : GN := if r.leaf then ⟨r.bs, r.val, true, true, []⟩ else ⟨r.bs, if r.has then r.val else 0, r.has, false, []⟩
def gnKid (g : GN) (b c : Nat) : GN := if g.leaf then g else { g with kids := kinsN g.kids b c }
def gnOne (G : List GN) (r : RW) : List GN := if G.length = 0 then [gnNew r] else (G ++ [gnNew r]).modify (r.up % G.length) (fun g => gnKid g r.b G.length)
def gnAll (l : List RW) : List GN := l.foldl gnOne []
theorem gnOne_len (G : List GN) (r : RW) : (gnOne G r).length = G.length + 1 := by
  unfold gnOne
  split
  · rename_i h; simp [h]
  · simp
/-- what is true of each node -/
structure GnOk (n j : Nat) (g : GN) : Prop where
  b8 : ∀ x ∈ g.bs, x < 256
  bl : g.bs.length ≤ 300
  v0 : 0 ≤ g.val
  v1 : g.val < 18446744073709551616
  no : g.has = false → g.val = 0
  lf : g.leaf = true → g.has = true ∧ g.kids = []
  srt : g.kids.Pairwise fun x y => x.1 < y.1
  low : ∀ x ∈ g.kids, x.1 < 256 ∧ j < x.2 ∧ x.2 < n
/-- what is true of all nodes; par: whose kid each is -/
structure GsOk (G : List GN) (par : Nat → Nat) : Prop where
  ok : ∀ (j : Nat) (g : GN), G[j]? = some g → GnOk G.length j g
  par : ∀ (j : Nat) (g : GN), G[j]? = some g → ∀ x ∈ g.kids, par x.2 = j
  uniq : ∀ (j : Nat) (g : GN), G[j]? = some g → (g.kids.map (·.2)).Nodup
theorem gnNew_ok {r : RW} (h : r.ok) (n j : Nat) : GnOk n j (gnNew r) := by
  obtain ⟨h1, h2, h3, h4, _, _⟩ := h
  unfold gnNew
  split
  · exact ⟨h1, h2, h3, h4, by simp, by simp, by simp, by simp⟩
  · refine ⟨h1, h2, ?_, ?_, ?_, by simp, by simp, by simp⟩
    · simp only; split <;> omega
    · simp only; split <;> omega
    · intro e
      simp only at e ⊢
      rw [e]; simp
theorem gnNew_kids (r : RW) : (gnNew r).kids = [] := by unfold gnNew; split <;> rfl
theorem GnOk.more {n j : Nat} {g : GN} (h : GnOk n j g) : GnOk (n + 1) j g := ⟨h.b8, h.bl, h.v0, h.v1, h.no, h.lf, h.srt, fun x hx => by have := h.low x hx; omega⟩
theorem GnOk.kid {n j : Nat} {g : GN} (h : GnOk n j g) {b c : Nat} (hb : b < 256) (h1 : j < c) (h2 : c < n) : GnOk n j (gnKid g b c) := by
  unfold gnKid
  split
  · exact h
  · rename_i hl
    refine ⟨h.b8, h.bl, h.v0, h.v1, h.no, fun e => absurd e (by simpa using hl), kinsN_srt h.srt b c, fun x hx => ?_⟩
    rcases kinsN_mem hx with rfl | hx
    · exact ⟨hb, h1, h2⟩
    · exact h.low x hx
theorem kinsN_uniq {l : List (Nat × Nat)} (h : (l.map (·.2)).Nodup) {b c : Nat} (hc : ∀ x ∈ l, x.2 ≠ c) : ((kinsN l b c).map (·.2)).Nodup := by
  have h' : l.Pairwise fun x y => x.2 ≠ y.2 := by
    have := List.nodup_iff_pairwise_ne.1 h
    rwa [List.pairwise_map] at this
  rw [List.nodup_iff_pairwise_ne, List.pairwise_map]
  unfold kinsN
  rw [List.pairwise_append]
  refine ⟨h'.filter _, List.pairwise_cons.2 ⟨fun y hy => ?_, h'.filter _⟩, fun x hx y hy => ?_⟩
  · exact fun e => hc y (List.mem_filter.1 hy).1 e.symm
  · obtain ⟨hx1, hx2⟩ := List.mem_filter.1 hx
    have hx3 : x.1 < b := by simpa using hx2
    rcases List.mem_cons.1 hy with rfl | hy
    · exact hc x hx1
    · obtain ⟨hy1, hy2⟩ := List.mem_filter.1 hy
      have hy3 : b < y.1 := by simpa using hy2
      intro e
      obtain ⟨p, hp, rfl⟩ := List.getElem_of_mem hx1
      obtain ⟨q, hq, rfl⟩ := List.getElem_of_mem hy1
      rcases Nat.lt_trichotomy p q with hpq | hpq | hpq
      · exact List.pairwise_iff_getElem.1 h' p q hp hq hpq e
      · subst hpq; omega
      · exact List.pairwise_iff_getElem.1 h' q p hq hp hpq e.symm
theorem gnOne_ok {G : List GN} {par : Nat → Nat} (h : GsOk G par) {r : RW} (hr : r.ok) (hp : G.length ≠ 0 → par G.length = r.up % G.length) : GsOk (gnOne G r) par := by
  have hl := gnOne_len G r
  by_cases h0 : G.length = 0
  · have e : gnOne G r = [gnNew r] := by unfold gnOne; rw [if_pos h0]
    rw [e]
    have key : ∀ (j : Nat) (g : GN), [gnNew r][j]? = some g → g = gnNew r := fun j g hg => by
      have := List.mem_of_getElem? hg
      simpa using this
    refine ⟨fun j g hg => ?_, fun j g hg x hx => ?_, fun j g hg => ?_⟩
    · rw [key j g hg]; exact gnNew_ok hr _ _
    · rw [key j g hg, gnNew_kids] at hx; simp at hx
    · rw [key j g hg, gnNew_kids]; simp
  · have e : gnOne G r = (G ++ [gnNew r]).modify (r.up % G.length) (fun g => gnKid g r.b G.length) := by unfold gnOne; rw [if_neg h0]
    have hm : r.up % G.length < G.length := Nat.mod_lt _ (by omega)
    -- where a node comes from
    have key : ∀ (j : Nat) (g : GN), (gnOne G r)[j]? = some g → (j = G.length ∧ g = gnNew r) ∨ (∃ g0, G[j]? = some g0 ∧ ((j = r.up % G.length ∧ g = gnKid g0 r.b G.length) ∨ (j ≠ r.up % G.length ∧ g = g0))) := fun j g hg => by
      rw [e, List.getElem?_modify, Option.map_eq_map] at hg
      by_cases hj : j < G.length
      · rw [List.getElem?_append_left hj] at hg
        cases hgj : G[j]? with
        | none => rw [hgj] at hg; simp at hg
        | some g0 =>
          rw [hgj, Option.map_some] at hg
          refine Or.inr ⟨g0, rfl, ?_⟩
          by_cases hq : r.up % G.length = j
          · rw [if_pos hq] at hg
            exact Or.inl ⟨hq.symm, by simpa using hg.symm⟩
          · rw [if_neg hq] at hg
            exact Or.inr ⟨fun q => hq q.symm, by simpa using hg.symm⟩
      · rw [List.getElem?_append_right (by omega)] at hg
        have h2 : j - G.length < 1 := by
          rcases Nat.lt_or_ge (j - G.length) 1 with q | q
          · exact q
          · rw [List.getElem?_eq_none (by simpa using q)] at hg; simp at hg
        rw [show j - G.length = 0 by omega, List.getElem?_cons_zero, Option.map_some, if_neg (by omega)] at hg
        exact Or.inl ⟨by omega, by simpa using hg.symm⟩
    have hlow : ∀ (j : Nat) (g0 : GN), G[j]? = some g0 → ∀ x ∈ g0.kids, x.2 ≠ G.length := fun j g0 hg x hx => by
      have := (h.ok j g0 hg).low x hx; omega
    refine ⟨fun j g hg => ?_, fun j g hg x hx => ?_, fun j g hg => ?_⟩
    · rw [hl]
      rcases key j g hg with ⟨rfl, rfl⟩ | ⟨g0, hg0, ⟨hj, rfl⟩ | ⟨_, rfl⟩⟩
      · exact gnNew_ok hr _ _
      · exact (h.ok j g0 hg0).more.kid hr.2.2.2.2.2 (by omega) (by omega)
      · exact (h.ok j g hg0).more
    · rcases key j g hg with ⟨rfl, rfl⟩ | ⟨g0, hg0, ⟨hj, rfl⟩ | ⟨_, rfl⟩⟩
      · rw [gnNew_kids] at hx; simp at hx
      · unfold gnKid at hx
        split at hx
        · exact h.par j g0 hg0 x hx
        · rcases kinsN_mem hx with rfl | hx
          · rw [hp h0]; exact hj.symm
          · exact h.par j g0 hg0 x hx
      · exact h.par j g hg0 x hx
    · rcases key j g hg with ⟨rfl, rfl⟩ | ⟨g0, hg0, ⟨hj, rfl⟩ | ⟨_, rfl⟩⟩
      · rw [gnNew_kids]; simp
      · unfold gnKid
        split
        · exact h.uniq j g0 hg0
        · exact kinsN_uniq (h.uniq j g0 hg0) (hlow j g0 hg0)
      · exact h.uniq j g hg0
theorem gs_nil (par : Nat → Nat) : GsOk [] par := ⟨by simp, by simp, by simp⟩
/-- the tree at a place -/
def gtr (G : List GN) : Nat → Nat → Tr
  | 0, _ => .nil
  | f + 1, j => match G[j]? with
    | none => .nil
    | some g => .node g.bs g.val g.has g.leaf (ofL (g.kids.map fun x => (x.1, gtr G f x.2)))
theorem gtr_isN {G : List GN} {f j : Nat} (hf : 0 < f) (hj : j < G.length) : IsN (gtr G f j) := by
  cases f with
  | zero => omega
  | succ f => unfold gtr; rw [List.getElem?_eq_getElem hj]; trivial
theorem gtr_some {G : List GN} {f j : Nat} {g : GN} (h : G[j]? = some g) : gtr G (f + 1) j = .node g.bs g.val g.has g.leaf (ofL (g.kids.map fun x => (x.1, gtr G f x.2))) := by
  rw [gtr, h]
theorem ofL_tok : ∀ {L : List (Nat × Tr)}, (L.Pairwise fun x y => x.1 < y.1) → (∀ x ∈ L, x.1 < 256 ∧ IsN x.2 ∧ TOk x.2) → TOk (ofL L)
  | [], _, _ => trivial
  | x :: L, hs, h => by
    obtain ⟨h1, h2⟩ := List.pairwise_cons.1 hs
    obtain ⟨q1, q2, q3⟩ := h x (by simp)
    refine ⟨q1, q2, q3, ?_, ofL_tok h2 (fun y hy => h y (by simp [hy])), ?_⟩
    · cases L <;> trivial
    · cases L with
      | nil => trivial
      | cons y L => exact h1 y (by simp)
theorem ofL_isK (L : List (Nat × Tr)) : IsK (ofL L) := by cases L <;> trivial
theorem gtr_ok {G : List GN} {par : Nat → Nat} (h : GsOk G par) : ∀ f j, G.length - j ≤ f → TOk (gtr G f j)
  | 0, j, _ => trivial
  | f + 1, j, hf => by
    cases hg : G[j]? with
    | none => unfold gtr; rw [hg]; trivial
    | some g =>
      rw [gtr_some hg]
      have ok := h.ok j g hg
      refine ⟨ok.b8, ok.v0, ok.v1, ok.no, fun e => ⟨(ok.lf e).1, by rw [(ok.lf e).2]; rfl⟩, ofL_isK _, ofL_tok ?_ ?_⟩
      · rw [List.pairwise_map]; exact ok.srt
      · intro x hx
        obtain ⟨y, hy, rfl⟩ := List.mem_map.1 hx
        have := ok.low y hy
        exact ⟨this.1, gtr_isN (by omega) this.2.2, gtr_ok h f y.2 (by omega)⟩
theorem ofL_way (B : Nat) : ∀ {L : List (Nat × Tr)}, (∀ x ∈ L, tway x.2 ≤ B) → tway (ofL L) ≤ 1 + B
  | [], _ => Nat.zero_le _
  | x :: L, h => by
    have h1 := h x (by simp)
    have h2 := ofL_way B (L := L) (fun y hy => h y (by simp [hy]))
    simp only [ofL, tway]
    omega
theorem gtr_way {G : List GN} {par : Nat → Nat} (h : GsOk G par) : ∀ f j, tway (gtr G f j) ≤ f * 301
  | 0, j => Nat.zero_le _
  | f + 1, j => by
    cases hg : G[j]? with
    | none => unfold gtr; rw [hg]; exact Nat.zero_le _
    | some g =>
      rw [gtr_some hg]
      have := ofL_way (f * 301) (L := g.kids.map fun x => (x.1, gtr G f x.2)) (fun x hx => by
        obtain ⟨y, _, rfl⟩ := List.mem_map.1 hx
        exact gtr_way h f y.2)
      have := (h.ok j g hg).bl
      simp only [tway]
      omega
/-- how many nodes -/
def tsz : Tr → Nat
  | .nil => 0
  | .kid _ t r => tsz t + tsz r
  | .node _ _ _ _ ks => 1 + tsz ks
def sumN (l : List Nat) : Nat := l.foldr (· + ·) 0
theorem sumN_app (a b : List Nat) : sumN (a ++ b) = sumN a + sumN b := by
  induction a with
  | nil => simp [sumN]
  | cons x a ih => simp only [sumN, List.cons_append, List.foldr_cons] at *; omega
theorem ofL_sz (L : List (Nat × Tr)) : tsz (ofL L) = sumN (L.map fun x => tsz x.2) := by
  induction L with
  | nil => rfl
  | cons x L ih => simp only [ofL, tsz, ih, List.map_cons, sumN, List.foldr_cons]
def kidsOf (G : List GN) (j : Nat) : List Nat := match G[j]? with | none => [] | some g => g.kids.map (·.2)
theorem gtr_szs {G : List GN} (f : Nat) (J : List Nat) : sumN (J.map fun j => tsz (gtr G (f + 1) j)) ≤ J.length + sumN ((J.flatMap (kidsOf G)).map fun j => tsz (gtr G f j)) := by
  induction J with
  | nil => simp [sumN]
  | cons j J ih =>
    rw [List.flatMap_cons, List.map_append, sumN_app, List.length_cons]
    have : tsz (gtr G (f + 1) j) ≤ 1 + sumN ((kidsOf G j).map fun j => tsz (gtr G f j)) := by
      unfold kidsOf
      cases hg : G[j]? with
      | none => unfold gtr; rw [hg]; simp [tsz]
      | some g =>
        rw [gtr_some hg]
        simp only [tsz, ofL_sz, List.map_map]
        exact Nat.le_refl _
    simp only [List.map_cons, sumN, List.foldr_cons] at *
    omega
theorem kidsOf_lt {G : List GN} {par : Nat → Nat} (h : GsOk G par) {j x : Nat} (hx : x ∈ kidsOf G j) : x < G.length ∧ par x = j := by
  unfold kidsOf at hx
  cases hg : G[j]? with
  | none => rw [hg] at hx; simp at hx
  | some g =>
    rw [hg] at hx
    obtain ⟨y, hy, rfl⟩ := List.mem_map.1 hx
    exact ⟨((h.ok j g hg).low y hy).2.2, h.par j g hg y hy⟩
theorem kids_nodup {G : List GN} {par : Nat → Nat} (h : GsOk G par) : ∀ {J : List Nat}, J.Nodup → (J.flatMap (kidsOf G)).Nodup
  | [], _ => List.nodup_nil
  | j :: J, hJ => by
    obtain ⟨h1, h2⟩ := List.nodup_cons.1 hJ
    rw [List.flatMap_cons, List.nodup_append]
    refine ⟨?_, kids_nodup h h2, fun x hx y hy e => ?_⟩
    · unfold kidsOf
      cases hg : G[j]? with
      | none => exact List.nodup_nil
      | some g => exact h.uniq j g hg
    · subst e
      obtain ⟨i, hi, hy⟩ := List.mem_flatMap.1 hy
      have e1 := (kidsOf_lt h hx).2
      have e2 := (kidsOf_lt h hy).2
      exact h1 (by rw [← e1, e2]; exact hi)
theorem nodup_len : ∀ {n : Nat} {J : List Nat}, J.Nodup → (∀ x ∈ J, x < n) → J.length ≤ n
  | 0, [], _, _ => Nat.le_refl _
  | 0, x :: J, _, hl => by have := hl x (by simp); omega
  | n + 1, J, h, hl => by
    by_cases hn : n ∈ J
    · have h1 := nodup_len (n := n) (h.erase n) (fun x hx => by
        have := (h.mem_erase_iff).1 hx
        have := hl x this.2
        omega)
      rw [List.length_erase_of_mem hn] at h1
      omega
    · have := nodup_len (n := n) h (fun x hx => by
        have := hl x hx
        have : x ≠ n := fun e => hn (e ▸ hx)
        omega)
      omega
theorem gtr_sz {G : List GN} {par : Nat → Nat} (h : GsOk G par) : ∀ f (J : List Nat), J.Nodup → (∀ x ∈ J, x < G.length) → sumN (J.map fun j => tsz (gtr G f j)) ≤ f * G.length
  | 0, J, _, _ => by
    have : ∀ J : List Nat, sumN (J.map fun j => tsz (gtr G 0 j)) = 0 := fun J => by
      induction J with
      | nil => rfl
      | cons j J ih => simp only [List.map_cons, sumN, List.foldr_cons] at *; rw [ih]; rfl
    rw [this]; exact Nat.zero_le _
  | f + 1, J, hJ, hl => by
    have h1 := gtr_szs (G := G) f J
    have h2 := gtr_sz h f (J.flatMap (kidsOf G)) (kids_nodup h hJ) (fun x hx => by obtain ⟨i, _, hx⟩ := List.mem_flatMap.1 hx; exact (kidsOf_lt h hx).1)
    have h3 := nodup_len hJ hl
    rw [Nat.succ_mul]
    omega
end Go.Proofs.YtfhdiimcimafkaaGreatDoor
/- A tree's shape tells the tree; so a tree is fine just if its shape is that of the canonical tree of its pairs. No program. -/
namespace Go.Proofs.YtfhdiimcimafkaaGreatDoor
/-- rows of letters of one kind, each up to a letter of another kind -/
theorem cut_eq {p : UInt8 → Prop} : ∀ {l1 l2 r1 r2 : List UInt8}, (∀ x ∈ l1, p x) → (∀ x ∈ l2, p x) → (∀ x, r1.head? = some x → ¬ p x) → (∀ x, r2.head? = some x → ¬ p x) → l1 ++ r1 = l2 ++ r2 → l1 = l2 ∧ r1 = r2
  | [], [], r1, r2, _, _, _, _, h => ⟨rfl, h⟩
  | [], y :: l2, r1, r2, _, h2, h3, _, h => (h3 y (by have : r1 = y :: (l2 ++ r2) := h; rw [this]; rfl) (h2 y (by simp))).elim
  | x :: l1, [], r1, r2, h1, _, _, h4, h => (h4 x (by have : x :: (l1 ++ r1) = r2 := h; rw [← this]; rfl) (h1 x (by simp))).elim
  | x :: l1, y :: l2, r1, r2, h1, h2, h3, h4, h => by
    have h' : x :: (l1 ++ r1) = y :: (l2 ++ r2) := h
    injection h' with e1 e2
    obtain ⟨q1, q2⟩ := cut_eq (fun z hz => h1 z (by simp [hz])) (fun z hz => h2 z (by simp [hz])) h3 h4 e2
    exact ⟨by rw [e1, q1], q2⟩
def HxD (x : UInt8) : Prop := (48 ≤ x.toNat ∧ x.toNat ≤ 57) ∨ (97 ≤ x.toNat ∧ x.toNat ≤ 102)
def DcD (x : UInt8) : Prop := 48 ≤ x.toNat ∧ x.toNat ≤ 57
/-- letters that stop a row of digits -/
def Stp (r : List UInt8) : Prop := ∀ x, r.head? = some x → x = 58 ∨ x = 62
theorem Stp.hx {r : List UInt8} (h : Stp r) : ∀ x, r.head? = some x → ¬ HxD x := fun x hx e => by
  rcases h x hx with rfl | rfl <;> simp [HxD] at e
theorem Stp.dc {r : List UInt8} (h : Stp r) : ∀ x, r.head? = some x → ¬ DcD x := fun x hx e => by
  rcases h x hx with rfl | rfl <;> simp [DcD] at e
theorem hexN_toNat {d : Nat} (h : d < 16) : (UInt8.ofNat (hexN d)).toNat = hexN d := by
  have := hexN_lt h
  simp only [UInt8.toNat_ofNat']
  omega
theorem hexN_hx {d : Nat} (h : d < 16) : HxD (UInt8.ofNat (hexN d)) := by
  unfold HxD
  rw [hexN_toNat h]
  unfold hexN
  split <;> omega
theorem hexN_inj {d e : Nat} (h : d < 16) (h' : e < 16) (q : UInt8.ofNat (hexN d) = UInt8.ofNat (hexN e)) : d = e := by
  have := congrArg UInt8.toNat q
  rw [hexN_toNat h, hexN_toNat h'] at this
  unfold hexN at this
  split at this <;> split at this <;> omega
theorem hex_hx {bs : List Nat} (h : ∀ b ∈ bs, b < 256) : ∀ x ∈ u8s (hexL bs), HxD x := fun x hx => by
  unfold u8s hexL hexB at hx
  simp only [List.mem_map, List.mem_flatMap, List.mem_cons, List.not_mem_nil, or_false] at hx
  obtain ⟨a, ⟨b, hb, rfl | rfl⟩, rfl⟩ := hx
  · exact hexN_hx (by have := h b hb; omega)
  · exact hexN_hx (by omega)
theorem hex_inj : ∀ {a b : List Nat}, (∀ x ∈ a, x < 256) → (∀ x ∈ b, x < 256) → u8s (hexL a) = u8s (hexL b) → a = b
  | [], [], _, _, _ => rfl
  | [], y :: b, _, _, h => by simp [u8s, hexL, hexB] at h
  | x :: a, [], _, _, h => by simp [u8s, hexL, hexB] at h
  | x :: a, y :: b, ha, hb, h => by
    have h' : UInt8.ofNat (hexN (x / 16)) :: UInt8.ofNat (hexN (x % 16)) :: u8s (hexL a) = UInt8.ofNat (hexN (y / 16)) :: UInt8.ofNat (hexN (y % 16)) :: u8s (hexL b) := h
    injection h' with e1 e2
    injection e2 with e2 e3
    have hx := ha x (by simp)
    have hy := hb y (by simp)
    have q1 := hexN_inj (by omega) (by omega) e1
    have q2 := hexN_inj (by omega) (by omega) e2
    have q3 := hex_inj (fun z hz => ha z (by simp [hz])) (fun z hz => hb z (by simp [hz])) e3
    rw [q3, show x = y from by omega]
/-- digits, read again -/
def valD (l : List UInt8) : Nat := l.foldl (fun a x => a * 10 + (x.toNat - 48)) 0
theorem valD_snoc (l : List UInt8) (x : UInt8) : valD (l ++ [x]) = valD l * 10 + (x.toNat - 48) := by simp [valD]
theorem dig_toNat {d : Nat} (h : d < 10) : (UInt8.ofNat (48 + d)).toNat = 48 + d := by
  simp only [UInt8.toNat_ofNat']
  omega
theorem decU_step (u : Nat) : decU u = if u < 10 then [UInt8.ofNat (48 + u)] else decU (u / 10) ++ [UInt8.ofNat (48 + u % 10)] := by
  unfold decU
  conv => lhs; unfold Lib.decDigits
  split <;> rfl
theorem valD_dec (u : Nat) : valD (decU u) = u := by
  induction u using Nat.strongRecOn with
  | ind u ih =>
    rw [decU_step]
    split
    · rename_i h
      show 0 * 10 + _ = _
      rw [dig_toNat h]; omega
    · rename_i h
      rw [valD_snoc, ih (u / 10) (by omega), dig_toNat (by omega)]
      omega
theorem decU_dc (u : Nat) : ∀ x ∈ decU u, DcD x := by
  induction u using Nat.strongRecOn with
  | ind u ih =>
    rw [decU_step]
    split
    · rename_i h
      intro x hx
      simp only [List.mem_cons, List.not_mem_nil, or_false] at hx
      subst hx
      unfold DcD
      rw [dig_toNat h]; omega
    · rename_i h
      intro x hx
      rcases List.mem_append.1 hx with hx | hx
      · exact ih (u / 10) (by omega) x hx
      · simp only [List.mem_cons, List.not_mem_nil, or_false] at hx
        subst hx
        unfold DcD
        rw [dig_toNat (by omega)]; omega
theorem decU_inj {a b : Nat} (h : decU a = decU b) : a = b := by rw [← valD_dec a, ← valD_dec b, h]
theorem decU_head (u : Nat) : ∃ x r, decU u = x :: r ∧ DcD x := by
  cases h : decU u with
  | nil =>
    rw [decU_step] at h
    split at h <;> simp at h
  | cons x r => exact ⟨x, r, rfl, decU_dc u x (by rw [h]; simp)⟩
theorem shpK_stp : ∀ {t : Tr}, IsK t → ∀ r, Stp (shp t ++ 62 :: r)
  | .nil, _, r => fun x hx => by simp [shp] at hx; exact Or.inr hx.symm
  | .kid b t rr, _, r => fun x hx => by simp [shp] at hx; exact Or.inl hx.symm
  | .node .., h, r => h.elim
def ShN (t : Tr) : Prop := ∀ (t' : Tr) (r r' : List UInt8), IsN t → IsN t' → TOk t → TOk t' → Stp r → Stp r' → shp t ++ r = shp t' ++ r' → t = t' ∧ r = r'
def ShK (t : Tr) : Prop := ∀ (t' : Tr) (r r' : List UInt8), IsK t → IsK t' → TOk t → TOk t' → shp t ++ 62 :: r = shp t' ++ 62 :: r' → t = t' ∧ r = r'
theorem shp_nd (bs : List Nat) (v : Int) (has : Bool) (ks : Tr) (r : List UInt8) : shp (.node bs v has false ks) ++ r = decU (kindOf (krowC ks)) ++ (60 :: (u8s (hexL bs) ++ ((if has then 61 :: decU v.toNat else []) ++ (shp ks ++ 62 :: r)))) := by
  simp only [shp, Bool.false_eq_true, if_false, List.append_assoc, List.cons_append, List.nil_append]
theorem shp_lf (bs : List Nat) (v : Int) (r : List UInt8) : shp (.node bs v true true .nil) ++ r = 76 :: (u8s (hexL bs) ++ (61 :: (decU v.toNat ++ r))) := by
  simp [shp]
theorem shp_kd (b : Nat) (t rr : Tr) (r : List UInt8) : shp (.kid b t rr) ++ r = 58 :: (u8s (hexL [b]) ++ (shp t ++ (shp rr ++ r))) := by
  simp [shp]
theorem no61 {l : List UInt8} : ∀ x, (61 :: l).head? = some x → ¬ HxD x := fun x hx => by simp at hx; subst hx; simp [HxD]
theorem no60 {l : List UInt8} : ∀ x, (60 :: l).head? = some x → ¬ DcD x := fun x hx => by simp at hx; subst hx; simp [DcD]
theorem toNat_eq {v v' : Int} (h0 : 0 ≤ v) (h1 : 0 ≤ v') (h : v.toNat = v'.toNat) : v = v' := by omega
theorem shp_inj : ∀ t : Tr, ShN t ∧ ShK t := by
  intro t
  induction t with
  | nil =>
    refine ⟨fun t' r r' h => h.elim, fun t' r r' _ hk _ _ h => ?_⟩
    cases t' with
    | nil => exact ⟨rfl, by simpa [shp] using h⟩
    | kid b t rr => simp [shp] at h
    | node => exact hk.elim
  | kid b t rr ih1 ih2 =>
    refine ⟨fun t' r r' h => h.elim, fun t' r r' _ hk o p h => ?_⟩
    cases t' with
    | nil => simp [shp] at h
    | node => exact hk.elim
    | kid b' t' rr' =>
      obtain ⟨o1, o2, o3, o4, o5, o6⟩ := o
      obtain ⟨p1, p2, p3, p4, p5, p6⟩ := p
      rw [shp_kd, shp_kd] at h
      injection h with _ h
      obtain ⟨e1, e2⟩ := List.append_inj h (by simp [u8s, hexL_len])
      have e3 := hex_inj (by simpa using o1) (by simpa using p1) e1
      obtain ⟨e4, e5⟩ := ih1.1 t' _ _ o2 p2 o3 p3 (shpK_stp o4 r) (shpK_stp p4 r') e2
      obtain ⟨e6, e7⟩ := ih2.2 rr' r r' o4 p4 o5 p5 e5
      exact ⟨by rw [show b = b' from by simpa using e3, e4, e6], e7⟩
  | node bs v has leaf ks ih =>
    refine ⟨fun t' r r' _ hn o p hr hr' h => ?_, fun t' r r' h => h.elim⟩
    cases t' with
    | nil => exact hn.elim
    | kid => exact hn.elim
    | node bs' v' has' leaf' ks' =>
      obtain ⟨o1, o2, o3, o4, o5, o6, o7⟩ := o
      obtain ⟨p1, p2, p3, p4, p5, p6, p7⟩ := p
      cases leaf with
      | true =>
        obtain ⟨rfl, rfl⟩ := o5 rfl
        cases leaf' with
        | true =>
          obtain ⟨rfl, rfl⟩ := p5 rfl
          rw [shp_lf, shp_lf] at h
          injection h with _ h
          obtain ⟨e1, e2⟩ := cut_eq (hex_hx o1) (hex_hx p1) no61 no61 h
          injection e2 with _ e2
          obtain ⟨e3, e4⟩ := cut_eq (decU_dc _) (decU_dc _) hr.dc hr'.dc e2
          exact ⟨by rw [hex_inj o1 p1 e1, toNat_eq o2 p2 (decU_inj e3)], e4⟩
        | false =>
          rw [shp_lf, shp_nd] at h
          obtain ⟨x, l, e1, e2⟩ := decU_head (kindOf (krowC ks'))
          rw [e1] at h
          injection h with e3 _
          subst e3
          simp [DcD] at e2
      | false =>
        cases leaf' with
        | true =>
          obtain ⟨rfl, rfl⟩ := p5 rfl
          rw [shp_lf, shp_nd] at h
          obtain ⟨x, l, e1, e2⟩ := decU_head (kindOf (krowC ks))
          rw [e1] at h
          injection h with e3 _
          subst e3
          simp [DcD] at e2
        | false =>
          rw [shp_nd, shp_nd] at h
          obtain ⟨_, h⟩ := cut_eq (decU_dc _) (decU_dc _) no60 no60 h
          injection h with _ h
          have s1 := shpK_stp o6 r
          have s2 := shpK_stp p6 r'
          cases has with
          | true =>
            cases has' with
            | true =>
              simp only [if_true, List.cons_append] at h
              obtain ⟨e1, e2⟩ := cut_eq (hex_hx o1) (hex_hx p1) no61 no61 h
              injection e2 with _ e2
              obtain ⟨e3, e4⟩ := cut_eq (decU_dc _) (decU_dc _) s1.dc s2.dc e2
              obtain ⟨e5, e6⟩ := ih.2 ks' r r' o6 p6 o7 p7 e4
              exact ⟨by rw [hex_inj o1 p1 e1, toNat_eq o2 p2 (decU_inj e3), e5], e6⟩
            | false =>
              simp only [if_true, Bool.false_eq_true, if_false, List.cons_append, List.nil_append] at h
              obtain ⟨e1, e2⟩ := cut_eq (hex_hx o1) (hex_hx p1) no61 s2.hx h
              rcases s2 61 (by rw [← e2]; rfl) with q | q <;> cases q
          | false =>
            cases has' with
            | true =>
              simp only [if_true, Bool.false_eq_true, if_false, List.cons_append, List.nil_append] at h
              obtain ⟨e1, e2⟩ := cut_eq (hex_hx o1) (hex_hx p1) s1.hx no61 h
              rcases s1 61 (by rw [e2]; rfl) with q | q <;> cases q
            | false =>
              simp only [Bool.false_eq_true, if_false, List.nil_append] at h
              obtain ⟨e1, e2⟩ := cut_eq (hex_hx o1) (hex_hx p1) s1.hx s2.hx h
              obtain ⟨e5, e6⟩ := ih.2 ks' r r' o6 p6 o7 p7 e2
              exact ⟨by rw [hex_inj o1 p1 e1, o4 rfl, p4 rfl, e5], e6⟩
/-- the shape of a node tells the tree -/
theorem shpT_inj {t t' : Tr} (h : IsN t) (h' : t' = .nil ∨ IsN t') (o : TOk t) (o' : TOk t') (e : shpT t = shpT t') : t = t' := by
  have hT : shpT t = shp t := by cases t <;> first | rfl | exact h.elim
  have hd : ∀ x, (shp t).head? = some x → x ≠ 46 := fun x hx q => by
    subst q
    cases t with
    | nil => exact h.elim
    | kid => exact h.elim
    | node bs v has leaf ks =>
      cases leaf with
      | true => simp [shp] at hx
      | false =>
        obtain ⟨x, l, e1, e2⟩ := decU_head (kindOf (krowC ks))
        simp only [shp, Bool.false_eq_true, if_false] at hx
        rw [e1] at hx
        simp at hx
        subst hx
        simp [DcD] at e2
  rcases h' with rfl | h'
  · rw [hT] at e
    exact (hd 46 (by rw [e]; rfl) rfl).elim
  · have hT' : shpT t' = shp t' := by cases t' <;> first | rfl | exact h'.elim
    rw [hT, hT'] at e
    exact ((shp_inj t).1 t' [] [] h h' o o' (fun x hx => by simp at hx) (fun x hx => by simp at hx) (by rw [e])).1
/-- fine trees are the canonical ones, if no key is too long -/
theorem fine_can : ∀ (t : Tr) (k : List Nat), TOk t → k.length + tway t ≤ 65535 → ((tv fnT t k).all id = true ↔ Can t)
  | .nil, k, _, _ => by simp [tv, Can]
  | .kid b t r, k, ⟨h1, h2, h3, h4, h5, h6⟩, hl => by
    simp only [tway] at hl
    simp only [tv, List.all_append, Bool.and_eq_true, Can]
    rw [fine_can t (k ++ [b]) h3 (by simp; omega), fine_can r k h5 (by omega)]
  | .node bs v has leaf ks, k, ⟨h1, h2, h3, h4, h5, h6, h7⟩, hl => by
    simp only [tway] at hl
    simp only [tv, List.all_append, Bool.and_eq_true, Can]
    rw [fine_can ks (k ++ bs) h7 (by simp; omega)]
    have hn : ¬ 65535 < (k ++ bs).length := by simp; omega
    rw [and_comm]
    refine and_congr_right fun _ => ?_
    unfold fnT
    simp only [hn, decide_false, Bool.and_false, Bool.or_false, List.all_cons, List.all_nil, Bool.and_true, id]
    cases leaf <;> cases has <;> simp <;> omega
/-- a tree is fine just if its shape is that of the canonical tree of its pairs -/
theorem fine_shape {t c : Tr} (h : IsN t) (hc : c = .nil ∨ IsN c) (o : TOk t) (o' : TOk c) (hC : Can c) (e : tl c = tl t) (hl : tway t ≤ 65535) : fineB t = decide (shpT t = shpT c) := by
  have hf : fineB t = true ↔ Can t := fine_can t [] o (by simpa using hl)
  by_cases hs : shpT t = shpT c
  · rw [decide_eq_true hs]
    have := shpT_inj h hc o o' hs
    rw [hf, this]; exact hC
  · rw [decide_eq_false hs]
    rw [Bool.eq_false_iff]
    intro hb
    have hCt := hf.1 hb
    refine hs ?_
    rcases hc with rfl | hc
    · exact (tl_ne t h o hCt (by rw [← e]; rfl)).elim
    · rw [can_eq hc h o' o hC hCt e]
end Go.Proofs.YtfhdiimcimafkaaGreatDoor
/- How many nodes, how long a shape, how long a way. No program. -/
namespace Go.Proofs.YtfhdiimcimafkaaGreatDoor
open Go.RowKit
theorem can_sz : ∀ (t : Tr), TOk t → Can t → (IsN t → tsz t + 1 ≤ 2 * (tl t).length) ∧ (IsK t → tsz t + (chain t).length ≤ 2 * (tl t).length)
  | .nil, _, _ => ⟨fun h => h.elim, fun _ => by simp [tsz, chain]⟩
  | .kid b t r, ⟨o1, o2, o3, o4, o5, o6⟩, ⟨c1, c2⟩ => by
    refine ⟨fun h => h.elim, fun _ => ?_⟩
    have h1 := (can_sz t o3 c1).1 o2
    have h2 := (can_sz r o5 c2).2 o4
    simp only [tsz, chain, tl, List.length_append, List.length_cons, pre, List.length_map]
    omega
  | .node bs v has leaf ks, ⟨o1, o2, o3, o4, o5, o6, o7⟩, ⟨c1, c2⟩ => by
    refine ⟨fun _ => ?_, fun h => h.elim⟩
    have h2 := (can_sz ks o7 c1).2 o6
    simp only [tsz, tl, List.length_append, pre, List.length_map]
    cases leaf with
    | true =>
      obtain ⟨e1, e2⟩ := o5 rfl
      subst e1; subst e2
      simp [tsz, tl]
    | false =>
      have h3 := c2 rfl
      cases has with
      | true => simp at h3 ⊢; omega
      | false => simp at h3 ⊢; omega
theorem tl_sz : ∀ (t : Tr), (tl t).length ≤ tsz t
  | .nil => Nat.le_refl _
  | .kid b t r => by
    have h1 := tl_sz t
    have h2 := tl_sz r
    simp only [tl, tsz, List.length_append, pre, List.length_map]
    omega
  | .node bs v has leaf ks => by
    have h2 := tl_sz ks
    simp only [tl, tsz, List.length_append, pre, List.length_map]
    cases has <;> simp <;> omega
theorem tv_sz : ∀ (t : Tr) (k : List Nat), (tv fnT t k).length = tsz t
  | .nil, k => rfl
  | .kid b t r, k => by simp only [tv, tsz, List.length_append, tv_sz t, tv_sz r]
  | .node bs v has leaf ks, k => by simp only [tv, tsz, List.length_append, tv_sz ks, fnT, List.length_singleton]
theorem dec3 (m : Nat) : (decU (kindOf m)).length ≤ 20 := decU_len (by unfold kindOf; split <;> (try split) <;> (try split) <;> omega)
/-- a shape is no longer than its nodes, each with no more than W bytes on its way -/
theorem shp_len (W : Nat) : ∀ (t : Tr), TOk t → tway t ≤ W → (shp t).length ≤ tsz t * (2 * W + 900) + (chain t).length * 3
  | .nil, _, _ => Nat.zero_le _
  | .kid b t r, ⟨o1, o2, o3, o4, o5, o6⟩, hw => by
    simp only [tway] at hw
    have h1 := shp_len W t o3 (by omega)
    have h2 := shp_len W r o5 (by omega)
    have hc : (chain t).length = 0 := by cases t <;> first | rfl | exact o2.elim
    simp only [shp, tsz, chain, List.length_append, List.length_cons, u8s, List.length_map, hexL_len, Nat.add_mul]
    simp only [List.length_nil]
    omega
  | .node bs v has leaf ks, ⟨o1, o2, o3, o4, o5, o6, o7⟩, hw => by
    simp only [tway] at hw
    have h2 := shp_len W ks o7 (by omega)
    have hd := dec3 (krowC ks)
    have hv : (decU v.toNat).length ≤ 20 := decU_len (by omega)
    have hk : (chain ks).length ≤ 256 := chain256 o6 o7
    have hx : (if has then 61 :: decU v.toNat else []).length ≤ 21 := by cases has <;> simp <;> omega
    have hs : (shp (.node bs v has leaf ks)).length ≤ 21 + (2 * bs.length + (21 + ((shp ks).length + 1))) := by
      simp only [shp, List.length_append, u8s, List.length_map, hexL_len]
      cases leaf <;> simp <;> omega
    have e : tsz (.node bs v has leaf ks) * (2 * W + 900) = (2 * W + 900) + tsz ks * (2 * W + 900) := by
      show (1 + tsz ks) * _ = _
      rw [Nat.add_mul, Nat.one_mul]
    rw [e]
    omega
theorem way_key : ∀ (t : Tr) (K : Nat), TOk t → Can t → (∀ p ∈ tl t, p.1.length ≤ K) → tway t ≤ K
  | .nil, K, _, _, _ => Nat.zero_le _
  | .kid b t r, K, ⟨o1, o2, o3, o4, o5, o6⟩, ⟨c1, c2⟩, h => by
    have h2 := way_key r K o5 c2 (fun p hp => h p (by simp only [tl]; exact List.mem_append_right _ hp))
    have hp : ∀ p ∈ tl t, p.1.length + 1 ≤ K := fun p hp => by
      have := h ([b] ++ p.1, p.2) (by simp only [tl]; exact List.mem_append_left _ (List.mem_map.2 ⟨p, hp, rfl⟩))
      simpa using this
    obtain ⟨x, hx⟩ := List.exists_mem_of_ne_nil _ (tl_ne t o2 o3 c1)
    have h1 := way_key t (K - 1) o3 c1 (fun p hq => by have := hp p hq; omega)
    have := hp x hx
    simp only [tway]
    omega
  | .node bs v has leaf ks, K, ⟨o1, o2, o3, o4, o5, o6, o7⟩, ⟨c1, c2⟩, h => by
    have hp : ∀ p ∈ tl ks, p.1.length + bs.length ≤ K := fun p hp => by
      have := h (bs ++ p.1, p.2) (by simp only [tl]; exact List.mem_append_right _ (List.mem_map.2 ⟨p, hp, rfl⟩))
      simp at this; omega
    have hb : bs.length ≤ K := by
      cases has with
      | true => have := h (bs, v) (by simp [tl]); simpa using this
      | false =>
        have h3 : 2 ≤ (if false = true then 1 else 0) + (chain ks).length := c2 (by cases leaf with
          | true => exact absurd (o5 rfl).1 (by simp)
          | false => rfl)
        cases ks with
        | nil => simp [chain] at h3
        | node => exact o6.elim
        | kid b t r =>
          obtain ⟨x, hx⟩ := List.exists_mem_of_ne_nil _ (tl_ne t o7.2.1 o7.2.2.1 c1.1)
          have := hp ([b] ++ x.1, x.2) (by simp only [tl]; exact List.mem_append_left _ (List.mem_map.2 ⟨x, hx, rfl⟩))
          omega
    have h1 := way_key ks (K - bs.length) o7 c1 (fun p hq => by have := hp p hq; omega)
    simp only [tway]
    omega
theorem key_way' : ∀ (t : Tr), ∀ p ∈ tl t, p.1.length ≤ tway t
  | .nil, p, h => by simp [tl] at h
  | .kid b t r, p, h => by
    simp only [tl] at h
    simp only [tway]
    rcases List.mem_append.1 h with h | h
    · obtain ⟨q, hq, rfl⟩ := List.mem_map.1 h
      have := key_way' t q hq
      simp only [List.singleton_append, List.length_cons]
      omega
    · have := key_way' r p h
      omega
  | .node bs v has leaf ks, p, h => by
    simp only [tl] at h
    simp only [tway]
    rcases List.mem_append.1 h with h | h
    · cases has
      · simp at h
      · simp at h; subst h; simp
    · obtain ⟨q, hq, rfl⟩ := List.mem_map.1 h
      have := key_way' ks q hq
      simp only [List.length_append]
      omega
end Go.Proofs.YtfhdiimcimafkaaGreatDoor
/- Slices that lie apart from a meter; nodes that a meter counts, joined. -/
namespace Go.Proofs.YtfhdiimcimafkaaGreatDoor
open Go.RowKit
/-- all but the meter is as it was -/
abbrev MM (mb : Nat) (w w' : World) : Prop := Mod (fun j => j = mb) w w'
section
variable {mb : Nat} {w w' w0 w1 : World} {a : Option Addr} {n c i : Nat} {bs : List Nat} {l : PL} {p : Addr} {v : Value}
theorem MM.of {m : Nat} (h : Below w.heap.size w w') : MM m w w' := Mod.of_below h
theorem MM.cell (h : MM mb w w') {p : Addr} (hb : p.block ≠ mb) {v : Value} (hc : w.cell? p = some v) : w'.cell? p = some v := by
  have hl := cell_lt hc
  have := h.same p.block hl hb
  rw [← hc]
  unfold World.cell?
  rw [this]
/-- bytes apart from the meter -/
def SlM (mb : Nat) (w : World) (a : Option Addr) (n c : Nat) (bs : List Nat) : Prop := Sl w a n c bs ∧ (bs ≠ [] → ∀ q, a = some q → q.block ≠ mb)
theorem SlM.mod (h : SlM mb w a n c bs) (hm : MM mb w w') : SlM mb w' a n c bs := by
  obtain ⟨h1, h2⟩ := h
  refine ⟨⟨h1.len, ?_, h1.cap, h1.capm, h1.nil⟩, h2⟩
  by_cases e : bs = []
  · subst e; exact ⟨by simp, fun i hi => by simp at hi⟩
  · exact bytes_keep h1.at_ hm (fun p hp => h2 e p hp)
theorem SlM.sl (h : SlM mb w a n c bs) : Sl w a n c bs := h.1
theorem cutA_block {a : Option Addr} {c lo s : Nat} {q : Addr} (h : cutA a c lo s = some q) : ∃ p, a = some p ∧ q.block = p.block := by
  unfold cutA at h
  split at h
  · exact ⟨q, h, rfl⟩
  · cases a with
    | none => cases h
    | some p => cases h; exact ⟨p, rfl, add_block _ _⟩
theorem SlM.cut {lo hi : Nat} (h : SlM mb w a n c bs) (h1 : lo ≤ hi) (h2 : hi ≤ n) : SlM mb w (cutA a c lo 1) (hi - lo) (c - lo) ((bs.take hi).drop lo) := by
  refine ⟨h.1.cut h1 h2, fun hne q hq => ?_⟩
  obtain ⟨p, e1, e2⟩ := cutA_block hq
  rw [e2]
  refine h.2 (fun e => hne ?_) p e1
  subst e; simp
theorem SlM.from_ {lo : Nat} (h : SlM mb w a n c bs) (h1 : lo ≤ n) : SlM mb w (cutA a c lo 1) (n - lo) (c - lo) (bs.drop lo) := by
  have := h.cut h1 (Nat.le_refl n)
  rwa [List.take_of_length_le (Nat.le_of_eq h.1.len)] at this
/-- a pair at a place, apart from the meter -/
def PrCM (mb : Nat) (w : World) (p : Addr) (i : Nat) (x : List Nat × Int) : Prop :=
  p.block ≠ mb ∧ (p.add (i * 2)).block < w.heap.size ∧ ∃ a n c, w.cell? (p.add (i * 2)) = some (.slice a n c) ∧ w.cell? ⟨(p.add (i * 2)).block, (p.add (i * 2)).off + 1, none⟩ = some (.int .u64 x.2) ∧ SlM mb w a n c x.1
/-- pairs apart from the meter -/
structure PrsM (mb : Nat) (w : World) (a : Option Addr) (n c : Nat) (l : PL) : Prop where
  prs : Prs w a n c l
  atm : ∀ i, i < l.length → ∃ p, a = some p ∧ PrCM mb w p i (l.getD i ([], 0))
theorem PrCM.mod {x : List Nat × Int} (h : PrCM mb w p i x) (hm : MM mb w w') : PrCM mb w' p i x := by
  obtain ⟨h0, h1, a, n, c, h2, h3, h4⟩ := h
  exact ⟨h0, Nat.lt_of_lt_of_le h1 hm.size, a, n, c, hm.cell (by rw [add_block]; exact h0) h2, hm.cell (p := ⟨(p.add (i * 2)).block, _, none⟩) (by show (p.add _).block ≠ _; rw [add_block]; exact h0) h3, h4.mod hm⟩
theorem PrCM.prc {x : List Nat × Int} (h : PrCM mb w p i x) : PrC w p i x := by
  obtain ⟨h0, h1, a, n, c, h2, h3, h4⟩ := h
  exact ⟨h1, a, n, c, h2, h3, h4.1⟩
theorem PrsM.mod (h : PrsM mb w a n c l) (hm : MM mb w w') : PrsM mb w' a n c l :=
  ⟨⟨h.prs.len, h.prs.cap, h.prs.capm, h.prs.nil, h.prs.val, fun i hi => by obtain ⟨p, e, q⟩ := h.atm i hi; exact ⟨p, e, (q.mod hm).prc⟩⟩, fun i hi => by obtain ⟨p, e, q⟩ := h.atm i hi; exact ⟨p, e, q.mod hm⟩⟩
theorem PrsM.below (h : PrsM mb w a n c l) (hm : Below w.heap.size w w') : PrsM mb w' a n c l := h.mod (Mod.of_below hm)
theorem PrsM.len (h : PrsM mb w a n c l) : l.length = n := h.prs.len
theorem PrsM.cap (h : PrsM mb w a n c l) : n ≤ c := h.prs.cap
theorem PrsM.val (h : PrsM mb w a n c l) : ∀ x ∈ l, 0 ≤ x.2 ∧ x.2 < 18446744073709551616 := h.prs.val
theorem PrsM.cut {lo hi : Nat} (h : PrsM mb w a n c l) (h1 : lo ≤ hi) (h2 : hi ≤ n) : PrsM mb w (cutA a c lo 2) (hi - lo) (c - lo) ((l.take hi).drop lo) := by
  have hc := h.cap
  refine ⟨h.prs.cut h1 h2, fun i hi' => ?_⟩
  rw [List.length_drop, List.length_take, h.len] at hi'
  obtain ⟨p, rfl, q⟩ := h.atm (lo + i) (by rw [h.len]; omega)
  refine ⟨p.add (lo * 2), ?_, ?_⟩
  · unfold cutA
    rw [if_neg (by omega)]
    rfl
  · have e1 : (p.add (lo * 2)).add (i * 2) = p.add ((lo + i) * 2) := by rw [add_of_add]; congr 1; omega
    have e2 : ((l.take hi).drop lo).getD i ([], 0) = l.getD (lo + i) ([], 0) := by
      rw [List.getD, List.getD, List.getElem?_drop, List.getElem?_take, if_pos (by omega)]
    unfold PrCM
    rw [e1, e2, add_block]
    exact q
theorem PrsM.from_ {lo : Nat} (h : PrsM mb w a n c l) (h1 : lo ≤ n) : PrsM mb w (cutA a c lo 2) (n - lo) (c - lo) (l.drop lo) := by
  have := h.cut h1 (Nat.le_refl n)
  rwa [List.take_of_length_le (Nat.le_of_eq h.len)] at this
theorem PrsM.to_ {hi : Nat} (h : PrsM mb w a n c l) (h1 : hi ≤ n) : PrsM mb w (cutA a c 0 2) hi c (l.take hi) := by
  have := h.cut (lo := 0) (Nat.zero_le _) h1
  simpa using this
theorem prsM_row (h : PrsM mb w a n c l) {i : Nat} (hi : i < n) : ∃ p a3 n3 c3, a = some p ∧ p.block ≠ mb ∧ w.cell? (p.add (i * 2)) = some (.slice a3 n3 c3) ∧ w.cell? ⟨(p.add (i * 2)).block, (p.add (i * 2)).off + 1, none⟩ = some (.int .u64 (l.getD i ([], 0)).2) ∧ SlM mb w a3 n3 c3 (l.getD i ([], 0)).1 := by
  obtain ⟨p, e, q0, _, a3, n3, c3, q1, q2, q3⟩ := h.atm i (by rw [h.len]; exact hi)
  exact ⟨p, a3, n3, c3, e, q0, q1, q2, q3⟩
theorem prsM_first (h : PrsM mb w a n c l) (hi : 0 < n) : ∃ p a3 n3 c3, a = some p ∧ p.block ≠ mb ∧ w.cell? p = some (.slice a3 n3 c3) ∧ w.cell? ⟨p.block, p.off + 1, none⟩ = some (.int .u64 (l.getD 0 ([], 0)).2) ∧ SlM mb w a3 n3 c3 (l.getD 0 ([], 0)).1 := by
  obtain ⟨p, a3, n3, c3, e, q0, q1, q2, q3⟩ := prsM_row h hi
  simp only [Nat.zero_mul, Addr.add_zero'] at q1 q2
  exact ⟨p, a3, n3, c3, e, q0, q1, q2, q3⟩
/-- pairs of a world ahead of the meter -/
theorem PrsM.old (h : Prs w0 a n c l) (hmb : w0.heap.size ≤ mb) (hm : MM mb w0 w) : PrsM mb w a n c l := by
  refine PrsM.mod (w := w0) ⟨h, fun i hi => ?_⟩ hm
  obtain ⟨p, e, q0, a3, n3, c3, q1, q2, q3⟩ := h.at_ i hi
  refine ⟨p, e, ?_, q0, a3, n3, c3, q1, q2, q3, fun hne q hq => ?_⟩
  · rw [add_block] at q0; omega
  · obtain ⟨r, e2, h3, _⟩ := q3.at_.2 0 (by cases hx : (l.getD i ([], 0)).1 with
      | nil => exact absurd hx hne
      | cons x y => simp)
    rw [hq] at e2
    cases e2
    rw [add_block] at h3
    omega
/-- nodes that were made behind others, a meter beside -/
theorem StoreP.joinM {P Q : List NP} (h : StoreP (· = mb) w0 w P) (k : StoreP (· = mb) w w' Q) (hmb : mb < w0.heap.size) : StoreP (· = mb) w0 w' (P ++ Q) := by
  have hm := k.mod
  have hsz := h.size
  obtain ⟨L, rfl, h0⟩ := h
  obtain ⟨M, rfl, k⟩ := k
  have h := h0.other hm (fun i d hd j t => ⟨fun e => by have := h0.new i d hd j e; omega, fun e => by have := h0.gen i d hd j e; omega⟩) (fun j _ t => t)
  have hlt : ∀ (i : Nat) (d : Nd), L[i]? = some d → (∀ j, d.W j → j < w.heap.size) ∧ ∀ g, d.bo = some g → g < w.heap.size := fun i d hd => ⟨fun j hj => (h0.here i d hd).Wlt j hj, fun g hg => NdIs.Rlt (h0.here i d hd) g hg⟩
  have key : ∀ (i : Nat) (d : Nd), (L ++ M)[i]? = some d → (L[i]? = some d) ∨ (L.length ≤ i ∧ M[i - L.length]? = some d) := fun i d hd => by
    by_cases hi : i < L.length
    · rw [List.getElem?_append_left hi] at hd; exact Or.inl hd
    · rw [List.getElem?_append_right (by omega)] at hd; exact Or.inr ⟨by omega, hd⟩
  refine ⟨L ++ M, by rw [List.map_append], fun i d hd => ?_, fun i d hd => ?_, fun i d hd => ?_, fun i d hd => ?_, fun i j a b ha hb' hij => ?_, fun i j a b ha hb' g hg => ?_, h.mod⟩
  · rcases key i d hd with q | ⟨_, q⟩
    · exact h.here i d q
    · exact k.here _ d q
  · rcases key i d hd with q | ⟨_, q⟩
    · exact h.fit i d q
    · exact k.fit _ d q
  · rcases key i d hd with q | ⟨_, q⟩
    · exact h.new i d q
    · exact fun j hj => Nat.le_trans hsz (k.new _ d q j hj)
  · rcases key i d hd with q | ⟨_, q⟩
    · exact h.gen i d q
    · exact fun j hj => Nat.le_trans hsz (k.gen _ d q j hj)
  · rcases key i a ha with q | ⟨e1, q⟩ <;> rcases key j b hb' with r | ⟨e2, r⟩
    · exact h.apart i j a b q r hij
    · exact fun x hx hy => by have := (hlt i a q).1 x hx; have := k.new _ b r x hy; omega
    · exact fun x hx hy => by have := (hlt j b r).1 x hy; have := k.new _ a q x hx; omega
    · exact k.apart _ _ a b q r (by omega)
  · rcases key i a ha with q | ⟨e1, q⟩ <;> rcases key j b hb' with r | ⟨e2, r⟩
    · exact h.read i j a b q r g hg
    · exact fun hy => by have := (hlt i a q).2 g hg; have := k.new _ b r g hy; omega
    · exact fun hy => by have := (hlt j b r).1 g hy; have := k.gen _ a q g hg; omega
    · exact k.read _ _ a b q r g hg
theorem StoreP.rebaseM {P : List NP} (h : StoreP (· = mb) w1 w' P) (hb : MM mb w w1) : StoreP (· = mb) w w' P := by
  have hs := hb.size
  obtain ⟨L, e, h⟩ := h
  exact ⟨L, e, h.here, h.fit, fun i d hd j hj => Nat.le_trans hs (h.new i d hd j hj), fun i d hd j hj => Nat.le_trans hs (h.gen i d hd j hj), h.apart, h.read, hb.trans h.mod⟩
theorem NM.join {P Q : List NP} {x y : Int} (h : NM mb w0 w P x) (k : NM mb w w' Q y) : NM mb w0 w' (P ++ Q) y := ⟨h.1, h.2.1.joinM k.2.1 h.1, k.2.2⟩
theorem NM.rebase {P : List NP} {x : Int} (h : NM mb w1 w' P x) (hb : MM mb w w1) (hm : mb < w.heap.size) : NM mb w w' P x := ⟨hm, h.2.1.rebaseM hb, h.2.2⟩
theorem NM.mm {P : List NP} {x : Int} (h : NM mb w0 w P x) : MM mb w0 w := h.2.1.mod
theorem Met.below {x : Int} (h : Met w mb x) (hb : Below w.heap.size w w') (hl : mb < w.heap.size) : Met w' mb x := (hb.block mb hl).trans h
end
end Go.Proofs.YtfhdiimcimafkaaGreatDoor
/- canon's maker.tree, where a meter counts. -/
namespace Go.Proofs.YtfhdiimcimafkaaGreatDoor
open Go.RowKit
def trePostM (l : PL) (mb : Nat) (x : Int) (w : World) (e : Ending) (w' : World) : Prop :=
  ∃ (t : Tr) (k : Nat) (Q : List NP), e = .returned (.pointer (some ⟨k, 0, none⟩)) ∧ NM mb w w' Q (x + (tsz t : Nat)) ∧ TreeIn Q 0 t (.pointer (some ⟨k, 0, none⟩)) [] ∧ IsN t ∧ TOk t ∧ Can t ∧ tl t = l
def TreeAskM (mb : Nat) (o : Int) (N : Nat) : Prop := ∀ (l : PL) (pfx : List Nat) (a : Option Addr) (n c : Nat) (w : World) (x0 : Int), l.length ≤ N → l ≠ [] → PrsM mb w a n c (pre pfx l) → PSrt l → (∀ x ∈ pre pfx l, x.1.length ≤ 65535) → mb < w.heap.size → Met w mb x0 → 0 ≤ x0 → x0 + 3 * (l.length : Nat) ≤ 4611686018427387904 →
  Calls Tryz.prog 33 #[.agg #[.pointer (some ⟨mb, 0, none⟩), .int .u64 o], .slice a n c, .int .i64 (pfx.length : Nat)] w (trePostM l mb x0 w)
theorem nm_innerM {mb : Nat} {w0 w : World} {P : List NP} {x : Int} {a : Option Addr} {n c : Nat} {bs : List Nat} (h : NM mb w0 w P x) (hx : IntKind.i64.wrap (x + 1) = x + 1) (o : Int) (hs : SlM mb w a n c bs) (hl : n ≤ 140737488355328) : Calls Tryz.prog 50 #[.pointer (some ⟨mb, 0, none⟩), .int .u64 o, .slice a n c] w fun e w' => ∃ k, e = .returned (.pointer (some ⟨k, 0, none⟩)) ∧ NM mb w0 w' (P ++ [⟨k, o, bs, 0, false, some []⟩]) (x + 1) := by
  have hq := h.count (x + 1)
  have hb' := (hs.mod ((Mod.refl (· = mb) w).setCell ⟨mb, 0, none⟩ (.int .i64 (x + 1)) (fun _ => rfl))).1
  refine (nd_inner_made w _ _ o a n c bs (made_one w mb 0 x h.2.2.cell h.2.2.fz hx) hb'.len hb'.at_ hl (fun e => (hb'.nil e).1)).mono ?_
  intro e w' q
  obtain ⟨k, rfl, h1, h2⟩ := hq.2.1.made ⟨hb'.at_.1, by rw [hb'.len]; exact hl⟩ q
  exact ⟨k, rfl, hq.turn h2⟩
theorem nm_leafM {mb : Nat} {w0 w : World} {P : List NP} {x : Int} {a : Option Addr} {n c : Nat} {bs : List Nat} (h : NM mb w0 w P x) (hx : IntKind.i64.wrap (x + 1) = x + 1) (o v : Int) (hs : SlM mb w a n c bs) (hl : n ≤ 140737488355328) : Calls Tryz.prog 51 #[.pointer (some ⟨mb, 0, none⟩), .int .u64 o, .slice a n c, .int .u64 v] w fun e w' => ∃ k, e = .returned (.pointer (some ⟨k, 0, none⟩)) ∧ NM mb w0 w' (P ++ [⟨k, o, bs, v, true, none⟩]) (x + 1) := by
  have hq := h.count (x + 1)
  have hb' := (hs.mod ((Mod.refl (· = mb) w).setCell ⟨mb, 0, none⟩ (.int .i64 (x + 1)) (fun _ => rfl))).1
  refine (nd_leaf_made w _ _ o v a n c bs (made_one w mb 0 x h.2.2.cell h.2.2.fz hx) hb'.len hb'.at_ hl (fun e => (hb'.nil e).1)).mono ?_
  intro e w' q
  obtain ⟨k, rfl, h1, h2⟩ := hq.2.1.made ⟨hb'.at_.1, by rw [hb'.len]; exact hl⟩ q
  exact ⟨k, rfl, hq.turn h2⟩
/-- the node under way -/
def BldM (mb : Nat) (x : Int) (w1 : World) (nn : Nat) (o : Int) (bs : List Nat) (val : Int) (hs : Bool) (L : List (Nat × Tr)) (wr : World) : Prop :=
  ∃ (kk : KV) (Q : List NP), NM mb w1 wr (⟨nn, o, bs, val, hs, some kk⟩ :: Q) (x + 1 + (tsz (ofL L) : Nat)) ∧ TreeIn (⟨nn, o, bs, val, hs, some kk⟩ :: Q) 1 (ofL L) (.pointer none) kk
/-- a kid's tree beside it -/
def BldTM (mb : Nat) (x : Int) (w1 : World) (nn : Nat) (o : Int) (bs : List Nat) (val : Int) (hs : Bool) (L : List (Nat × Tr)) (g : PL) (k : Nat) (wr : World) : Prop :=
  ∃ (t : Tr) (kk : KV) (Q : List NP), NM mb w1 wr (⟨nn, o, bs, val, hs, some kk⟩ :: Q) (x + 1 + (tsz (ofL L) : Nat) + (tsz t : Nat)) ∧ TreeIn (⟨nn, o, bs, val, hs, some kk⟩ :: Q) 1 (ofL L) (.pointer none) kk ∧ TreeIn (⟨nn, o, bs, val, hs, some kk⟩ :: Q) 1 t (.pointer (some ⟨k, 0, none⟩)) [] ∧ IsN t ∧ TOk t ∧ Can t ∧ tl t = g
theorem ofL_sz_snoc (L : List (Nat × Tr)) (b : Nat) (t : Tr) : tsz (ofL (L ++ [(b, t)])) = tsz (ofL L) + tsz t := by
  induction L with
  | nil => simp [ofL, tsz]
  | cons x L ih => simp only [List.cons_append, ofL, tsz, ih]; omega
section
variable {mb : Nat} {x : Int} {w1 wr w' : World} {nn : Nat} {o : Int} {bs : List Nat} {val : Int} {hs : Bool} {L : List (Nat × Tr)}
theorem BldM.mm (h : BldM mb x w1 nn o bs val hs L wr) : MM mb w1 wr := by
  obtain ⟨kk, Q, h1, _⟩ := h; exact h1.mm
theorem BldM.lt (h : BldM mb x w1 nn o bs val hs L wr) : mb < w1.heap.size := by
  obtain ⟨kk, Q, h1, _⟩ := h; exact h1.1
theorem BldM.met (h : BldM mb x w1 nn o bs val hs L wr) : Met wr mb (x + 1 + (tsz (ofL L) : Nat)) := by
  obtain ⟨kk, Q, h1, _⟩ := h; exact h1.2.2
theorem BldM.below (h : BldM mb x w1 nn o bs val hs L wr) (hb : Below wr.heap.size wr w') : BldM mb x w1 nn o bs val hs L w' := by
  obtain ⟨kk, Q, h1, h2⟩ := h; exact ⟨kk, Q, h1.below hb, h2⟩
theorem BldM.kid (h : BldM mb x w1 nn o bs val hs L wr) {g : PL} {e : Ending} (q : trePostM g mb (x + 1 + (tsz (ofL L) : Nat)) wr e w') : ∃ k, e = .returned (.pointer (some ⟨k, 0, none⟩)) ∧ BldTM mb x w1 nn o bs val hs L g k w' := by
  obtain ⟨kk, Q, h1, h2⟩ := h
  obtain ⟨t, k, R, rfl, q1, q2, q3, q4, q5, q6⟩ := q
  refine ⟨k, rfl, t, kk, Q ++ R, h1.join q1, h2.more R, ?_, q3, q4, q5, q6⟩
  have := q2.shift (⟨nn, o, bs, val, hs, some kk⟩ :: Q)
  exact this.low (by simp)
theorem BldTM.mm {g : PL} {k : Nat} (h : BldTM mb x w1 nn o bs val hs L g k wr) : MM mb w1 wr := by
  obtain ⟨_, _, _, h, _⟩ := h; exact h.mm
theorem BldTM.below {g : PL} {k : Nat} (h : BldTM mb x w1 nn o bs val hs L g k wr) (hb : Below wr.heap.size wr w') : BldTM mb x w1 nn o bs val hs L g k w' := by
  obtain ⟨t, kk, Q, h1, h2⟩ := h; exact ⟨t, kk, Q, h1.below hb, h2⟩
theorem BldTM.set {g : PL} {k b : Nat} (h : BldTM mb x w1 nn o bs val hs L g k wr) (ho : o ≠ 0) (hb : b < 256) (hL : ∀ c ∈ L.map (·.1), c < b) :
    Calls Tryz.prog 53 #[.pointer (some ⟨nn, 0, none⟩), .int .u64 o, .int .u8 b, .pointer (some ⟨k, 0, none⟩)] wr fun e w' => e = .returned (.int .i64 0) ∧ ∃ t, BldM mb x w1 nn o bs val hs (L ++ [(b, t)]) w' ∧ IsN t ∧ TOk t ∧ Can t ∧ tl t = g := by
  obtain ⟨t, kk, Q, h1, h2, h3, h4, h5, h6, h7⟩ := h
  refine (sp_setkid h1.2.1 (i := 0) (p := ⟨nn, o, bs, val, hs, some kk⟩) rfl rfl o (by simp [ho]) b hb ⟨k, 0, none⟩).mono ?_
  rintro e w' ⟨rfl, q⟩
  have q := h1.turn q
  have q : NM mb w1 w' (⟨nn, o, bs, val, hs, some (kins kk b (.pointer (some ⟨k, 0, none⟩)))⟩ :: Q) (x + 1 + (tsz (ofL L) : Nat) + (tsz t : Nat)) := q
  have hk := h2.keys
  rw [kins_end (by rw [hk]; exact hL), show x + 1 + (tsz (ofL L) : Nat) + (tsz t : Nat) = x + 1 + (tsz (ofL (L ++ [(b, t)])) : Nat) by rw [ofL_sz_snoc]; omega] at q
  refine ⟨rfl, t, ⟨kk ++ [(b, .pointer (some ⟨k, 0, none⟩))], Q, q, ?_⟩, h4, h5, h6, h7⟩
  have e1 := (h2.setOut (i := 0) (by omega) ⟨nn, o, bs, val, hs, some (kk ++ [(b, .pointer (some ⟨k, 0, none⟩))])⟩)
  have e2 := (h3.setOut (i := 0) (by omega) ⟨nn, o, bs, val, hs, some (kk ++ [(b, .pointer (some ⟨k, 0, none⟩))])⟩)
  exact TreeIn.snoc e1 e2
theorem BldM.done {l : PL} {w : World} (h : BldM mb x w1 nn o bs val hs L wr) (hb : Below w.heap.size w w1) (hmb : mb < w.heap.size) (hT : TOk (.node bs val hs false (ofL L)) ∧ Can (.node bs val hs false (ofL L)) ∧ tl (.node bs val hs false (ofL L)) = l) : trePostM l mb x w (.returned (.pointer (some ⟨nn, 0, none⟩))) wr := by
  obtain ⟨kk, Q, h1, h2⟩ := h
  refine ⟨.node bs val hs false (ofL L), nn, ⟨nn, o, bs, val, hs, some kk⟩ :: Q, rfl, ?_, ⟨0, _, Nat.le_refl _, rfl, rfl, rfl, rfl, rfl, rfl, h2.low (by omega)⟩, trivial, hT.1, hT.2.1, hT.2.2⟩
  have := h1.rebase (Mod.of_below hb) hmb
  rw [show x + (tsz (.node bs val hs false (ofL L)) : Nat) = x + 1 + (tsz (ofL L) : Nat) by simp only [tsz]; omega]
  exact this
theorem BldM.setVal (h : BldM mb x w1 nn o bs 0 false [] wr) (ho : o ≠ 0) (v : Int) :
    Calls Tryz.prog 52 #[.pointer (some ⟨nn, 0, none⟩), .int .u64 o, .int .u64 v] wr fun e w' => e = .returned (.int .i64 0) ∧ BldM mb x w1 nn o bs v true [] w' := by
  obtain ⟨kk, Q, h1, h2⟩ := h
  refine (sp_setval h1.2.1 (i := 0) (p := ⟨nn, o, bs, 0, false, some kk⟩) rfl o v (by simp [ho])).mono ?_
  rintro e w' ⟨rfl, q⟩
  have q : NM mb w1 w' (⟨nn, o, bs, v, true, some kk⟩ :: Q) (x + 1 + (tsz (ofL []) : Nat)) := h1.turn q
  exact ⟨rfl, kk, Q, q, h2⟩
end
theorem bld_bound {l : PL} {bs : List Nat} {l2 l3 r r2 g : PL} {L : List (Nat × Tr)} {val : Int} {hs : Bool} {b : Nat} (hS : Start l bs l2) (h2 : l2 = (if hs then [([], val)] else []) ++ l3) (h : BldR l3 L r) (hr : r = pre [b] g ++ r2) : 1 + tsz (ofL L) + 3 * g.length ≤ 3 * l.length := by
  have htwo := hS.two
  have hg := group_small (N := l2.length - 1) hS h2 h hr (by omega)
  have hl : l.length = l2.length := by rw [hS.eq, pre_length]
  have hok : TOk (ofL L) := (tok_ofL L).2 ⟨fun x hx => ⟨(h.kids x hx).1, (h.kids x hx).2.1, (h.kids x hx).2.2.1⟩, h.up⟩
  have hcan : Can (ofL L) := (can_ofL L).2 fun x hx => (h.kids x hx).2.2.2
  have hz := (can_sz (ofL L) hok hcan).2 (isK_ofL L)
  have e := h.eq
  have h1 : l2.length = (if hs then 1 else 0) + ((tl (ofL L)).length + (g.length + r2.length)) := by
    rw [h2, e, hr]
    cases hs <;> simp <;> omega
  rw [hl]
  generalize (tl (ofL L)).length = T at *
  generalize tsz (ofL L) = Z at *
  split at h1 <;> omega
/-- the maker's variable -/
abbrev boxM (w : World) (mb : Nat) (o : Int) : World := w.alloc (.cells #[.pointer (some ⟨mb, 0, none⟩), .int .u64 o] mkT)
theorem boxM_cells (w : World) (mb : Nat) (o : Int) : (boxM w mb o).cell? ⟨w.heap.size, 0, none⟩ = some (.pointer (some ⟨mb, 0, none⟩)) ∧ (boxM w mb o).cell? ⟨w.heap.size, 1, none⟩ = some (.int .u64 o) ∧ Below w.heap.size w (boxM w mb o) ∧ (boxM w mb o).heap.size = w.heap.size + 1 := by
  have hb : (boxM w mb o).heap[w.heap.size]? = some (.cells [.pointer (some ⟨mb, 0, none⟩), .int .u64 o].toArray mkT (0, 0)) := heap_alloc_new w _
  exact ⟨by rw [cell_of_blk hb]; rfl, by rw [cell_of_blk hb]; rfl, (Below.refl _ w).alloc (Nat.le_refl _) _, World.size_alloc _ _⟩
theorem inner_madeM {mb : Nat} {x : Int} {w w2 : World} {a : Option Addr} {n c : Nat} {bs : List Nat} (h : SlM mb w2 a n c bs) (hn : n ≤ 140737488355328) (hb : Below w.heap.size w w2) (hmb : mb < w.heap.size) (hm : Met w mb x) (hx : IntKind.i64.wrap (x + 1) = x + 1) (o : Int) :
    Calls Tryz.prog 50 #[.pointer (some ⟨mb, 0, none⟩), .int .u64 o, .slice a n c] w2 fun e w' => ∃ k, e = .returned (.pointer (some ⟨k, 0, none⟩)) ∧ BldM mb x w k o bs 0 false [] w' := by
  have hst : NM mb w w2 [] x := ⟨hmb, StoreP.nil _ (Mod.of_below hb), hm.below hb hmb⟩
  refine (nm_innerM hst hx o h hn).mono ?_
  rintro e w' ⟨k, rfl, h1⟩
  exact ⟨k, rfl, [], [], by simpa [tsz, ofL] using h1, rfl⟩
theorem leaf_madeM {mb : Nat} {x : Int} {w w2 : World} {a : Option Addr} {n c : Nat} {bs : List Nat} (h : SlM mb w2 a n c bs) (hn : n ≤ 140737488355328) (hb : Below w.heap.size w w2) (hmb : mb < w.heap.size) (hm : Met w mb x) (hx : IntKind.i64.wrap (x + 1) = x + 1) (o v : Int) (hv : 0 ≤ v ∧ v < 18446744073709551616) :
    Calls Tryz.prog 51 #[.pointer (some ⟨mb, 0, none⟩), .int .u64 o, .slice a n c, .int .u64 v] w2 (trePostM [(bs, v)] mb x w) := by
  have hst : NM mb w w2 [] x := ⟨hmb, StoreP.nil _ (Mod.of_below hb), hm.below hb hmb⟩
  refine (nm_leafM hst hx o v h hn).mono ?_
  rintro e w' ⟨k, rfl, h1⟩
  refine ⟨.node bs v true true .nil, k, _, rfl, h1, ⟨0, _, Nat.le_refl _, rfl, rfl, rfl, rfl, rfl, rfl, rfl⟩, trivial, ⟨h.1.at_.1, hv.1, hv.2, by simp, fun _ => ⟨rfl, rfl⟩, trivial, trivial⟩, ⟨trivial, by simp⟩, by simp [tl]⟩
set_option maxHeartbeats 1000000 in
set_option maxRecDepth 100000 in
theorem tree_oneM (mb : Nat) (o : Int) (k : List Nat) (v : Int) (pfx : List Nat) (a : Option Addr) (c : Nat) (w : World) (x0 : Int) (h : PrsM mb w a 1 c (pre pfx [(k, v)])) (hk : (pfx ++ k).length ≤ 65535) (hmb : mb < w.heap.size) (hmt : Met w mb x0) (hx0 : 0 ≤ x0) (hxb : x0 + 3 ≤ 4611686018427387904) :
    Calls Tryz.prog 33 #[.agg #[.pointer (some ⟨mb, 0, none⟩), .int .u64 o], .slice a 1 c, .int .i64 (pfx.length : Nat)] w (trePostM [(k, v)] mb x0 w) := by
  obtain ⟨p, a3, n3, c3, rfl, _, q1, q2, q3⟩ := prsM_row h (i := 0) Nat.one_pos
  have hxw : IntKind.i64.wrap (x0 + 1) = x0 + 1 := IntWalk.i64_in _ (by omega)
  have hv := h.val (pfx ++ k, v) (by simp [pre])
  have q1 : w.cell? p = some (.slice a3 n3 c3) := by rw [← Addr.add_zero' p]; simpa using q1
  have q2 : w.cell? ⟨p.block, p.off + 1, none⟩ = some (.int .u64 v) := by
    simp only [Nat.zero_mul, Addr.add_zero'] at q2
    exact q2
  have q3 : SlM mb w a3 n3 c3 (pfx ++ k) := q3
  obtain ⟨at_, hat⟩ : ∃ m, m = pfx.length := ⟨_, rfl⟩
  have hn3 := q3.1.len
  rw [List.length_append] at hk hn3
  have hc3 := q3.1.cap
  have hs := q3.from_ (lo := at_) (by omega)
  rw [hat, List.drop_left, ← hat] at hs
  have hcut : ∀ w, (Instr.slice 38 (.slice a3 n3 c3) (some (.int .i64 (at_ : Nat))) none none).run Tryz.prog w = .ok (.slice (cutA a3 c3 at_ 1) (n3 - at_) (c3 - at_)) w := fun w => run_from8 w a3 n3 c3 at_ (by omega)
  rw [← hat]
  have hL : Hid (∀ w2, Below w.heap.size w w2 → Calls Tryz.prog 51 #[.pointer (some ⟨mb, 0, none⟩), .int .u64 o, .slice (cutA a3 c3 at_ 1) (n3 - at_) (c3 - at_), .int .u64 v] w2 (trePostM [(k, v)] mb x0 w)) := fun w2 hb => leaf_madeM (hs.mod (Mod.of_below hb)) (by omega) hb hmb hmt hxw o v hv
  obtain ⟨b0, b1, hb, hz⟩ := boxM_cells w mb o
  have q4 := (hb.cell (cell_lt q1)).trans q1
  have q5 := (hb.cell (p := ⟨p.block, p.off + 1, none⟩) (cell_lt q2)).trans q2
  have HB := Lib.hid hb
  have i0 : (0 : Int) ≤ (at_ : Int) := by omega
  have i1 : (at_ : Int) ≤ (n3 : Int) := by omega
  generalize cutA a3 c3 at_ 1 = a4 at *
  generalize n3 - at_ = n4 at *
  generalize c3 - at_ = c4 at *
  clear h hv q3 hat hn3 hk hc3 hs q1 q2 hb hz hmb hmt hx0 hxb hxw
  go_enter Tryz.func33, Tryz.ntmps33
  go_wp2_with fail
  change Code.wp _ _ _ _ (boxM w mb o)
  generalize boxM w mb o = wb at *
  go_still_tail 14, (by kernel_rfl)
  change wpList _ _ _ _ _ wb.drew
  go_wp2_with (go_at_call 51; refine (hL.out _ HB.out.drew).mono ?_; rintro e w3 ⟨t, k', Q, rfl, h1⟩; have h1 := Lib.hid h1)
  go_ret
  exact ⟨t, k', Q, rfl, h1.out⟩
set_option maxHeartbeats 4000000 in
set_option maxRecDepth 100000 in
theorem tree_manyM (mb : Nat) (o : Int) (ho : o ≠ 0) (N : Nat) (IH : TreeAskM mb o N) (l : PL) (pfx : List Nat) (a : Option Addr) (n c : Nat) (w : World) (x0 : Int) (hN : l.length ≤ N + 1) (h2 : 2 ≤ l.length) (h : PrsM mb w a n c (pre pfx l)) (hs : PSrt l) (hk : ∀ x ∈ pre pfx l, x.1.length ≤ 65535) (hmb : mb < w.heap.size) (hmt : Met w mb x0) (hx0 : 0 ≤ x0) (hxb : x0 + 3 * (l.length : Nat) ≤ 4611686018427387904) :
    Calls Tryz.prog 33 #[.agg #[.pointer (some ⟨mb, 0, none⟩), .int .u64 o], .slice a n c, .int .i64 (pfx.length : Nat)] w (trePostM l mb x0 w) := by
  obtain ⟨b0, b1, hb, hz⟩ := boxM_cells w mb o
  have hn : l.length = n := by have := h.len; rwa [pre_length] at this
  obtain ⟨bs, l2, hS, hbl, hbt⟩ := start_of hs h2
  have HP := h.below hb
  have hnm : n ≤ 9223372036854775807 := Nat.le_trans h.cap h.prs.capm
  have hmb2 : mb < (boxM w mb o).heap.size := by omega
  have hmt2 : Met (boxM w mb o) mb x0 := hmt.below hb hmb
  have hxw : IntKind.i64.wrap (x0 + 1) = x0 + 1 := IntWalk.i64_in _ (by omega)
  obtain ⟨p, af, nf, cf, rfl, hpm, q1, q2, q3⟩ := prsM_first HP (by omega)
  obtain ⟨p', al, nl, cl, ep, _, q4, _, q6⟩ := prsM_row HP (i := n - 1) (by omega)
  obtain rfl : p = p' := by simpa using ep
  rw [pre_getD _ (by omega)] at q3 q6 q2
  simp only at q3 q6 q2
  obtain ⟨fk, hfk⟩ : ∃ fk, fk = (l.getD 0 ([], 0)).1 := ⟨_, rfl⟩
  obtain ⟨fv, hfv⟩ : ∃ fv, fv = (l.getD 0 ([], 0)).2 := ⟨_, rfl⟩
  have hfm : (pfx ++ fk, fv) ∈ pre pfx l := by
    have := mem_getD (l := pre pfx l) (i := 0) (d := ([], 0)) (by rw [pre_length]; omega)
    rwa [pre_getD _ (by omega), ← hfk, ← hfv] at this
  have hnf := q3.1.len
  have hfk16 := hk _ hfm
  have hvv := HP.val _ hfm
  rw [← hfk] at q3 hnf hbl hbt
  rw [← hfv] at q2
  rw [hn] at hbl
  simp only at hfk16 hvv
  rw [List.length_append] at hnf hfk16
  have hbf : bs.length ≤ fk.length := by rw [hbl]; exact (lcp_le _ _).1
  obtain ⟨at_, hat⟩ : ∃ m, m = pfx.length := ⟨_, rfl⟩
  obtain ⟨en, hen⟩ : ∃ m, m = pfx.length + bs.length := ⟨_, rfl⟩
  have hcf := q3.1.cap
  have hcom : Hid (∀ w2, Below (boxM w mb o).heap.size (boxM w mb o) w2 → Calls Tryz.prog 61 #[.slice af nf cf, .slice al nl cl] w2 fun e w' => e = .returned (.int .i64 (en : Nat)) ∧ Below (boxM w mb o).heap.size (boxM w mb o) w') := fun w2 hw2 =>
    (keys_common w2 af al nf cf nl cl _ _ (q3.1.below hw2).at_ (q6.1.below hw2).at_ q3.1.len q6.1.len (Nat.le_trans q3.1.cap q3.1.capm) (Nat.le_trans q6.1.cap q6.1.capm)).mono fun e w' ⟨e1, k, e2⟩ => ⟨by rw [e1, lcp_pre, hen, hbl], by rw [e2]; exact below_drewN hw2 k⟩
  have hcutk : ∀ w, (Instr.slice 38 (.slice af nf cf) (some (.int .i64 (at_ : Nat))) (some (.int .i64 (en : Nat))) none).run Tryz.prog w = .ok (.slice (cutA af cf at_ 1) (en - at_) (cf - at_)) w := fun w => run_cut8 w af nf cf at_ en (by omega) (by omega)
  have hsb := q3.cut (lo := at_) (hi := en) (by omega) (by omega)
  have ebs : ((pfx ++ fk).take en).drop at_ = bs := by
    rw [hen, hat, List.take_append, List.take_of_length_le (by omega), Nat.add_sub_cancel_left, List.drop_left, ← hbt]
  rw [ebs] at hsb
  have hIn : Hid (∀ w2, Below (boxM w mb o).heap.size (boxM w mb o) w2 → Calls Tryz.prog 50 #[.pointer (some ⟨mb, 0, none⟩), .int .u64 o, .slice (cutA af cf at_ 1) (en - at_) (cf - at_)] w2 fun e w' => ∃ k, e = .returned (.pointer (some ⟨k, 0, none⟩)) ∧ BldM mb x0 (boxM w mb o) k o bs 0 false [] w') := fun w2 hw2 => inner_madeM (hsb.mod (Mod.of_below hw2)) (by omega) hw2 hmb2 hmt2 hxw o
  have hKx : Hid (∀ wr, MM mb (boxM w mb o) wr → wr.cell? ⟨w.heap.size, 0, none⟩ = some (.pointer (some ⟨mb, 0, none⟩)) ∧ wr.cell? ⟨w.heap.size, 1, none⟩ = some (.int .u64 o) ∧ wr.cell? p = some (.slice af nf cf) ∧ wr.cell? ⟨p.block, p.off + 1, none⟩ = some (.int .u64 fv)) := fun wr hw =>
    ⟨hw.cell (p := ⟨w.heap.size, 0, none⟩) (by show w.heap.size ≠ mb; omega) b0, hw.cell (p := ⟨w.heap.size, 1, none⟩) (by show w.heap.size ≠ mb; omega) b1, hw.cell hpm q1, hw.cell (p := ⟨p.block, p.off + 1, none⟩) hpm q2⟩
  have Hb := Lib.hid hb
  have HPb := Lib.hid HP
  have hq : Hid ((pfx ++ bs).length = en) := by show _ = _; rw [List.length_append, hen]
  have hpre : pre pfx l = pre (pfx ++ bs) l2 := by rw [hS.eq, pre_pre]
  rw [hpre] at HPb
  have hbb : Hid (∀ x ∈ bs, x < 256) := hsb.1.at_.1
  have Hmb := Lib.hid hmb
  have Hx0 := Lib.hid hx0
  have Hxb := Lib.hid hxb
  have i0 : (0 : Int) ≤ (at_ : Int) := by omega
  have i1 : (at_ : Int) ≤ (en : Int) := by omega
  have i2 : (en : Int) ≤ (cf : Int) := by omega
  have i3 : (en : Int) ≤ (nf : Int) := by omega
  have i4 : ((n : Int) == 0) = false := by rw [beq_eq_false_iff_ne]; omega
  have i5 : ((n : Int) == 1) = false := by rw [beq_eq_false_iff_ne]; omega
  have i6 : (0 : Int) < (n : Int) := by omega
  have i6n : 0 < n := by omega
  have i7 : IntKind.i64.wrap ((n : Int) - 1) = ((n - 1 : Nat) : Int) := by rw [show (n : Int) - 1 = ((n - 1 : Nat) : Int) by omega]; exact IntWalk.i64_in _ (by omega)
  have i8 : (((n - 1 : Nat) : Int)) < (n : Int) := by omega
  have i9 : (0 : Int) ≤ (((n - 1 : Nat) : Int)) := by omega
  have HS := Lib.hid hS
  have Hvv := Lib.hid hvv
  have Hhs := Lib.hid hs
  have Hk2 : Hid (∀ x ∈ pre (pfx ++ bs) l2, x.1.length ≤ 65535) := by rw [← hpre]; exact hk
  have Hn2 : Hid (l2.length = n ∧ n ≤ N + 1) := by
    show _ ∧ _
    have := congrArg List.length hS.eq
    rw [pre_length] at this
    omega
  have Hfk : Hid (fk = bs ++ (l2.getD 0 ([], 0)).1 ∧ fv = (l2.getD 0 ([], 0)).2) := by
    show _ ∧ _
    have h3 := hS.two
    have h4 := pre_getD bs (r := l2) (i := 0) (by omega)
    rw [← hS.eq] at h4
    exact ⟨by rw [hfk, h4], by rw [hfv, h4]⟩
  have hcutP : ∀ w, (Instr.slice 31 (.slice (some p) n c) (some (.int .i64 1)) none none).run Tryz.prog w = .ok (.slice (cutA (some p) c 1 2) (n - 1) (c - 1)) w := fun w => run_fromA w (some p) n c 1 (by omega)
  have hnfe : Hid (nf = pfx.length + fk.length ∧ en = pfx.length + bs.length) := ⟨hnf.symm, hen⟩
  have hat2 := Lib.hid hat
  have hen16 : en ≤ 65535 := by omega
  rw [← hat]
  clear hbt hbl hn h2 hN h hs hk q3 q6 hfm hfk hfv hnf hfk16 hvv hbf hat hen hcf hsb ebs hpre hS hb hz b0 b1 HP ep q1 q2 hmb hmt hmb2 hmt2 hxw hx0 hxb hpm
  generalize cutA af cf at_ 1 = ab at *
  generalize en - at_ = nb at *
  generalize cf - at_ = cb at *
  go_enter Tryz.func33, Tryz.ntmps33
  go_upto_region 6 with (fail)
  change Code.wp _ _ _ _ (boxM w mb o)
  generalize boxM w mb o = wb at *
  obtain ⟨k0, k1, k2, k3⟩ := hKx.out wb (Mod.refl _ _)
  go_wp2_with (go_at_call 61; refine (hcom.out wb (Below.refl _ _)).mono ?_; rintro e w2 ⟨rfl, hw2⟩; have B2 := Lib.hid hw2; obtain ⟨k0, k1, k2, k3⟩ := hKx.out w2 (Mod.of_below hw2); clear hw2)
  go_still_tail 8, (by kernel_rfl)
  change wpList _ _ _ _ _ w2.drew
  by_cases hlen : fk.length = bs.length
  · have he : ((nf : Int) == (en : Int)) = true := by
      have := hnfe.out
      rw [beq_iff_eq]; omega
    have h0 : (l2.getD 0 ([], 0)).1 = [] := by
      have := congrArg List.length Hfk.out.1
      rw [List.length_append] at this
      exact List.eq_nil_of_length_eq_zero (by omega)
    obtain ⟨l3, e3, hR⟩ := start_has HS.out (prs_bytes HPb.out.prs) h0
    rw [← Hfk.out.2] at e3
    have HR0 := Lib.hid hR
    have HP0 := Lib.hid (HPb.out.from_ (lo := 1) (by omega))
    rw [show (pre (pfx ++ bs) l2).drop 1 = pre (pfx ++ bs) l3 by rw [e3]; rfl] at HP0
    obtain ⟨val, hval⟩ : ∃ v, v = fv := ⟨_, rfl⟩
    obtain ⟨hs, hhs⟩ : ∃ v, v = true := ⟨_, rfl⟩
    have H2 : Hid (l2 = (if hs then [([], val)] else []) ++ l3) := by rw [hhs, hval]; exact e3
    have Hv : Hid (0 ≤ val ∧ val < 18446744073709551616) := by rw [hval]; exact Hvv.out
    have H0 : Hid (hs = false → val = 0) := fun e => by rw [hhs] at e; cases e
    rw [← hval] at k3
    have hsv : ∀ wr, BldM mb x0 wb wr.heap.size o bs fv true [] wr → True := fun _ _ => trivial
    have hS5 : Hid (∀ (nn : Nat) (wr : World), BldM mb x0 wb nn o bs fv true [] wr → BldM mb x0 wb nn o bs val hs [] wr) := fun nn wr h => by rw [hhs, hval]; exact h
    clear hlen h0 e3 hR hval hhs hsv
    go_wp2_with (go_at_call 50; refine (hIn.out _ B2.out.drew).mono ?_; rintro e w3 ⟨nn, rfl, hS3⟩; have BS := Lib.hid hS3; obtain ⟨k0, k1, k2, k3⟩ := hKx.out w3 hS3.mm; clear hS3)
    have hV := Lib.hid ((BS.out.below (Below.refl _ _).drew).setVal ho fv)
    go_still_tail 7, (by kernel_rfl)
    change wpList _ _ _ _ _ w3.drew
    go_wp2_with (go_at_call 52; refine hV.out.mono ?_; rintro e w4 ⟨rfl, hS4⟩; have BS4 := Lib.hid (hS5.out nn w4 hS4); clear hS4)
    clear k0 k1 k2 k3 hcom hIn hcutk hcutP hS5 he
    go_loopw [1] (fun v1 wr => ∃ (a1 : Option Addr) (n1 c1 : Nat) (L : List (Nat × Tr)) (r : PL), v1 = .slice a1 n1 c1 ∧ n1 ≤ n ∧ Hid (PrsM mb wb a1 n1 c1 (pre (pfx ++ bs) r)) ∧ Hid (∃ pre_, l3 = pre_ ++ r) ∧ Hid (BldR l3 L r) ∧ Hid (BldM mb x0 wb nn o bs val hs L wr)) (fun v1 _ => match v1 with | .slice _ m _ => m | _ => 0)
    case atStart => exact ⟨_, _, _, [], l3, rfl, by omega, HP0, ⟨[], rfl⟩, HR0, BS4⟩
    case round =>
      clear HP0 HR0 BS4
      obtain ⟨a1, n1, c1, L, r, rfl, hn1, HP1, Hsuf, HR, BS⟩ := hrel
      have hr1 : Hid (r.length = n1) := by show _ = _; have := HP1.out.len; rwa [pre_length] at this
      by_cases hz : n1 = 0
      · subst hz
        have j1 : ¬ (0 : Int) < ((0 : Nat) : Int) := by omega
        obtain rfl : r = [] := List.eq_nil_of_length_eq_zero hr1.out
        have hE := Lib.hid (BS.out.done Hb.out Hmb.out (grow_end HS.out HR.out H2.out Hv.out H0.out hbb.out))
        go_wp2_with fail
        go_ret
        exact hE.out
      · obtain ⟨b, g, r2, e1, hg, sg, hb256, hbL, hr2, hnext⟩ := HR.out.next (fun e => by rw [e] at hr1; exact hz hr1.out.symm)
        have E1 := Lib.hid e1
        have hr2 := Lib.hid hr2
        have hnext := Lib.hid hnext
        have hbL := Lib.hid hbL
        have hgN : Hid (g.length ≤ N) := group_small HS.out H2.out HR.out e1 (by have := Hn2.out; omega)
        have hg0 := Lib.hid hg
        obtain ⟨G, hG⟩ : ∃ G, G = g.length := ⟨_, rfl⟩
        have HG := Lib.hid hG
        have hG1 : 1 ≤ G := by
          cases g with
          | nil => exact absurd rfl hg
          | cons x g => rw [hG]; simp
        have hGn : G ≤ n1 := by rw [hG, ← hr1.out, e1]; simp
        obtain ⟨p1, p3, n3, c3, rfl, z1, z2, z3⟩ := key_at (HP1.out.mod BS.out.mm).prs (i := 0) (by omega) (head_in e1 (m := 0) (by omega))
        rw [hq.out] at z2 z3
        simp only [Nat.zero_mul, Addr.add_zero'] at z1
        have j1 : (0 : Int) < (n1 : Int) := by omega
        have j2 : 0 < n1 := by omega
        have j3 : (0 : Int) ≤ (en : Int) := by omega
        have j4 : (en : Int) < (n3 : Int) := by omega
        clear hG hg e1 hz z2
        go_wp2_with fail
        go_loop [11] (fun vm => ∃ m : Nat, vm = .int .i64 (m : Nat) ∧ 1 ≤ m ∧ m ≤ G) (fun vm => (G - intOf vm).toNat)
        case atStart => exact ⟨1, rfl, by omega, hG1⟩
        case round =>
          clear z1 z3 j4
          obtain ⟨m, rfl, hm1, hm2⟩ := hrel
          by_cases hmG : m < G
          · obtain ⟨p1', p3', n3', c3', hp, z1, z2, z3⟩ := key_at (HP1.out.mod BS.out.mm).prs (i := m) (by omega) (head_in E1.out (m := m) (by rw [← HG.out]; exact hmG))
            obtain rfl : p1 = p1' := by simpa using hp
            rw [hq.out] at z2 z3
            have j4 : (en : Int) < (n3' : Int) := by omega
            have j5 : (m : Int) < (n1 : Int) := by omega
            have j6 : (0 : Int) ≤ (m : Int) := by omega
            have hw9 : IntKind.i64.wrap (((m : Nat) : Int) + 1) = ((m + 1 : Nat) : Int) := by rw [show ((m : Nat) : Int) + 1 = ((m + 1 : Nat) : Int) by omega]; exact IntWalk.i64_in _ (by omega)
            clear hp z2
            go_wp2_with fail
            go_round
            case rel => exact ⟨m + 1, (by first | rfl | go_num), by omega, by omega⟩
            case measure => (simp [intOf]) <;> omega
          · obtain rfl : m = G := by omega
            have hT : Hid (∀ w', Below wr.heap.size wr w' → Calls Tryz.prog 33 #[.agg #[.pointer (some ⟨mb, 0, none⟩), .int .u64 o], .slice (some p1) m c1, .int .i64 ((en + 1 : Nat) : Int)] w' fun e w'' => ∃ k, e = .returned (.pointer (some ⟨k, 0, none⟩)) ∧ BldTM mb x0 wb nn o bs val hs L g k w'') := fun w' hw' => by
              have hP2 := ((HP1.out.mod BS.out.mm).below hw').to_ (hi := m) hGn
              rw [cutA_zero, HG.out, (pre_take (pfx ++ bs) E1.out).1, ← HG.out] at hP2
              have hbnd : ∀ x ∈ pre (pfx ++ bs ++ [b]) g, x.1.length ≤ 65535 := fun x hx => by
                refine Hk2.out x ?_
                obtain ⟨pr, e2⟩ := Hsuf.out
                rw [H2.out, e2, E1.out, pre_append, pre_append, pre_append, pre_pre]
                exact List.mem_append.2 (Or.inr (List.mem_append.2 (Or.inr (List.mem_append.2 (Or.inl hx)))))
              have hbd := bld_bound HS.out H2.out HR.out E1.out
              have := IH g (pfx ++ bs ++ [b]) (some p1) m c1 w' (x0 + 1 + (tsz (ofL L) : Nat)) hgN.out hg0.out hP2 sg hbnd (Nat.lt_of_lt_of_le (Nat.lt_of_lt_of_le BS.out.lt BS.out.mm.size) hw'.size) (BS.out.met.below hw' (Nat.lt_of_lt_of_le BS.out.lt BS.out.mm.size)) (by have := Hx0.out; omega) (by have := Hxb.out; omega)
              rw [show (pfx ++ bs ++ [b]).length = en + 1 by rw [List.length_append, hq.out]; rfl] at this
              exact this.mono fun e w'' q => (BS.out.below hw').kid q
            have hSK : Hid (∀ k w', BldTM mb x0 wb nn o bs val hs L g k w' → Calls Tryz.prog 53 #[.pointer (some ⟨nn, 0, none⟩), .int .u64 o, .int .u8 (b : Nat), .pointer (some ⟨k, 0, none⟩)] w' fun e w'' => e = .returned (.int .i64 0) ∧ ∃ t, BldM mb x0 wb nn o bs val hs (L ++ [(b, t)]) w'' ∧ IsN t ∧ TOk t ∧ Can t ∧ tl t = g) := fun k w' q => q.set ho hb256 hbL.out
            have hcutG : ∀ w, (Instr.slice 31 (.slice (some p1) n1 c1) none (some (.int .i64 (m : Nat))) none).run Tryz.prog w = .ok (.slice (some p1) m c1) w := fun w => by rw [run_toA w (some p1) n1 c1 m (Nat.le_trans hGn HP1.out.cap), cutA_zero]
            have hcutR : ∀ w, (Instr.slice 31 (.slice (some p1) n1 c1) (some (.int .i64 (m : Nat))) none none).run Tryz.prog w = .ok (.slice (cutA (some p1) c1 m 2) (n1 - m) (c1 - m)) w := fun w => run_fromA w (some p1) n1 c1 m hGn
            have hP5 := HP1.out.from_ (lo := m) hGn
            rw [HG.out, (pre_take (pfx ++ bs) E1.out).2, ← HG.out] at hP5
            replace hP5 := Lib.hid hP5
            have hsuf5 : Hid (∃ pre_, l3 = pre_ ++ r2) := by
              obtain ⟨pr, e2⟩ := Hsuf.out
              exact ⟨pr ++ pre [b] g, by rw [e2, E1.out, List.append_assoc]⟩
            have hwe : IntKind.i64.wrap ((en : Int) + 1) = ((en + 1 : Nat) : Int) := by rw [show (en : Int) + 1 = ((en + 1 : Nat) : Int) by omega]; exact IntWalk.i64_in _ (by omega)
            have j6 : (0 : Int) ≤ (m : Int) := by omega
            have j7 : (m : Int) ≤ (n1 : Int) := by omega
            have j8 : (m : Int) ≤ (c1 : Int) := by have := HP1.out.cap; omega
            obtain ⟨y0, y1, _, _⟩ := hKx.out wr BS.out.mm
            have hB1 := Lib.hid hKx.out
            have hBr : Hid (∀ k, Below wr.heap.size wr (wr.drewN k)) := fun k => below_drewN (Below.refl _ _) k
            by_cases hend : m < n1
            · obtain ⟨d, s, e5, hd⟩ := head_out E1.out hr2.out (by rw [← HG.out, hr1.out]; exact hend)
              rw [← HG.out] at e5
              obtain ⟨p1', p3', n3', c3', hp, z1, z2, z3⟩ := key_at (HP1.out.mod BS.out.mm).prs (i := m) hend e5
              obtain rfl : p1 = p1' := by simpa using hp
              rw [hq.out] at z2 z3
              have j4 : (en : Int) < (n3' : Int) := by omega
              have j5 : (m : Int) < (n1 : Int) := by omega
              have j9 : (((d : Nat) : Int) == ((b : Nat) : Int)) = false := by rw [beq_eq_false_iff_ne]; omega
              clear hp z2 e5
              go_wp2_with fail
              go_region_held3 (fun w' => w'.cell? ⟨w.heap.size, 0, none⟩ = some (.pointer (some ⟨mb, 0, none⟩)) ∧ w'.cell? ⟨w.heap.size, 1, none⟩ = some (.int .u64 o)) (first | go_keep)
                (first | (go_at_call 53; refine (hSK.out _ _ qT.out).mono ?_; rintro e w6 ⟨rfl, t, qS, t1⟩; have qS := Lib.hid qS; obtain ⟨y4, y5, _, _⟩ := hKx.out w6 qS.out.mm) | (go_at_call 33; refine (hT.out _ (hBr.out _)).mono ?_; rintro e w5 ⟨k, rfl, qT⟩; have qT := Lib.hid qT; obtain ⟨y2, y3, _, _⟩ := hKx.out w5 qT.out.mm))
              have hR5 := Lib.hid (hnext.out t t1.1 t1.2.1 t1.2.2.1 t1.2.2.2)
              go_wp2_with fail
              go_roundw
              case rel => exact ⟨_, _, _, L ++ [(b, t)], r2, rfl, by omega, hP5, hsuf5, hR5, qS⟩
              case measure => (simp) <;> omega
            · have j5 : ¬ (m : Int) < (n1 : Int) := by omega
              go_wp2_with fail
              go_region_held3 (fun w' => w'.cell? ⟨w.heap.size, 0, none⟩ = some (.pointer (some ⟨mb, 0, none⟩)) ∧ w'.cell? ⟨w.heap.size, 1, none⟩ = some (.int .u64 o)) (first | go_keep)
                (first | (go_at_call 53; refine (hSK.out _ _ qT.out).mono ?_; rintro e w6 ⟨rfl, t, qS, t1⟩; have qS := Lib.hid qS; obtain ⟨y4, y5, _, _⟩ := hKx.out w6 qS.out.mm) | (go_at_call 33; refine (hT.out _ (hBr.out _)).mono ?_; rintro e w5 ⟨k, rfl, qT⟩; have qT := Lib.hid qT; obtain ⟨y2, y3, _, _⟩ := hKx.out w5 qT.out.mm))
              have hR5 := Lib.hid (hnext.out t t1.1 t1.2.1 t1.2.2.1 t1.2.2.2)
              go_wp2_with fail
              go_roundw
              case rel => exact ⟨_, _, _, L ++ [(b, t)], r2, rfl, by omega, hP5, hsuf5, hR5, qS⟩
              case measure => (simp) <;> omega
  · have he : ((nf : Int) == (en : Int)) = false := by
      have := hnfe.out
      rw [beq_eq_false_iff_ne]; omega
    have h0 : (l2.getD 0 ([], 0)).1 ≠ [] := fun e => by
      have := congrArg List.length Hfk.out.1
      rw [List.length_append, e] at this
      exact hlen (by simpa using this)
    obtain ⟨l3, e3⟩ : ∃ l3, l3 = l2 := ⟨_, rfl⟩
    have HR0 : Hid (BldR l3 [] l3) := by rw [e3]; exact start_no HS.out (prs_bytes HPb.out.prs) h0
    have HP0 : Hid (PrsM mb wb (some p) n c (pre (pfx ++ bs) l3)) := by rw [e3]; exact HPb.out
    obtain ⟨val, hval⟩ : ∃ v, v = (0 : Int) := ⟨_, rfl⟩
    obtain ⟨hs, hhs⟩ : ∃ v, v = false := ⟨_, rfl⟩
    have H2 : Hid (l2 = (if hs then [([], val)] else []) ++ l3) := by rw [hhs, e3]; exact rfl
    have Hv : Hid (0 ≤ val ∧ val < 18446744073709551616) := by show _ ∧ _; omega
    have H0 : Hid (hs = false → val = 0) := fun _ => hval
    have hS5 : Hid (∀ (nn : Nat) (wr : World), BldM mb x0 wb nn o bs 0 false [] wr → BldM mb x0 wb nn o bs val hs [] wr) := fun nn wr h => by rw [hhs, hval]; exact h
    clear hlen h0 e3 hval hhs
    go_wp2_with (go_at_call 50; refine (hIn.out _ B2.out.drew).mono ?_; rintro e w4 ⟨nn, rfl, hS3⟩; have BS4 := Lib.hid (hS5.out nn w4 hS3); clear hS3)
    clear k0 k1 k2 k3 hcom hIn hcutk hcutP hS5 he
    go_loopw [1] (fun v1 wr => ∃ (a1 : Option Addr) (n1 c1 : Nat) (L : List (Nat × Tr)) (r : PL), v1 = .slice a1 n1 c1 ∧ n1 ≤ n ∧ Hid (PrsM mb wb a1 n1 c1 (pre (pfx ++ bs) r)) ∧ Hid (∃ pre_, l3 = pre_ ++ r) ∧ Hid (BldR l3 L r) ∧ Hid (BldM mb x0 wb nn o bs val hs L wr)) (fun v1 _ => match v1 with | .slice _ m _ => m | _ => 0)
    case atStart => exact ⟨_, _, _, [], l3, rfl, by omega, HP0, ⟨[], rfl⟩, HR0, BS4⟩
    case round =>
      clear HP0 HR0 BS4
      obtain ⟨a1, n1, c1, L, r, rfl, hn1, HP1, Hsuf, HR, BS⟩ := hrel
      have hr1 : Hid (r.length = n1) := by show _ = _; have := HP1.out.len; rwa [pre_length] at this
      by_cases hz : n1 = 0
      · subst hz
        have j1 : ¬ (0 : Int) < ((0 : Nat) : Int) := by omega
        obtain rfl : r = [] := List.eq_nil_of_length_eq_zero hr1.out
        have hE := Lib.hid (BS.out.done Hb.out Hmb.out (grow_end HS.out HR.out H2.out Hv.out H0.out hbb.out))
        go_wp2_with fail
        go_ret
        exact hE.out
      · obtain ⟨b, g, r2, e1, hg, sg, hb256, hbL, hr2, hnext⟩ := HR.out.next (fun e => by rw [e] at hr1; exact hz hr1.out.symm)
        have E1 := Lib.hid e1
        have hr2 := Lib.hid hr2
        have hnext := Lib.hid hnext
        have hbL := Lib.hid hbL
        have hgN : Hid (g.length ≤ N) := group_small HS.out H2.out HR.out e1 (by have := Hn2.out; omega)
        have hg0 := Lib.hid hg
        obtain ⟨G, hG⟩ : ∃ G, G = g.length := ⟨_, rfl⟩
        have HG := Lib.hid hG
        have hG1 : 1 ≤ G := by
          cases g with
          | nil => exact absurd rfl hg
          | cons x g => rw [hG]; simp
        have hGn : G ≤ n1 := by rw [hG, ← hr1.out, e1]; simp
        obtain ⟨p1, p3, n3, c3, rfl, z1, z2, z3⟩ := key_at (HP1.out.mod BS.out.mm).prs (i := 0) (by omega) (head_in e1 (m := 0) (by omega))
        rw [hq.out] at z2 z3
        simp only [Nat.zero_mul, Addr.add_zero'] at z1
        have j1 : (0 : Int) < (n1 : Int) := by omega
        have j2 : 0 < n1 := by omega
        have j3 : (0 : Int) ≤ (en : Int) := by omega
        have j4 : (en : Int) < (n3 : Int) := by omega
        clear hG hg e1 hz z2
        go_wp2_with fail
        go_loop [11] (fun vm => ∃ m : Nat, vm = .int .i64 (m : Nat) ∧ 1 ≤ m ∧ m ≤ G) (fun vm => (G - intOf vm).toNat)
        case atStart => exact ⟨1, rfl, by omega, hG1⟩
        case round =>
          clear z1 z3 j4
          obtain ⟨m, rfl, hm1, hm2⟩ := hrel
          by_cases hmG : m < G
          · obtain ⟨p1', p3', n3', c3', hp, z1, z2, z3⟩ := key_at (HP1.out.mod BS.out.mm).prs (i := m) (by omega) (head_in E1.out (m := m) (by rw [← HG.out]; exact hmG))
            obtain rfl : p1 = p1' := by simpa using hp
            rw [hq.out] at z2 z3
            have j4 : (en : Int) < (n3' : Int) := by omega
            have j5 : (m : Int) < (n1 : Int) := by omega
            have j6 : (0 : Int) ≤ (m : Int) := by omega
            have hw9 : IntKind.i64.wrap (((m : Nat) : Int) + 1) = ((m + 1 : Nat) : Int) := by rw [show ((m : Nat) : Int) + 1 = ((m + 1 : Nat) : Int) by omega]; exact IntWalk.i64_in _ (by omega)
            clear hp z2
            go_wp2_with fail
            go_round
            case rel => exact ⟨m + 1, (by first | rfl | go_num), by omega, by omega⟩
            case measure => (simp [intOf]) <;> omega
          · obtain rfl : m = G := by omega
            have hT : Hid (∀ w', Below wr.heap.size wr w' → Calls Tryz.prog 33 #[.agg #[.pointer (some ⟨mb, 0, none⟩), .int .u64 o], .slice (some p1) m c1, .int .i64 ((en + 1 : Nat) : Int)] w' fun e w'' => ∃ k, e = .returned (.pointer (some ⟨k, 0, none⟩)) ∧ BldTM mb x0 wb nn o bs val hs L g k w'') := fun w' hw' => by
              have hP2 := ((HP1.out.mod BS.out.mm).below hw').to_ (hi := m) hGn
              rw [cutA_zero, HG.out, (pre_take (pfx ++ bs) E1.out).1, ← HG.out] at hP2
              have hbnd : ∀ x ∈ pre (pfx ++ bs ++ [b]) g, x.1.length ≤ 65535 := fun x hx => by
                refine Hk2.out x ?_
                obtain ⟨pr, e2⟩ := Hsuf.out
                rw [H2.out, e2, E1.out, pre_append, pre_append, pre_append, pre_pre]
                exact List.mem_append.2 (Or.inr (List.mem_append.2 (Or.inr (List.mem_append.2 (Or.inl hx)))))
              have hbd := bld_bound HS.out H2.out HR.out E1.out
              have := IH g (pfx ++ bs ++ [b]) (some p1) m c1 w' (x0 + 1 + (tsz (ofL L) : Nat)) hgN.out hg0.out hP2 sg hbnd (Nat.lt_of_lt_of_le (Nat.lt_of_lt_of_le BS.out.lt BS.out.mm.size) hw'.size) (BS.out.met.below hw' (Nat.lt_of_lt_of_le BS.out.lt BS.out.mm.size)) (by have := Hx0.out; omega) (by have := Hxb.out; omega)
              rw [show (pfx ++ bs ++ [b]).length = en + 1 by rw [List.length_append, hq.out]; rfl] at this
              exact this.mono fun e w'' q => (BS.out.below hw').kid q
            have hSK : Hid (∀ k w', BldTM mb x0 wb nn o bs val hs L g k w' → Calls Tryz.prog 53 #[.pointer (some ⟨nn, 0, none⟩), .int .u64 o, .int .u8 (b : Nat), .pointer (some ⟨k, 0, none⟩)] w' fun e w'' => e = .returned (.int .i64 0) ∧ ∃ t, BldM mb x0 wb nn o bs val hs (L ++ [(b, t)]) w'' ∧ IsN t ∧ TOk t ∧ Can t ∧ tl t = g) := fun k w' q => q.set ho hb256 hbL.out
            have hcutG : ∀ w, (Instr.slice 31 (.slice (some p1) n1 c1) none (some (.int .i64 (m : Nat))) none).run Tryz.prog w = .ok (.slice (some p1) m c1) w := fun w => by rw [run_toA w (some p1) n1 c1 m (Nat.le_trans hGn HP1.out.cap), cutA_zero]
            have hcutR : ∀ w, (Instr.slice 31 (.slice (some p1) n1 c1) (some (.int .i64 (m : Nat))) none none).run Tryz.prog w = .ok (.slice (cutA (some p1) c1 m 2) (n1 - m) (c1 - m)) w := fun w => run_fromA w (some p1) n1 c1 m hGn
            have hP5 := HP1.out.from_ (lo := m) hGn
            rw [HG.out, (pre_take (pfx ++ bs) E1.out).2, ← HG.out] at hP5
            replace hP5 := Lib.hid hP5
            have hsuf5 : Hid (∃ pre_, l3 = pre_ ++ r2) := by
              obtain ⟨pr, e2⟩ := Hsuf.out
              exact ⟨pr ++ pre [b] g, by rw [e2, E1.out, List.append_assoc]⟩
            have hwe : IntKind.i64.wrap ((en : Int) + 1) = ((en + 1 : Nat) : Int) := by rw [show (en : Int) + 1 = ((en + 1 : Nat) : Int) by omega]; exact IntWalk.i64_in _ (by omega)
            have j6 : (0 : Int) ≤ (m : Int) := by omega
            have j7 : (m : Int) ≤ (n1 : Int) := by omega
            have j8 : (m : Int) ≤ (c1 : Int) := by have := HP1.out.cap; omega
            obtain ⟨y0, y1, _, _⟩ := hKx.out wr BS.out.mm
            have hB1 := Lib.hid hKx.out
            have hBr : Hid (∀ k, Below wr.heap.size wr (wr.drewN k)) := fun k => below_drewN (Below.refl _ _) k
            by_cases hend : m < n1
            · obtain ⟨d, s, e5, hd⟩ := head_out E1.out hr2.out (by rw [← HG.out, hr1.out]; exact hend)
              rw [← HG.out] at e5
              obtain ⟨p1', p3', n3', c3', hp, z1, z2, z3⟩ := key_at (HP1.out.mod BS.out.mm).prs (i := m) hend e5
              obtain rfl : p1 = p1' := by simpa using hp
              rw [hq.out] at z2 z3
              have j4 : (en : Int) < (n3' : Int) := by omega
              have j5 : (m : Int) < (n1 : Int) := by omega
              have j9 : (((d : Nat) : Int) == ((b : Nat) : Int)) = false := by rw [beq_eq_false_iff_ne]; omega
              clear hp z2 e5
              go_wp2_with fail
              go_region_held3 (fun w' => w'.cell? ⟨w.heap.size, 0, none⟩ = some (.pointer (some ⟨mb, 0, none⟩)) ∧ w'.cell? ⟨w.heap.size, 1, none⟩ = some (.int .u64 o)) (first | go_keep)
                (first | (go_at_call 53; refine (hSK.out _ _ qT.out).mono ?_; rintro e w6 ⟨rfl, t, qS, t1⟩; have qS := Lib.hid qS; obtain ⟨y4, y5, _, _⟩ := hKx.out w6 qS.out.mm) | (go_at_call 33; refine (hT.out _ (hBr.out _)).mono ?_; rintro e w5 ⟨k, rfl, qT⟩; have qT := Lib.hid qT; obtain ⟨y2, y3, _, _⟩ := hKx.out w5 qT.out.mm))
              have hR5 := Lib.hid (hnext.out t t1.1 t1.2.1 t1.2.2.1 t1.2.2.2)
              go_wp2_with fail
              go_roundw
              case rel => exact ⟨_, _, _, L ++ [(b, t)], r2, rfl, by omega, hP5, hsuf5, hR5, qS⟩
              case measure => (simp) <;> omega
            · have j5 : ¬ (m : Int) < (n1 : Int) := by omega
              go_wp2_with fail
              go_region_held3 (fun w' => w'.cell? ⟨w.heap.size, 0, none⟩ = some (.pointer (some ⟨mb, 0, none⟩)) ∧ w'.cell? ⟨w.heap.size, 1, none⟩ = some (.int .u64 o)) (first | go_keep)
                (first | (go_at_call 53; refine (hSK.out _ _ qT.out).mono ?_; rintro e w6 ⟨rfl, t, qS, t1⟩; have qS := Lib.hid qS; obtain ⟨y4, y5, _, _⟩ := hKx.out w6 qS.out.mm) | (go_at_call 33; refine (hT.out _ (hBr.out _)).mono ?_; rintro e w5 ⟨k, rfl, qT⟩; have qT := Lib.hid qT; obtain ⟨y2, y3, _, _⟩ := hKx.out w5 qT.out.mm))
              have hR5 := Lib.hid (hnext.out t t1.1 t1.2.1 t1.2.2.1 t1.2.2.2)
              go_wp2_with fail
              go_roundw
              case rel => exact ⟨_, _, _, L ++ [(b, t)], r2, rfl, by omega, hP5, hsuf5, hR5, qS⟩
              case measure => (simp) <;> omega
theorem maker_treeM (mb : Nat) (o : Int) (ho : o ≠ 0) : ∀ N, TreeAskM mb o N
  | 0 => fun l pfx a n c w x0 h h0 => absurd (List.eq_nil_of_length_eq_zero (by omega)) h0
  | N + 1 => fun l pfx a n c w x0 hN h0 h hs hk hmb hmt hx0 hxb => by
    by_cases h2 : 2 ≤ l.length
    · exact tree_manyM mb o ho N (maker_treeM mb o ho N) l pfx a n c w x0 hN h2 h hs hk hmb hmt hx0 hxb
    · match l, h0, h2 with
      | [(k, v)], _, _ =>
        obtain rfl : n = 1 := h.len.symm
        exact tree_oneM mb o k v pfx a c w x0 h (hk (pfx ++ k, v) (by simp [pre])) hmb hmt hx0 (by simpa using hxb)
      | _ :: _ :: _, _, h2 => exact absurd (by simp) h2
end Go.Proofs.YtfhdiimcimafkaaGreatDoor
/- law CanonLong: keys that are too long. -/
namespace Go.Proofs.YtfhdiimcimafkaaGreatDoor
open Go.RowKit
def nul (n : Nat) : List Nat := List.replicate n 0
theorem nul_len (n : Nat) : (nul n).length = n := List.length_replicate
theorem nul_lt (n : Nat) : ∀ x ∈ nul n, x < 256 := fun x hx => by rw [List.eq_of_mem_replicate hx]; omega
def lgT (x y : Nat) (v : Int) : Tr := .node (nul x) v true false (.kid 0 (.node (nul y) v true true .nil) .nil)
def lgL (x y : Nat) (v : Int) : PL := [(nul x, v), (nul (x + 1 + y), v)]
theorem lg_ok (x y : Nat) {v : Int} (h0 : 0 ≤ v) (h1 : v < 18446744073709551616) : TOk (lgT x y v) :=
  ⟨nul_lt x, h0, h1, by simp, by simp, trivial, by omega, trivial, ⟨nul_lt y, h0, h1, by simp, fun _ => ⟨rfl, rfl⟩, trivial, trivial⟩, trivial, trivial, trivial⟩
theorem lg_can (x y : Nat) (v : Int) : Can (lgT x y v) := by simp [lgT, Can, chain]
theorem nul_cat (x y : Nat) : nul x ++ 0 :: nul y = nul (x + 1 + y) := by
  have : 0 :: nul y = nul (1 + y) := by rw [Nat.add_comm]; rfl
  rw [this]
  unfold nul
  rw [List.replicate_append_replicate, Nat.add_assoc]
theorem lg_tl (x y : Nat) (v : Int) : tl (lgT x y v) = lgL x y v := by
  unfold lgL
  rw [← nul_cat]
  simp [lgT, tl, pre]
theorem lg_srt (x y : Nat) : PSrt (lgL x y 0) := by rw [← lg_tl]; exact tl_srt _ (lg_ok x y (by omega) (by omega))
theorem lg_fine (x y : Nat) (v : Int) : fineB (lgT x y v) = decide (x + 1 + y ≤ 65535) := by
  have h1 : ([] ++ nul x).length = x := by rw [List.nil_append, nul_len]
  have h2 : (([] ++ nul x) ++ [0] ++ nul y).length = x + 1 + y := by simp [nul_len]; omega
  unfold fineB
  show ((fnT ([] ++ nul x) v true false 1) ++ ((fnT (([] ++ nul x) ++ [0] ++ nul y) v true true 0 ++ []) ++ [])).all id = _
  unfold fnT
  rw [h1, h2]
  by_cases h : x + 1 + y ≤ 65535
  · have a1 : ¬ 65535 < x := by omega
    have a2 : ¬ 65535 < x + 1 + y := by omega
    simp [h, a1, a2]
  · have a2 : 65535 < x + 1 + y := by omega
    simp [h, a2]
theorem lg_way (x y : Nat) (v : Int) : tway (lgT x y v) = x + (1 + y) := by
  simp only [lgT, tway, nul_len]
  omega
theorem lg_dep (x y : Nat) (v : Int) : tdep (lgT x y v) = 2 := rfl
theorem lg_far (x y : Nat) (h : 65535 < x + 1 + y) : chkE (lgL x y 0) = 8 := by
  have : farL 65535 (lgL x y 0) = true := by
    unfold farL lgL
    simp [nul_len, h]
  unfold chkE
  rw [this]; rfl
/-- zeros that were made -/
theorem sl_nul (w : World) (n : Nat) (t : TypeId) (hn : n ≤ 200000) : Sl (w.alloc (.cells (Array.replicate n (.int .u8 0)) t)) (some ⟨w.heap.size, 0, none⟩) n n (nul n) := by
  refine ⟨nul_len n, ⟨nul_lt n, fun i hi => ⟨_, rfl, ?_, ?_⟩⟩, Nat.le_refl _, by unfold maxLen; omega, by simp⟩
  · rw [add0]; simp
  · have hb : (w.alloc (.cells (Array.replicate n (.int .u8 0)) t)).heap[w.heap.size]? = some (.cells ((List.replicate n (Value.int .u8 0)).toArray) t (0, 0)) := by rw [heap_alloc_new]; simp
    rw [add0, cell_of_blk hb]
    rw [nul_len] at hi
    simp [hi, nul, List.getD]
set_option maxHeartbeats 1000000 in
/-- pairs that may not be -/
theorem canon_build_err (o : Int) (w : World) (a : Option Addr) (n c : Nat) (l : PL) (h : Prs w a n c l) (h8 : chkE l = 8) : Calls Tryz.prog 10 #[.pointer none, .int .u64 o, .slice a n c] w fun e w' => e = .returned (.tuple #[.pointer none, .int .i64 8]) ∧ Below w.heap.size w w' := by
  have hC := canon_check w a n c l h
  rw [h8] at hC
  replace hC := Lib.hid hC
  clear h h8
  go_enter Tryz.func10, Tryz.ntmps10
  go_wp2_with (first | (go_at_call 32; refine hC.out.mono ?_; rintro e w1 ⟨rfl, hb⟩; have B := Lib.hid hb; clear hb))
  go_ret2
  exact ⟨rfl, B.out⟩
/-- make([]byte, n), n a uint32 -/
theorem make_u32 (w : World) (n : Nat) (hn : n ≤ 200000) : (Instr.makeSlice 38 (.int .u32 (n : Nat)) (.int .u32 (n : Nat))).run Tryz.prog w = .ok (.slice (some ⟨w.heap.size, 0, none⟩) n n) (w.alloc (.cells (List.replicate n (.int .u8 0)).toArray 5)) := by
  obtain ⟨i, h1, h2, h3, h4⟩ := u8_info
  have := run_make (P := Tryz.prog) w _ _ i _ cloneB_under h1 h2 .u32 .u32 (n : Nat) (n : Nat) (by omega) (by omega) (by rw [h4]; omega) (by omega)
  rw [this, h3]
  simp only [Int.toNat_natCast]
  rw [made_cells n _ rfl]
def lgN (k x : Nat) (v : Int) (has : Bool) (kk : KV) : NP := ⟨k, 1, nul x, v, has, some kk⟩
def lgK (k y : Nat) : NP := ⟨k, 1, nul y, 1, true, none⟩
theorem lg_inner (w : World) (x : Nat) (t : TypeId) (hx : x ≤ 200000) : Calls Tryz.prog 50 #[.pointer none, .int .u64 1, .slice (some ⟨w.heap.size, 0, none⟩) x x] (w.alloc (.cells (Array.replicate x (.int .u8 0)) t)) fun e w' => ∃ k, e = .returned (.pointer (some ⟨k, 0, none⟩)) ∧ StoreP NoB w w' [lgN k x 0 false []] := by
  have hS := sl_nul w x t hx
  have hB : Below w.heap.size w (w.alloc (.cells (Array.replicate x (.int .u8 0)) t)) := (Below.refl _ w).alloc (Nat.le_refl _) _
  exact (sp_inner0 (StoreP.nil NoB (Mod.of_below hB)) (In8.of_sl hS (by omega)) 1).mono fun e w' ⟨k, q1, ⟨q2, _⟩, _⟩ => ⟨k, q1, q2⟩
theorem lg_leaf (w w1 : World) (k x y : Nat) (t : TypeId) (hy : y ≤ 200000) (h : StoreP NoB w w1 [lgN k x 0 false []]) : Calls Tryz.prog 51 #[.pointer none, .int .u64 1, .slice (some ⟨w1.heap.size, 0, none⟩) y y, .int .u64 1] (w1.alloc (.cells (Array.replicate y (.int .u8 0)) t)) fun e w' => ∃ k2, e = .returned (.pointer (some ⟨k2, 0, none⟩)) ∧ StoreP NoB w w' [lgN k x 0 false [], lgK k2 y] := by
  have hS := sl_nul w1 y t hy
  have hB : Below w1.heap.size w1 (w1.alloc (.cells (Array.replicate y (.int .u8 0)) t)) := (Below.refl _ w1).alloc (Nat.le_refl _) _
  exact (sp_leaf0 (h.below hB) (In8.of_sl hS (by omega)) 1 1).mono fun e w' ⟨k, q1, ⟨q2, _⟩, _⟩ => ⟨k, q1, q2⟩
theorem lg_setval (w w1 : World) (k x y k2 : Nat) (h : StoreP NoB w w1 [lgN k x 0 false [], lgK k2 y]) : Calls Tryz.prog 52 #[.pointer (some ⟨k, 0, none⟩), .int .u64 1, .int .u64 1] w1 fun e w' => e = .returned (.int .i64 0) ∧ StoreP NoB w w' [lgN k x 1 true [], lgK k2 y] :=
  (sp_setval h (i := 0) (p := lgN k x 0 false []) rfl 1 1 (by simp [lgN])).mono fun e w' ⟨q1, q2, _⟩ => ⟨q1, q2⟩
theorem lg_setkid (w w1 : World) (k x y k2 : Nat) (h : StoreP NoB w w1 [lgN k x 1 true [], lgK k2 y]) : Calls Tryz.prog 53 #[.pointer (some ⟨k, 0, none⟩), .int .u64 1, .int .u8 0, .pointer (some ⟨k2, 0, none⟩)] w1 fun e w' => e = .returned (.int .i64 0) ∧ StoreP NoB w w' [lgN k x 1 true [(0, .pointer (some ⟨k2, 0, none⟩))], lgK k2 y] :=
  (sp_setkid h (i := 0) (p := lgN k x 1 true []) rfl (l := []) rfl 1 (by simp [lgN]) 0 (by omega) _).mono fun e w' ⟨q1, q2, _⟩ => ⟨q1, q2⟩
theorem lg_tree (k x y k2 : Nat) : TreeV [lgN k x 1 true [(0, .pointer (some ⟨k2, 0, none⟩))], lgK k2 y] (lgT x y 1) (.pointer (some ⟨k, 0, none⟩)) :=
  Or.inr ⟨trivial, 0, _, Nat.le_refl _, rfl, rfl, rfl, rfl, rfl, rfl, _, _, rfl, ⟨1, _, by omega, rfl, rfl, rfl, rfl, rfl, rfl, rfl⟩, rfl⟩
theorem lg_prs {w : World} {p1 p2 : Option Addr} {n1 n2 c1 c2 : Nat} {k1 k2 : List Nat} (h1 : Sl w p1 n1 c1 k1) (h2 : Sl w p2 n2 c2 k2) (t : TypeId) : Prs (w.alloc (.cells #[.slice p1 n1 c1, .int .u64 0, .slice p2 n2 c2, .int .u64 0] t)) (some ⟨w.heap.size, 0, none⟩) 2 2 [(k1, 0), (k2, 0)] := by
  obtain ⟨w3, h3⟩ : ∃ w3, w3 = w.alloc (.cells #[.slice p1 n1 c1, .int .u64 0, .slice p2 n2 c2, .int .u64 0] t) := ⟨_, rfl⟩
  rw [← h3]
  have b3 : Below w.heap.size w w3 := by rw [h3]; exact (Below.refl _ _).alloc (Nat.le_refl _) _
  have s3 : w3.heap.size = w.heap.size + 1 := by rw [h3]; simp
  have hb : w3.heap[w.heap.size]? = some (.cells ([.slice p1 n1 c1, .int .u64 0, .slice p2 n2 c2, .int .u64 0] : List Value).toArray t (0, 0)) := by rw [h3, heap_alloc_new]
  refine ⟨rfl, Nat.le_refl _, by unfold maxLen; omega, by simp, by simp, fun i hi => ⟨_, rfl, ?_⟩⟩
  have hi2 : i = 0 ∨ i = 1 := by simp at hi; omega
  rcases hi2 with rfl | rfl
  · refine ⟨by rw [add0]; show w.heap.size < _; omega, p1, n1, c1, ?_, ?_, h1.below b3⟩
    · rw [add0, cell_of_blk hb]; rfl
    · rw [add0]; show w3.cell? ⟨w.heap.size, 0 * 2 + 1, none⟩ = _; rw [cell_of_blk hb]; rfl
  · refine ⟨by rw [add0]; show w.heap.size < _; omega, p2, n2, c2, ?_, ?_, h2.below b3⟩
    · rw [add0, cell_of_blk hb]; rfl
    · rw [add0]; show w3.cell? ⟨w.heap.size, 1 * 2 + 1, none⟩ = _; rw [cell_of_blk hb]; rfl
/-- the two pairs, made in either order -/
theorem lg_prsA (w : World) (x y z : Nat) (hz : z = x + 1 + y) (hl : z ≤ 200000) (t u : TypeId) : Prs (((w.alloc (.cells (Array.replicate x (.int .u8 0)) u)).alloc (.cells (Array.replicate z (.int .u8 0)) u)).alloc (.cells #[.slice (some ⟨w.heap.size, 0, none⟩) x x, .int .u64 0, .slice (some ⟨w.heap.size + 1, 0, none⟩) z z, .int .u64 0] t)) (some ⟨w.heap.size + 1 + 1, 0, none⟩) 2 2 (lgL x y 0) := by
  have h1 := sl_nul w x u (by omega)
  have h2 := sl_nul (w.alloc (.cells (Array.replicate x (.int .u8 0)) u)) z u hl
  have b := (Below.refl (w.alloc (.cells (Array.replicate x (.int .u8 0)) u)).heap.size (w.alloc (.cells (Array.replicate x (.int .u8 0)) u))).alloc (Nat.le_refl _) (.cells (Array.replicate z (.int .u8 0)) u)
  have h := lg_prs (h1.below b) h2 t
  rw [hz] at h ⊢
  show Prs _ _ _ _ [(nul x, 0), (nul (x + 1 + y), 0)]
  simpa using h
theorem lg_prsB (w : World) (x y z : Nat) (hz : z = x + 1 + y) (hl : z ≤ 200000) (t u : TypeId) : Prs (((w.alloc (.cells (Array.replicate z (.int .u8 0)) u)).alloc (.cells (Array.replicate x (.int .u8 0)) u)).alloc (.cells #[.slice (some ⟨w.heap.size + 1, 0, none⟩) x x, .int .u64 0, .slice (some ⟨w.heap.size, 0, none⟩) z z, .int .u64 0] t)) (some ⟨w.heap.size + 1 + 1, 0, none⟩) 2 2 (lgL x y 0) := by
  have h1 := sl_nul w z u hl
  have h2 := sl_nul (w.alloc (.cells (Array.replicate z (.int .u8 0)) u)) x u (by omega)
  have b := (Below.refl (w.alloc (.cells (Array.replicate z (.int .u8 0)) u)).heap.size (w.alloc (.cells (Array.replicate z (.int .u8 0)) u))).alloc (Nat.le_refl _) (.cells (Array.replicate x (.int .u8 0)) u)
  have h := lg_prs h2 (h1.below b) t
  rw [hz] at h ⊢
  show Prs _ _ _ _ [(nul x, 0), (nul (x + 1 + y), 0)]
  simpa using h
/-- the tree that was built, in later worlds -/
structure LgB (w : World) (v : Value) : Prop where
  fine : ∀ X, Below w.heap.size w X → Calls Tryz.prog 16 #[v] X (belowPost (.bool true) X)
  depth : ∀ X, Below w.heap.size w X → Calls Tryz.prog 17 #[v] X (belowPost (.int .i64 2) X)
def LgPost (z : Nat) (w : World) (e : Ending) (w' : World) : Prop := (if 65535 < z then e = .returned (.tuple #[.pointer none, .int .i64 8]) else ∃ v, e = .returned (.tuple #[v, .int .i64 0]) ∧ LgB w' v) ∧ Below w.heap.size w w'
theorem lg_build (w W : World) (x y z : Nat) (hz : z = x + 1 + y) (g : Nat) (hb : Below w.heap.size w W) (h : Prs W (some ⟨g, 0, none⟩) 2 2 (lgL x y 0)) : Calls Tryz.prog 10 #[.pointer none, .int .u64 1, .slice (some ⟨g, 0, none⟩) 2 2] W (LgPost z w) := by
  unfold LgPost
  by_cases hl : 65535 < z
  · simp only [if_pos hl]
    exact (canon_build_err 1 W _ 2 2 _ h (lg_far x y (by omega))).mono fun e w' ⟨q1, q2⟩ => ⟨q1, hb.trans (q2.mono hb.size)⟩
  · simp only [if_neg hl]
    refine (canon_build 1 (by omega) W _ 2 2 _ h (lg_srt x y) (by intro k hk; simp [lgL] at hk; rcases hk with rfl | rfl <;> (show (nul _).length ≤ _; rw [nul_len]; omega))).mono fun e w' ⟨t, v, Q, q1, q2, q3, q4, q5, q6⟩ => ?_
    have hN : IsN t := q3.node (by rw [q6]; simp [lgL])
    obtain rfl : t = lgT x y 0 := can_eq hN trivial q4 (lg_ok x y (by omega) (by omega)) q5 (lg_can x y 0) (q6.trans (lg_tl x y 0).symm)
    obtain ⟨a, rfl⟩ : ∃ a, v = some a := by
      rcases q3 with ⟨h, _⟩ | ⟨_, hT⟩
      · cases h
      · obtain ⟨i, p, h0, h1, h2, _⟩ := hT
        exact ⟨_, by simpa using h2⟩
    have hle : x + 1 + y ≤ 65535 := by omega
    refine ⟨⟨_, q1, fun X hX => ?_, fun X hX => ?_⟩, hb.trans (q2.below_.mono hb.size)⟩
    · have := fine_any (q2.below hX) q3 q4 (by rw [lg_way]; omega) (by simp [lgT, tv, fnT])
      rw [lg_fine, decide_eq_true hle] at this
      exact this
    · exact depth_any 2 (by omega) (lgT x y 0) (Nat.le_of_eq (lg_dep x y 0)) (q2.below hX) q3 q4
end Go.Proofs.YtfhdiimcimafkaaGreatDoor
/- canon.Build, where a meter counts; what a law reads of the tree that was made. -/
namespace Go.Proofs.YtfhdiimcimafkaaGreatDoor
open Go.RowKit
def BuiltM (l : PL) (mb : Nat) (x : Int) (w : World) (e : Ending) (w' : World) : Prop :=
  ∃ (t : Tr) (a : Option Addr) (Q : List NP), e = .returned (.tuple #[.pointer a, .int .i64 0]) ∧ NM mb w w' Q (x + (tsz t : Nat)) ∧ TreeV Q t (.pointer a) ∧ TOk t ∧ Can t ∧ tl t = l
set_option maxHeartbeats 1000000 in
theorem canon_buildM (mb : Nat) (o : Int) (ho : o ≠ 0) (w : World) (a : Option Addr) (n c : Nat) (l : PL) (x0 : Int) (h : PrsM mb w a n c l) (hs : PSrt l) (hk : ∀ x ∈ l, x.1.length ≤ 65535) (hmb : mb < w.heap.size) (hmt : Met w mb x0) (hx0 : 0 ≤ x0) (hxb : x0 + 3 * (l.length : Nat) ≤ 4611686018427387904) :
    Calls Tryz.prog 10 #[.pointer (some ⟨mb, 0, none⟩), .int .u64 o, .slice a n c] w (BuiltM l mb x0 w) := by
  have hC := canon_check w a n c l h.prs
  rw [chkE_ok hs hk] at hC
  replace hC := Lib.hid hC
  have hT : Hid (∀ w', Below w.heap.size w w' → Calls Tryz.prog 33 #[.agg #[.pointer (some ⟨mb, 0, none⟩), .int .u64 o], .slice a n c, .int .i64 0] w' fun e w'' => ∃ (t : Tr) (a : Option Addr) (Q : List NP), e = .returned (.pointer a) ∧ NM mb w w'' Q (x0 + (tsz t : Nat)) ∧ TreeV Q t (.pointer a) ∧ TOk t ∧ Can t ∧ tl t = l) := fun w' hw' => by
    have hmt' := hmt.below hw' hmb
    by_cases h0 : l = []
    · subst h0
      obtain rfl : n = 0 := h.len.symm
      have hst : Hid (∀ o', NM mb w (w'.alloc o') [] x0) := fun o' => ⟨hmb, StoreP.nil _ (Mod.of_below (hw'.alloc hw'.size _)), (hmt'.below ((Below.refl _ w').alloc (Nat.le_refl _) _) (Nat.lt_of_lt_of_le hmb hw'.size))⟩
      clear hC h hs hk hmt hx0 hxb hmt' hw'
      go_enter Tryz.func33, Tryz.ntmps33
      go_wp2_with fail
      go_ret
      exact ⟨.nil, none, [], rfl, by simpa [tsz] using hst.out _, Or.inl ⟨rfl, rfl⟩, trivial, trivial, rfl⟩
    · have := maker_treeM mb o ho l.length l [] a n c w' x0 (Nat.le_refl _) h0 (by rw [pre_none]; exact h.below hw') hs (by rw [pre_none]; exact hk) (Nat.lt_of_lt_of_le hmb hw'.size) hmt' hx0 hxb
      refine Calls.mono this ?_
      rintro e w'' ⟨t, k, Q, rfl, q1, q2, q3, q4, q5, q6⟩
      exact ⟨t, some ⟨k, 0, none⟩, Q, rfl, q1.rebase (Mod.of_below hw') hmb, Or.inr ⟨q3, q2⟩, q4, q5, q6⟩
  clear h hs hk hmt hx0 hxb
  go_enter Tryz.func10, Tryz.ntmps10
  go_wp2_with (first | (go_at_call 33; refine (hT.out _ B.out).mono ?_; rintro e w2 ⟨t, a2, Q, rfl, q⟩; have q := Lib.hid q) | (go_at_call 32; refine hC.out.mono ?_; rintro e w1 ⟨rfl, hb⟩; have B := Lib.hid hb; clear hb))
  go_ret2
  exact ⟨t, a2, Q, rfl, q.out⟩
set_option maxHeartbeats 1000000 in
/-- pairs that may not be, whoever counts -/
theorem canon_build_errM (mv : Option Addr) (o : Int) (w : World) (a : Option Addr) (n c : Nat) (l : PL) (h : Prs w a n c l) (E : Int) (hE : chkE l = E) (h0 : (E == 0) = false) : Calls Tryz.prog 10 #[.pointer mv, .int .u64 o, .slice a n c] w fun e w' => e = .returned (.tuple #[.pointer none, .int .i64 E]) ∧ Below w.heap.size w w' := by
  have hC := canon_check w a n c l h
  rw [hE] at hC
  replace hC := Lib.hid hC
  clear h hE
  go_enter Tryz.func10, Tryz.ntmps10
  go_wp2_with (first | (go_at_call 32; refine hC.out.mono ?_; rintro e w1 ⟨rfl, hb⟩; have B := Lib.hid hb; clear hb))
  go_ret2
  exact ⟨rfl, B.out⟩
/-- the nodes, seen from ahead of the meter -/
theorem NM.free {mb : Nat} {w0 w w' : World} {P : List NP} {x : Int} (h : NM mb w w' P x) (hb : Below w0.heap.size w0 w) (hm : w0.heap.size ≤ mb) : StoreP NoB w0 w' P := by
  obtain ⟨_, ⟨L, e, h⟩, _⟩ := h
  have hs := hb.size
  have hm2 := h.mod
  refine ⟨L, e, h.here, h.fit, fun i d hd j hj => Nat.le_trans hs (h.new i d hd j hj), fun i d hd j hj => Nat.le_trans hs (h.gen i d hd j hj), h.apart, h.read, ?_⟩
  refine ⟨hm2.os.trans hb.os, hm2.tape.trans hb.tape, hm2.output.trans hb.output, Nat.le_trans hs hm2.size, fun j hj _ => ?_⟩
  exact (hm2.same j (by omega) (by omega)).trans (hb.block j hj)
end Go.Proofs.YtfhdiimcimafkaaGreatDoor
/- What the laws of canon ask of pairs: whether they are too many; the same pairs. -/
namespace Go.Proofs.YtfhdiimcimafkaaGreatDoor
open Go.RowKit
/-- pairs that were laid since w; their keys are of wB -/
def PL2 (ty : Nat) (wB w : World) (v : Value) (l : PL) (wr : World) : Prop := ∃ es bo, OwnS 2 ty wr v l.length (flat es) bo ∧ Ents wB es l ∧ (bo = none ∨ ∃ g, bo = some g ∧ w.heap.size ≤ g) ∧ Below w.heap.size w wr
theorem PL2.nil (ty : Nat) (wB w : World) : PL2 ty wB w (.slice none 0 0) [] w := ⟨[], none, OwnS.nil _ _ _, ents_nil wB, Or.inl rfl, Below.refl _ _⟩
theorem PL2.below {ty : Nat} {wB w wr w' : World} {v : Value} {l : PL} (h : PL2 ty wB w v l wr) (hb : Below wr.heap.size wr w') : PL2 ty wB w v l w' := by
  obtain ⟨es, bo, h1, h2, h3, h4⟩ := h
  exact ⟨es, bo, h1.below hb, h2, h3, h4.trans (hb.mono h4.size)⟩
theorem PL2.below_ {ty : Nat} {wB w wr : World} {v : Value} {l : PL} (h : PL2 ty wB w v l wr) : Below w.heap.size w wr := by
  obtain ⟨_, _, _, _, _, h⟩ := h; exact h
theorem PL2.ask {ty : Nat} {wB w wr : World} {v : Value} {l : PL} (h : PL2 ty wB w v l wr) {a3 : Option Addr} {n3 c3 : Nat} {x : List Nat} {y : Int} (hs : Sl wB a3 n3 c3 x) (hv : 0 ≤ y ∧ y < 18446744073709551616) (t2 : TypeId) (w0 : World) (h0 : Below wr.heap.size wr w0) :
    ∃ es bo, OwnS 2 ty w0 v l.length (flat es) bo ∧ ∀ v1 w1 bo1, OwnS 2 ty w1 v1 (l.length + 1) (flat es ++ [.slice a3 n3 c3, .int .u64 y]) bo1 → Mod (fun k => bo = some k) w0 w1 → NewOr w0 bo bo1 → PL2 ty wB w v1 (l ++ [(x, y)]) w1 := by
  obtain ⟨es, bo, h1, h2, h3, h4⟩ := h.below h0
  refine ⟨es, bo, h1, fun v1 w1 bo1 q1 q2 q3 => ⟨es ++ [(.slice a3 n3 c3, y)], bo1, ?_, h2.snoc ⟨⟨_, _, _, rfl, hs⟩, rfl, hv⟩, q3.since h3 h4.size, h4.trans (q2.sinceOf h3 h4.size)⟩⟩
  rw [flat_append, List.length_append]
  exact q1
/-- those pairs, apart from a meter that was made between -/
theorem PL2.prsM {ty mb : Nat} {wB w wr : World} {v : Value} {l : PL} (h : PL2 ty wB w v l wr) (hB : Below wB.heap.size wB w) (h1 : wB.heap.size ≤ mb) (h2 : mb < w.heap.size) : ∃ a c, v = .slice a l.length c ∧ PrsM mb wr a l.length c l := by
  obtain ⟨es, bo, ho, he, hbo, hb⟩ := h
  have hBr : Below wB.heap.size wB wr := hB.trans (hb.mono hB.size)
  obtain ⟨a, c, rfl, hp⟩ := prs_of_own ho (he.below hBr)
  refine ⟨a, c, rfl, hp, fun i hi => ?_⟩
  obtain ⟨h', ⟨⟨a3, n3, c3, q1, q2⟩, q3, _⟩⟩ := he.at_ hi
  have hel : es.length = l.length := he.1
  obtain ⟨g, cap, e0, e1, q4, _⟩ := ho.at_ (j := i * 2) (by omega)
  obtain ⟨g2, cap2, e2, _, q5, _⟩ := ho.at_ (j := i * 2 + 1) (by omega)
  subst e0
  obtain rfl : g = g2 := by simpa using e2
  obtain ⟨f1, f2⟩ := flat_get es i h'
  rw [f1, q1] at q4
  rw [f2, q3] at q5
  have ea : a = some ⟨g, 0, none⟩ := by injection e1
  have hg : w.heap.size ≤ g := by
    rcases hbo with e | ⟨g', e, hg⟩
    · cases e
    · cases e; exact hg
  refine ⟨⟨g, 0, none⟩, ea, by show g ≠ mb; omega, ?_, a3, n3, c3, ?_, ?_, ?_, ?_⟩
  · rw [add_block]; exact ho.lt
  · rw [add0]; exact q4
  · rw [add0, getD_of_lt hi]; exact q5
  · rw [getD_of_lt hi]; exact q2.below hBr
  · intro hne q hq
    rw [getD_of_lt hi] at hne
    obtain ⟨r, e2, h3, _⟩ := q2.at_.2 0 (by cases hx : (l[i]).1 with
      | nil => exact absurd hx hne
      | cons x y => simp)
    rw [hq] at e2
    cases e2
    rw [add_block] at h3
    omega
set_option maxHeartbeats 1000000 in
theorem far_13 (w : World) (a : Option Addr) (n c : Nat) (l : PL) (h : Prs w a n c l) (m : Nat) (hm : m ≤ 100000) : Calls Tryz.prog 7 #[.slice a n c, .int .i64 (m : Nat)] w (farPost (decide (m < n) || farL 300 l) w) := by
  have hB0 : Hid (Below w.heap.size w w) := Below.refl _ _
  by_cases h1 : m < n
  · have e : (decide (m < n) || farL 300 l) = true := by simp [h1]
    have h2 : (m : Int) < (n : Int) := by omega
    rw [e]
    clear h e
    go_enter Tryz.func7, Tryz.ntmps7
    go_wp2_with fail
    go_ret
    exact ⟨rfl, hB0.out⟩
  · have h2 : ¬ (m : Int) < (n : Int) := by omega
    have e : (decide (m < n) || farL 300 l) = farL 300 l := by simp [h1]
    rw [e]
    have H := Lib.hid h
    obtain ⟨V, hV⟩ : ∃ V, V = farL 300 l := ⟨_, rfl⟩
    have HV := Lib.hid hV
    have hl := Lib.hid h.len
    have hn : n ≤ 100000 := by omega
    rw [← hV]
    clear h e hV h1
    go_enter Tryz.func7, Tryz.ntmps7
    go_wp2_with fail
    go_loopw [13] (fun vi wr => ∃ i : Nat, vi = .int .i64 (i : Nat) ∧ i ≤ n ∧ Hid (∀ j, j < i → (l.getD j ([], 0)).1.length ≤ 300) ∧ Hid (Below w.heap.size w wr)) (fun vi _ => (n - intOf vi).toNat)
    case atStart => exact ⟨0, rfl, by omega, fun j hj => absurd hj (by omega), hB0⟩
    case round =>
      clear hB0
      obtain ⟨i, rfl, hi, hA, hB⟩ := hrel
      by_cases hlt : i < n
      · have hlt2 : (i : Int) < (n : Int) := by omega
        obtain ⟨p, rfl, q⟩ := (H.out.below hB.out).at_ i (by rw [hl.out]; exact hlt)
        obtain ⟨a3, n3, c3, q1, q2, q3⟩ := q.cells
        have hl3 := Lib.hid q3.len
        generalize (l.getD i ([], 0)).2 = v at *
        clear q q3
        by_cases hx : 300 < n3
        · have hx2 : (300 : Int) < (n3 : Int) := by omega
          have hR : Hid (true = V) := by show _ = _; rw [HV.out, farL_at (i := i) (by rw [hl.out]; exact hlt) (by rw [hl3.out]; exact hx)]
          clear hl3 hx
          go_wp2_with fail
          go_ret
          rw [← hR.out]
          exact ⟨rfl, (hB.out.alloc hB.out.size _)⟩
        · have hx2 : ¬ (300 : Int) < (n3 : Int) := by omega
          have hA2 : Hid (∀ j, j < i + 1 → (l.getD j ([], 0)).1.length ≤ 300) := fun j hj => by
            by_cases e : j = i
            · rw [e, hl3.out]; omega
            · exact hA.out j (by omega)
          clear hl3 hx hA
          go_wp2_with fail
          go_roundw
          case rel => exact ⟨i + 1, (by first | rfl | go_num), by omega, hA2, hB.out.alloc hB.out.size _⟩
          case measure => (simp [intOf]) <;> omega
      · have hlt2 : ¬ (i : Int) < (n : Int) := by omega
        obtain rfl : i = n := by omega
        have hR : Hid (false = V) := by show _ = _; rw [HV.out, farL_no (fun j hj => hA.out j (by rw [← hl.out]; exact hj))]
        clear hA
        go_wp2_with fail
        go_ret
        rw [← hR.out]
        exact ⟨rfl, hB.out⟩
set_option maxHeartbeats 1000000 in
set_option maxRecDepth 100000 in
theorem law_pairs (wB w : World) (hBw : Below wB.heap.size wB w) (a : Option Addr) (n c : Nat) (l : PL) (h : Prs wB a n c l) (hn : n ≤ 100000) :
    Calls Tryz.prog 11 #[.slice a n c] w fun e w' => ∃ v, e = .returned v ∧ PL2 apT wB w v l w' := by
  have H := Lib.hid h
  have hl := Lib.hid h.len
  have HB := Lib.hid hBw
  have h0 := Lib.hid (PL2.nil apT wB w)
  clear h hBw
  go_enter Tryz.func11, Tryz.ntmps11
  go_wp2_with fail
  go_loopw [8, 3] (fun vi v3 wr => ∃ i : Nat, vi = .int .i64 (i : Nat) ∧ i ≤ n ∧ Hid (PL2 apT wB w v3 (l.take i) wr)) (fun vi _ _ => (n - intOf vi).toNat)
  case atStart => exact ⟨0, rfl, by omega, h0⟩
  case round =>
    clear h0
    obtain ⟨i, rfl, hi, hP⟩ := hrel
    by_cases hlt : i < n
    · have hlt2 : (i : Int) < (n : Int) := by omega
      have hlt3 : i < l.length := by rw [hl.out]; exact hlt
      obtain ⟨p, a3, n3, c3, rfl, q1, q2, q3⟩ := prs_row H.out hlt
      have B := HB.out.trans (hP.out.below_.mono HB.out.size)
      have q1 := (B.cell (cell_lt q1)).trans q1
      have q2 := (B.cell (p := ⟨(p.add (i * 2)).block, (p.add (i * 2)).off + 1, none⟩) (cell_lt q2)).trans q2
      have hv := H.out.val (l.getD i ([], 0)) (mem_getD hlt3)
      have e1 : l.take i ++ [((l.getD i ([], 0)).1, (l.getD i ([], 0)).2)] = l.take (i + 1) := by rw [List.take_succ_eq_append_getElem hlt3, getD_of_lt]
      have e2 : (l.take i).length = i := by rw [List.length_take]; omega
      have hask := fun o1 o2 => hP.out.ask (y := (l.getD i ([], 0)).2) q3 hv 31 ((wr.alloc o1).alloc o2) (((Below.refl _ wr).alloc (Nat.le_refl _) _).alloc (by simp) _)
      rw [e1, e2] at hask
      generalize (l.getD i ([], 0)).2 = y at *
      obtain ⟨es, bo, ho, hfin⟩ := hask (.cells #[.slice a3 n3 c3, .int .u64 y] kpT) (.cells #[.slice a3 n3 c3, .int .u64 y] apT)
      have hfin := Lib.hid hfin
      have ho := Lib.hid ho
      have hnews := pair_news (wr.alloc (.cells #[.slice a3 n3 c3, .int .u64 y] kpT)) (.slice a3 n3 c3) y apT
      rw [World.size_alloc] at hnews
      have hnews := Lib.hid hnews
      have hb1 : Hid (i + 1 ≤ maxLen) := by show _ ≤ _; unfold maxLen; omega
      have hb2 : Hid ((i + 1) * 32 ≤ 140737488355328) := by show _ ≤ _; omega
      have h1 := Lib.hid (oneP (a := a3) (n := n3) (c := c3) (y := y))
      have hw9 : IntKind.i64.wrap (((i : Nat) : Int) + 1) = ((i + 1 : Nat) : Int) := by rw [show ((i : Nat) : Int) + 1 = ((i + 1 : Nat) : Int) by omega]; exact IntWalk.i64_in _ (by omega)
      clear q3 hv B e1 e2 hask
      go_wp2_with (at_builtin; go_loud (refine wpList_append_s rfl (.tmp 12) (.tmp 14) 31 rfl apT _ 2 32 Tryz.underlying31 apInfo rfl (by omega) u3 rfl i (flat es) bo ho.out ⟨wr.heap.size + 1, 0, none⟩ 1 1 [.slice a3 n3 c3, .int .u64 y] rfl rfl hnews.out h1.out hb1.out hb2.out ?_); intro v1 w1 bo1 HO HM HN)
      have hP2 := Lib.hid (hfin.out v1 w1 bo1 HO.out HM.out HN.out)
      go_roundw
      case rel => exact ⟨i + 1, (by first | rfl | go_num), by omega, hP2⟩
      case measure => (simp [intOf]) <;> omega
    · have hlt2 : ¬ (i : Int) < (n : Int) := by omega
      obtain rfl : i = n := by omega
      have hP2 := hP.out
      rw [List.take_of_length_le (by rw [hl.out]; exact Nat.le_refl _)] at hP2
      have hP3 := Lib.hid hP2
      clear hP2
      go_wp2_with fail
      go_ret
      exact ⟨_, rfl, hP3.out⟩
end Go.Proofs.YtfhdiimcimafkaaGreatDoor
/- Of canonical trees: fewer inner nodes than keys; how many nodes; how deep. No program. -/
namespace Go.Proofs.YtfhdiimcimafkaaGreatDoor
open Go.RowKit
/-- how many inner nodes -/
def inn : Tr → Nat
  | .nil => 0
  | .kid _ t r => inn t + inn r
  | .node _ _ _ leaf ks => (if leaf then 0 else 1) + inn ks
theorem pt_len : ∀ (t : Tr) (k : List Nat), (tv ptT t k).length = inn t
  | .nil, k => rfl
  | .kid b t r, k => by simp only [tv, inn, List.length_append, pt_len t, pt_len r]
  | .node bs v has leaf ks, k => by
    simp only [tv, inn, List.length_append, pt_len ks, ptT]
    cases leaf <;> simp
theorem can_bnd : ∀ (t : Tr), TOk t → Can t → (IsN t → inn t + 1 ≤ (tl t).length ∧ tsz t ≤ inn t + (tl t).length) ∧ (IsK t → inn t + (chain t).length ≤ (tl t).length ∧ tsz t ≤ inn t + (tl t).length)
  | .nil, _, _ => ⟨fun h => h.elim, fun _ => by simp [tsz, inn, chain]⟩
  | .kid b t r, ⟨o1, o2, o3, o4, o5, o6⟩, ⟨c1, c2⟩ => by
    refine ⟨fun h => h.elim, fun _ => ?_⟩
    have h1 := (can_bnd t o3 c1).1 o2
    have h2 := (can_bnd r o5 c2).2 o4
    simp only [tsz, inn, chain, tl, List.length_append, List.length_cons, pre, List.length_map]
    omega
  | .node bs v has leaf ks, ⟨o1, o2, o3, o4, o5, o6, o7⟩, ⟨c1, c2⟩ => by
    refine ⟨fun _ => ?_, fun h => h.elim⟩
    have h2 := (can_bnd ks o7 c1).2 o6
    simp only [tsz, inn, tl, List.length_append, pre, List.length_map]
    cases leaf with
    | true =>
      obtain ⟨e1, e2⟩ := o5 rfl
      subst e1; subst e2
      simp [tsz, tl, inn]
    | false =>
      have h3 := c2 rfl
      cases has with
      | true => simp at h3 ⊢; omega
      | false => simp at h3 ⊢; omega
theorem dep_way : ∀ (t : Tr), TOk t → (IsN t → tdep t ≤ tway t + 1) ∧ (IsK t → tdep t ≤ tway t)
  | .nil, _ => ⟨fun h => h.elim, fun _ => Nat.le_refl _⟩
  | .kid b t r, ⟨o1, o2, o3, o4, o5, o6⟩ => by
    refine ⟨fun h => h.elim, fun _ => ?_⟩
    have h1 := (dep_way t o3).1 o2
    have h2 := (dep_way r o5).2 o4
    simp only [tdep, tway]
    omega
  | .node bs v has leaf ks, ⟨o1, o2, o3, o4, o5, o6, o7⟩ => by
    refine ⟨fun _ => ?_, fun h => h.elim⟩
    have h2 := (dep_way ks o7).2 o6
    simp only [tdep, tway]
    omega
theorem can_dep {t : Tr} (h : IsN t) (ho : TOk t) (hc : Can t) {K : Nat} (hk : ∀ p ∈ tl t, p.1.length ≤ K) : tdep t ≤ K + 1 := by
  have := (dep_way t ho).1 h
  have := way_key t K ho hc hk
  omega
end Go.Proofs.YtfhdiimcimafkaaGreatDoor
/- law CanonBounds: the walk. -/
namespace Go.Proofs.YtfhdiimcimafkaaGreatDoor
open Go.RowKit
theorem far_c {m n : Nat} {l : PL} (h : (decide (m < n) || farL 300 l) = false) : n ≤ m ∧ ∀ x ∈ l, x.1.length ≤ 300 := by
  simp only [Bool.or_eq_false_iff, decide_eq_false_iff_not] at h
  refine ⟨by omega, fun x hx => ?_⟩
  have := h.2
  unfold farL at this
  rw [List.any_eq_false] at this
  have := this x hx
  simp at this
  exact this
theorem SrtI.shortC {l l0 : PL} {i m : Nat} (h : SrtI l i l0) (hk : ∀ x ∈ l, x.1.length ≤ m) : ∀ x ∈ l0, x.1.length ≤ m := fun x hx => by
  obtain ⟨z, hz, e⟩ := h.keys x hx
  rw [← e]; exact hk z hz
/-- what the law asks of the tree that was made, in every later world -/
structure BdB (mb p d m : Nat) (z : Int) (w : World) (v : Value) : Prop where
  points : ∀ X, Below w.heap.size w X → Calls Tryz.prog 12 #[v] X fun e w' => ∃ a c, e = .returned (.slice a p c) ∧ Below X.heap.size X w'
  depth : ∀ X, Below w.heap.size w X → Calls Tryz.prog 17 #[v] X (belowPost (.int .i64 (d : Nat)) X)
  count : ∀ X, Below w.heap.size w X → Calls Tryz.prog 18 #[v] X (belowPost (.int .i64 (m : Nat)) X)
  met : ∀ X, Below w.heap.size w X → Calls Tryz.prog 28 #[.pointer (some ⟨mb, 0, none⟩)] X fun e w' => e = .returned (.int .i64 z) ∧ X = w'
theorem bdb_of {mb : Nat} {wB w w' : World} {P : List NP} {t : Tr} {a : Option Addr} {l : PL} (hN : NM mb w w' P (0 + (tsz t : Nat))) (hb : Below wB.heap.size wB w) (hm : wB.heap.size ≤ mb) (hT : TreeV P t (.pointer a)) (hO : TOk t) (hC : Can t) (he : tl t = l) (hl : l ≠ []) (hn : l.length ≤ 300) (hk : ∀ x ∈ l, x.1.length ≤ 300) :
    ∃ (p d : Nat) (z : Int), p < l.length ∧ z ≤ ((p + l.length : Nat) : Int) ∧ p ≤ 1000 ∧ d ≤ 1000 ∧ (∀ K, (∀ x ∈ l, x.1.length ≤ K) → d ≤ K + 1) ∧ BdB mb p d l.length z w' (.pointer a) := by
  have hNN : IsN t := hT.node (by rw [he]; exact hl)
  have hQ := hN.free hb hm
  have hb1 := (can_bnd t hO hC).1 hNN
  rw [he] at hb1
  have hway : tway t ≤ 300 := way_key t 300 hO hC (by rw [he]; exact hk)
  have hdep : ∀ K, (∀ x ∈ l, x.1.length ≤ K) → tdep t ≤ K + 1 := fun K h => can_dep hNN hO hC (by rw [he]; exact h)
  have hd := hdep 300 hk
  refine ⟨inn t, tdep t, 0 + ((tsz t : Nat) : Int), by omega, by omega, by omega, by omega, hdep, fun X hX => ?_, fun X hX => ?_, fun X hX => ?_, fun X hX => ?_⟩
  · refine (pts_any (hQ.below hX) hT hO (by omega) (by rw [pt_len]; omega)).mono ?_
    rintro e w' ⟨a, c, q1, _, q2⟩
    rw [pt_len] at q1
    exact ⟨a, c, q1, q2⟩
  · exact depth_any 1000 (by omega) t (by omega) (hQ.below hX) hT hO
  · have h := count_any (hQ.below hX) hT hO (by omega) (by rw [he]; omega)
    rw [he] at h
    exact h
  · exact count_is X mb 0 _ ((hN.2.2.below hX (Nat.lt_of_lt_of_le hN.1 hN.2.1.size)).cell)
set_option maxHeartbeats 4000000 in
set_option maxRecDepth 100000 in
theorem law_bounds (w : World) (a : Option Addr) (n c : Nat) (l : PL) (h : Prs w a n c l) (hP : PTab w) :
    Calls Tryz.prog 6 #[.slice a n c] w (belowPost (.bool true) w) := by
  have hAl : Hid (∀ X, Below w.heap.size w X → Calls Tryz.prog 8 #[] X (belowPost (.bool true) X)) := fun X hX => alive13 X (hP.below hX)
  have hfar := Lib.hid (far_13 w a n c l h 200 (by omega))
  cases hfc : (decide (200 < n) || farL 300 l) with
  | true =>
    rw [hfc] at hfar
    clear h hP hfc
    go_enter Tryz.func6, Tryz.ntmps6
    go_wp2_with (first
      | (go_at_call 8; refine (hAl.out _ B1.out).mono ?_; rintro e w2 ⟨rfl, z⟩; have B2 := Lib.hid (B1.out.trans (z.mono B1.out.size)); clear z)
      | (go_at_call 7; refine hfar.out.mono ?_; rintro e w1 ⟨rfl, z⟩; have B1 := Lib.hid z; clear z))
    go_ret
    exact ⟨rfl, B2.out⟩
  | false =>
    rw [hfc] at hfar
    obtain ⟨hn, hk⟩ := far_c hfc
    by_cases h0 : n = 0
    · subst h0
      clear h hP hfc hn hk
      go_enter Tryz.func6, Tryz.ntmps6
      go_wp2_with (first
        | (go_at_call 8; refine (hAl.out _ B1.out).mono ?_; rintro e w2 ⟨rfl, z⟩; have B2 := Lib.hid (B1.out.trans (z.mono B1.out.size)); clear z)
        | (go_at_call 7; refine hfar.out.mono ?_; rintro e w1 ⟨rfl, z⟩; have B1 := Lib.hid z; clear z))
      go_ret
      exact ⟨rfl, B2.out⟩
    · have j0 : ((n : Int) == 0) = false := by rw [beq_eq_false_iff_ne]; omega
      have hso : Hid (∀ X, Below w.heap.size w X → Calls Tryz.prog 9 #[.slice a n c] X fun e w1 => ∃ a1 m c1 l0, e = .returned (.slice a1 m c1) ∧ Prs w1 a1 m c1 l0 ∧ PSrt l0 ∧ 0 < m ∧ m ≤ 200 ∧ (∀ x ∈ l0, x.1.length ≤ 300) ∧ Below X.heap.size X w1) := fun X hX => by
        refine (ref_sort X a n c l (h.below hX) (by omega)).mono ?_
        rintro e w1 ⟨v, l0, rfl, q1, q2⟩
        obtain ⟨a1, c1, rfl, q3⟩ := q1.prs
        have hl := h.len
        have hlen := q2.len
        obtain ⟨y, hy, _⟩ := q2.all 0 (by omega)
        exact ⟨a1, l0.length, c1, l0, rfl, q3, q2.srt, List.length_pos_of_mem hy, by omega, q2.shortC hk, q1.below_⟩
      clear h hP hfc hn hk h0
      go_enter Tryz.func6, Tryz.ntmps6
      go_wp2_with (first
        | (have g0 := B2; go_at_call 11; refine hPr.out.mono ?_; rintro e w5 ⟨v5, rfl, q⟩; obtain ⟨a5, c5, rfl, hpm⟩ := q.prsM hBm.out (Nat.le_refl _) hmlt.out
           have B5 := Lib.hid (hBm.out.trans (q.below_.mono hBm.out.size))
           have hBd := Lib.hid (canon_buildM w2.heap.size 1 (by omega) w5 a5 l0.length c5 l0 0 hpm hsrt.out (fun x hx => by have := hkey.out x hx; omega) (Nat.lt_of_lt_of_le hmlt.out q.below_.size) (hmet.out.below q.below_ hmlt.out) (by omega) (by have := hl0.out; omega))
           have B25 := Lib.hid (hBm.out.trans (q.below_.mono hBm.out.size))
           clear hpm q)
        | (have g0 := B5; go_at_call 10; refine hBd.out.mono ?_; rintro e w6 ⟨t, v6, Q, rfl, q1, q2, q3, q4, q5⟩
           obtain ⟨p, d, z, k1, k2, k3, k4, k5, k6⟩ := bdb_of q1 B25.out (Nat.le_refl _) q2 q3 q4 q5 (by have := hl0.out; intro e; rw [e] at this; simp at this; omega) (by have := hl0.out; omega) hkey.out
           have hz0 := q1.2.1.mod
           have B6 := Lib.hid ((q1.free B25.out (Nat.le_refl _)).below_)
           have K5 := Lib.hid k5
           have K6 := Lib.hid k6
           clear q1 q2 q3 q4 q5 hz0 k5 k6 hBd)
        | (have g0 := B1; go_at_call 9; refine (hso.out _ B1.out).mono ?_; rintro e w2 ⟨a2, m, c2, l0, rfl, q1, q2, q3, q4, q5, q6⟩
           have B2 := Lib.hid (B1.out.trans (q6.mono B1.out.size))
           have hprs := Lib.hid q1
           have hsrt := Lib.hid q2
           have hkey := Lib.hid q5
           have hl0 : Hid (l0.length = m ∧ 0 < m ∧ m ≤ 200) := ⟨q1.len, q3, q4⟩
           have hBm : Hid (Below w2.heap.size w2 (w2.alloc (.cells #[.int .i64 0] 67))) := (Below.refl _ w2).alloc (Nat.le_refl _) _
           have hmlt : Hid (w2.heap.size < (w2.alloc (.cells #[.int .i64 0] 67)).heap.size) := by show _ < _; rw [World.size_alloc]; omega
           have hmet : Hid (Met (w2.alloc (.cells #[.int .i64 0] 67)) w2.heap.size 0) := by show Met _ _ _; unfold Met; rw [heap_alloc_new]
           have hPr := Lib.hid (law_pairs w2 (w2.alloc (.cells #[.int .i64 0] 67)) hBm.out a2 m c2 l0 q1 (by omega))
           clear q1 q2 q3 q4 q5 q6)
        | (go_at_call 7; refine hfar.out.mono ?_; rintro e w1 ⟨rfl, z⟩; have B1 := Lib.hid z; clear z))
      have R6 := Lib.hid (Below.refl w6.heap.size w6)
      have hBr0 : Hid (Below w2.heap.size w2 w6) := B6.out
      have hmi : ((m : Nat) : Int) = (l0.length : Nat) := by rw [hl0.out.1]
      have hm2 : m ≤ 200 := hl0.out.2.2
      go_loopw [28, 6] (fun v28 v6 wr => ∃ (i K : Nat), v28 = .int .i64 (i : Nat) ∧ v6 = .int .i64 (K : Nat) ∧ i ≤ m ∧ K ≤ 300 ∧ Hid (∀ j, j < i → (l0.getD j ([], 0)).1.length ≤ K) ∧ Hid (Below w6.heap.size w6 wr)) (fun v28 _ _ => (m - intOf v28).toNat)
      case atStart => exact ⟨0, 0, rfl, rfl, Nat.zero_le _, Nat.zero_le _, fun j hj => absurd hj (by omega), R6⟩
      case round =>
        clear R6
        obtain ⟨i, K, rfl, rfl, hi, hK3, hA, hBr⟩ := hrel
        have hB2r := Lib.hid (B6.out.trans (hBr.out.mono B6.out.size))
        by_cases hlt : i < m
        · have l1 : (i : Int) < (m : Int) := by omega
          have l0' : (0 : Int) ≤ (i : Int) := by omega
          obtain ⟨p1, a3, n3, c3, rfl, q1, q2, q3⟩ := prs_row (hprs.out.below hB2r.out) hlt
          have hlen := q3.len
          have hk300 := hkey.out _ (mem_getD (l := l0) (i := i) (d := ([], 0)) (by rw [hl0.out.1]; exact hlt))
          obtain ⟨z3, hz3⟩ : ∃ z3, z3 = max K n3 := ⟨_, rfl⟩
          have hmx : max (K : Int) (n3 : Int) = (z3 : Int) := by omega
          have hA2 : Hid (∀ j, j < i + 1 → (l0.getD j ([], 0)).1.length ≤ z3) := fun j hj => by
            by_cases e : j = i
            · subst e; omega
            · have := hA.out j (by omega); omega
          have hz30 : z3 ≤ 300 := by omega
          have hBx : Hid (∀ o, Below w6.heap.size w6 (wr.alloc o)) := fun o => hBr.out.alloc hBr.out.size o
          have hw9 : IntKind.i64.wrap (((i : Nat) : Int) + 1) = ((i + 1 : Nat) : Int) := by rw [show ((i : Nat) : Int) + 1 = ((i + 1 : Nat) : Int) by omega]; exact IntWalk.i64_in _ (by omega)
          generalize (l0.getD i ([], 0)).2 = v9 at *
          clear q3 hlen hk300 hz3 hA hmi
          go_wp2_with fail
          go_roundw
          case rel => exact ⟨i + 1, z3, (by first | rfl | go_num), (by first | rfl | (simp only [hmx])), by omega, hz30, hA2, hBx.out _⟩
          case measure => (simp [intOf]) <;> omega
        · have l1 : ¬ (i : Int) < (m : Int) := by omega
          obtain rfl : i = m := by omega
          have hdK : Hid ((d : Int) ≤ (K : Int) + 1) := by
            have := K5.out K (fun x hx => by
              obtain ⟨j, hj, rfl⟩ := List.getElem_of_mem hx
              have := hA.out j (by rw [← hl0.out.1]; exact hj)
              rw [getD_of_lt hj] at this
              exact this)
            show _ ≤ _
            omega
          have hdK2 : (d : Int) ≤ (K : Int) + 1 := hdK.out
          have hwK : IntKind.i64.wrap ((K : Int) + 1) = (K : Int) + 1 := IntWalk.i64_in _ (by omega)
          have hpl : (p : Int) < (i : Int) := by omega
          have hwp : IntKind.i64.wrap ((p : Int) + (i : Int)) = (p : Int) + (i : Int) := IntWalk.i64_in _ (by omega)
          have hzl : z ≤ (p : Int) + (i : Int) := by omega
          have hdec : ((l0.length : Nat) : Int) = (i : Int) := by omega
          have hct : Hid (∀ X, Below w6.heap.size w6 X → Calls Tryz.prog 18 #[.pointer v6] X (belowPost (.int .i64 (i : Nat)) X)) := fun X hX => by
            have := K6.out.count X hX
            rw [hdec] at this
            exact this
          clear hA hdec hmi k1 k2
          go_wp2_with (first
            | (have g0 := E5; go_at_call 8; refine (hAl.out _ (B2.out.trans ((B6.out.trans (E5.out.mono B6.out.size)).mono B2.out.size))).mono ?_; rintro e w9 ⟨rfl, z9⟩; have E6 := Lib.hid (E5.out.trans (z9.mono E5.out.size)); clear z9)
            | (have g0 := E3; go_at_call 18; refine (hct.out _ E3.out).mono ?_; rintro e w9 ⟨rfl, z9⟩; have E5 := Lib.hid (E3.out.trans (z9.mono E3.out.size)); clear z9)
            | (have g0 := E1; go_at_call 17; refine (K6.out.depth _ E1.out).mono ?_; rintro e w9 ⟨rfl, z9⟩; have E3 := Lib.hid (E1.out.trans (z9.mono E1.out.size)); clear z9)
            | (have g0 := E1; go_at_call 28; refine (K6.out.met _ E1.out).mono ?_; rintro e w9 ⟨rfl, rfl⟩)
            | (go_at_call 12; refine (K6.out.points _ hBr.out).mono ?_; rintro e w9 ⟨pa, pc, rfl, z9⟩; have E1 := Lib.hid (hBr.out.trans (z9.mono hBr.out.size)); clear z9))
          go_ret
          exact ⟨rfl, B2.out.trans ((B6.out.trans (E6.out.mono B6.out.size)).mono B2.out.size)⟩
end Go.Proofs.YtfhdiimcimafkaaGreatDoor
