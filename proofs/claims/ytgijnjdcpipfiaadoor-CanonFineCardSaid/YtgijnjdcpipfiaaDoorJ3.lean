/- find.Longest; find.Beginnings; find.Beginnings; what find tells is what the pairs have; A canonical tree is told by its pairs. No program; The document's Begins, Get, Beginnings, Longest; Trees: how many nodes are gone into, how deep they are. No program; What a tree's shape is, as bytes. No program; Numbers' bytes. No program but in how its operations count; alive of law 14; The law FindGets; The law FindAll; The document's trees in memory, and one that is under way; The document's shared: how many bytes the keys of pairs that rise begin with alike; The document's build: what it leaves; of one pair; The document's build: its node under way, what it needs; ser's num and Num, and the document's Num; A leaf, and nobody: how many, head, laid, encoded; The tree of pairs that rise (spunyarnlaw30); A leaf laid, and encoded; nobody encoded; A leaf encoded; nobody encoded, and how many bytes that is; The law SerNums; A tree's bytes. No program; A node's kids, one behind the other; The way to a node: bytes that are put behind one another, in a row that is shared; What a tree's node answers in every later world; its head; canon.each: what a callback holds, while a tree is gone through; canon.each, walked, for each of its callbacks; canon.each at any tree, for each of its callbacks; canon.List and canon.Count; Any canonical tree's node laid; Any canonical tree encoded; how many bytes that is; The statements KidsKind and KidsNobody: their walks; The document's build, walked whole; The document's Build; The document's Steps; canon.Depth; The law FindSteps; The document's bytes of a tree; Bytes behind bytes: append of any slice of bytes, also of none; keys.Text; strconv.FormatUint at base 10, strconv.Itoa, over a table that is laid; strings.Builder's WriteString and String over this program (the library's contracts, laid by hand where the tool had none). -/
import Derived.Test.YtgijnjdcpipfiaaDoorJ2
import Derived.Lib.ItoaNum
import Derived.Test.YtgijnjdcpipfiaaDoorProg
import Derived.WalkKit
import Derived.StillTailTactics
import Derived.Deep.RegionHeld3
import Derived.Laws.EntriesVeiled
import Derived.Test.YtgijnjdcpipfiaaDoorJ1
import Derived.Deep.CutBlock
import Derived.Deep.RegionLaw
import Derived.Deep.Cut
import Derived.Deep.RegionLawGrows
import Derived.Deep.CutRange
import Derived.Laws.IdiomStrings
import Derived.Test.YtgijnjdcpipfiaaDoorShelf
import Derived.Lib.ItoaMem
import Derived.Lib.AppendIntMem
set_option linter.unusedVariables false
set_option linter.unusedSimpArgs false
/- find.Longest. -/
namespace Go.Proofs.YtgijnjdcpipfiaaDoor
open Go.RowKit
def lastP (ka : Option Addr) (kc : Nat) (L : List (Nat × Int)) : (Option Addr × Nat × Nat) × Int × Bool := match L.getLast? with
  | none => ((none, 0, 0), 0, false)
  | some (x, y) => ((ka, x, kc), y, true)
theorem lastP_snoc (ka : Option Addr) (kc : Nat) (L : List (Nat × Int)) (x : Nat) (y : Int) : lastP ka kc (L ++ [(x, y)]) = ((ka, x, kc), y, true) := by
  simp [lastP]
/-- what Longest's callback holds -/
def SLo (ka : Option Addr) (kc bp bi : Nat) (F : Nat → Prop) (L : List (Nat × Int)) (w : World) : Prop :=
  F = (fun j => j = bp ∨ j = bi) ∧
  w.heap[bp]? = some (.cells [.slice (lastP ka kc L).1.1 (lastP ka kc L).1.2.1 (lastP ka kc L).1.2.2, .int .u64 (lastP ka kc L).2.1].toArray apT (0, 0)) ∧
  w.heap[bi]? = some (.cells [.bool (lastP ka kc L).2.2].toArray 4 (0, 0))
theorem slo_cb (ka : Option Addr) (kc bp bi lo : Nat) (h2 : lo ≤ bp) (h3 : lo ≤ bi) : CbS (SLo ka kc bp bi) lo := by
  refine ⟨fun F L w w' ⟨e, q2, q3⟩ hk => ?_, fun F L w ⟨e, _⟩ j hj => ?_, fun F L w ⟨e, q2, q3⟩ j hj => ?_⟩
  · subst e
    exact ⟨rfl, (hk bp (Or.inl rfl)).trans q2, (hk bi (Or.inr rfl)).trans q3⟩
  · subst e; rcases hj with rfl | rfl <;> assumption
  · subst e
    rcases hj with rfl | rfl
    · exact (Array.getElem?_eq_some_iff.1 q2).1
    · exact (Array.getElem?_eq_some_iff.1 q3).1
/-- a pair that is told, and whether -/
def pairPost (key : List Nat) (val : Int) (is : Bool) (w : World) (e : Ending) (w' : World) : Prop :=
  ∃ a n c, e = .returned (.tuple #[.agg #[.slice a n c, .int .u64 val], .bool is]) ∧ Sl w' a n c key ∧ Below w.heap.size w w'
def lastK (k : List Nat) (L : List (Nat × Int)) : List Nat × Int × Bool := match L.getLast? with
  | none => ([], 0, false)
  | some (x, y) => (k.take x, y, true)
/-- how long beginnings are -/
theorem tbeg_le : ∀ (t : Tr) (m : Nat) (k : List Nat), ∀ p ∈ tbeg t m k, p.1 ≤ m + k.length
  | .nil, _, _, p, h => by simp [tbeg] at h
  | .kid b t r, m, [], p, h => by simp [tbeg] at h
  | .kid b t r, m, c :: k, p, h => by
    by_cases e : b = c
    · have h : p ∈ tbeg t (m + 1) k := by simpa [tbeg, e] using h
      have := tbeg_le t (m + 1) k p h
      simp; omega
    · have h : p ∈ tbeg r m (c :: k) := by simpa [tbeg, e] using h
      exact tbeg_le r m (c :: k) p h
  | .node bs v hs leaf ks, m, k, p, h => by
    unfold tbeg at h
    split at h
    · rename_i hp
      have hle := hp.length_le
      rcases List.mem_append.1 h with h | h
      · cases hs
        · simp at h
        · simp at h; subst h; simp; omega
      · split at h
        · simp at h
        · have := tbeg_le ks (m + bs.length) (k.drop bs.length) p h
          rw [List.length_drop] at this
          omega
    · simp at h
end Go.Proofs.YtgijnjdcpipfiaaDoor
/- find.Beginnings. -/
namespace Go.Proofs.YtgijnjdcpipfiaaDoor
open Go.RowKit
def begL (k : List Nat) (L : List (Nat × Int)) : PL := L.map fun x => (k.take x.1, x.2)
/-- what Beginnings' callback holds -/
structure SBe (k : List Nat) (lo bl : Nat) (F : Nat → Prop) (L : List (Nat × Int)) (w : World) (v : Value) (es : EL) (bo : Option Nat) : Prop where
  var : w.heap[bl]? = some (.cells [v].toArray 33 (0, 0))
  own : OwnS 2 apT w v L.length (flat es) bo
  ents : Ents w es (begL k L)
  fl : F bl
  fo : ∀ g, bo = some g → F g ∧ g ≠ bl
  fe : ∀ i (h : i < es.length) (p : Addr) n c, (es[i]).1 = .slice (some p) n c → F p.block ∧ p.block ≠ bl ∧ bo ≠ some p.block
  low : ∀ j, F j → lo ≤ j
  high : ∀ j, F j → j < w.heap.size
def SBeg (k : List Nat) (lo bl : Nat) (F : Nat → Prop) (L : List (Nat × Int)) (w : World) : Prop := ∃ v es bo, SBe k lo bl F L w v es bo
theorem ents_keep {w w' : World} {es : EL} {l : PL} (h : Ents w es l) {T : Nat → Prop} (hm : Mod T w w') (hT : ∀ i (h : i < es.length) (p : Addr) n c, (es[i]).1 = .slice (some p) n c → ¬ T p.block) : Ents w' es l := ⟨h.1, fun i h1 h2 => by
  obtain ⟨⟨a, n, c, e, q⟩, r⟩ := h.2 i h1 h2
  refine ⟨⟨a, n, c, e, q.len, bytes_keep q.at_ hm (fun p ep => hT i h1 p n c (by rw [e, ep])), q.cap, q.capm, q.nil⟩, r⟩⟩
theorem sbe_cb (k : List Nat) (lo bl : Nat) : CbS (SBeg k lo bl) lo := by
  refine ⟨fun F L w w' ⟨v, es, bo, h⟩ hk => ?_, fun F L w ⟨v, es, bo, h⟩ j hj => h.low j hj, fun F L w ⟨v, es, bo, h⟩ j hj => h.high j hj⟩
  refine ⟨v, es, bo, (hk bl h.fl).trans h.var, h.own.keep fun g e => hk g (h.fo g e).1, ⟨h.ents.1, fun i h1 h2 => ?_⟩, h.fl, h.fo, h.fe, h.low, fun j hj => ?_⟩
  · obtain ⟨⟨a, n, c, e, q⟩, r⟩ := h.ents.2 i h1 h2
    refine ⟨⟨a, n, c, e, q.len, ⟨q.at_.1, fun j hj => ?_⟩, q.cap, q.capm, q.nil⟩, r⟩
    obtain ⟨p, ep, z1, z2⟩ := q.at_.2 j hj
    subst ep
    have hF := (h.fe i h1 p n c e).1
    have e1 := hk p.block hF
    refine ⟨p, rfl, ?_, ?_⟩
    · rw [add_block] at z1 ⊢
      have : w'.heap[p.block]? = some _ := e1.trans (Array.getElem?_eq_getElem z1)
      exact (Array.getElem?_eq_some_iff.1 this).1
    · rw [← z2]
      unfold World.cell?
      rw [add_block, e1]
  · have e1 := hk j hj
    have : w'.heap[j]? = some _ := e1.trans (Array.getElem?_eq_getElem (h.high j hj))
    exact (Array.getElem?_eq_some_iff.1 this).1
/-- one more -/
theorem SBe.step {k : List Nat} {lo bl : Nat} {F : Nat → Prop} {L : List (Nat × Int)} {w wc w1 w2 w3 : World} {v v2 : Value} {es : EL} {bo bo2 : Option Nat} (h : SBe k lo bl F L w v es bo) (hlo : lo ≤ w.heap.size) {x : Nat} {y : Int} {a6 : Option Addr} {n6 c6 : Nat}
    (hb1 : Below w.heap.size w wc) (hs : Sl wc a6 n6 c6 (k.take x)) (hn : ∀ p : Addr, a6 = some p → w.heap.size ≤ p.block ∧ p.block < wc.heap.size) (hy : 0 ≤ y ∧ y < 18446744073709551616) (hb2 : Below wc.heap.size wc w1)
    (ho : OwnS 2 apT w2 v2 (L.length + 1) (flat es ++ [.slice a6 n6 c6, .int .u64 y]) bo2) (hm : Mod (fun j => bo = some j) w1 w2) (hn2 : NewOr w1 bo bo2) (h3 : w3 = w2.setCell ⟨bl, 0, none⟩ v2) :
    ∃ F', SBeg k lo bl F' (L ++ [(x, y)]) w3 ∧ Mod F w w3 ∧ ∀ j, F' j → F j ∨ w.heap.size ≤ j := by
  have s1 := hb1.size
  have s2 := hb2.size
  have s3 := hm.size
  have hbl := h.high bl h.fl
  have hB : Below w.heap.size w w1 := hb1.trans (hb2.mono s1)
  have hv : w2.heap[bl]? = some (.cells [v].toArray 33 (0, 0)) := (hm.same bl (by omega) (fun e => (h.fo bl e).2 rfl)).trans ((hB.block bl hbl).trans h.var)
  have hM2 : Mod F w w2 := (Mod.of_below hB).trans (hm.mono fun j _ e => (h.fo j e).1)
  have hM3 : Mod F w w3 := by rw [h3]; exact hM2.setCell ⟨bl, 0, none⟩ _ (fun _ => h.fl)
  have s4 : w3.heap.size = w2.heap.size := by rw [h3]; simp [World.setCell]
  have hbo2 : ∀ g, bo2 = some g → (F g ∨ w.heap.size ≤ g) ∧ g ≠ bl ∧ g < w2.heap.size := fun g e => by
    subst e
    refine ⟨?_, ?_, ho.lt⟩
    · rcases hn2 with e | ⟨g', e, hg⟩
      · exact Or.inl (h.fo g e.symm).1
      · cases e; exact Or.inr (by omega)
    · rcases hn2 with e | ⟨g', e, hg⟩
      · exact (h.fo g e.symm).2
      · cases e; omega
  have hneq : ∀ p : Addr, a6 = some p → bo2 ≠ some p.block := fun p e e2 => by
    have h1 := hn p e
    rcases hn2 with e3 | ⟨g', e3, hg⟩
    · rw [e3] at e2
      have := h.high _ (h.fo _ e2).1
      omega
    · rw [e3] at e2
      cases e2
      omega
  have hold : ∀ i (hi : i < es.length) (p : Addr) n c, (es[i]).1 = .slice (some p) n c → bo2 ≠ some p.block := fun i hi p n c e e2 => by
    have h1 := h.fe i hi p n c e
    rcases hn2 with e3 | ⟨g', e3, hg⟩
    · exact h1.2.2 (e3 ▸ e2)
    · rw [e3] at e2
      cases e2
      have := h.high _ h1.1
      omega
  refine ⟨fun j => F j ∨ (w.heap.size ≤ j ∧ j < w3.heap.size), ⟨v2, es ++ [(.slice a6 n6 c6, y)], bo2, ?_, ?_, ?_, Or.inl h.fl, ?_, ?_, ?_, ?_⟩, hM3, fun j hj => by rcases hj with e | e; exact Or.inl e; exact Or.inr e.1⟩
  · rw [h3, setCell_list _ _ _ _ _ _ hv, setRow_heap _ _ _ _ _ _ hv]; rfl
  · rw [flat_append, List.length_append]
    rw [h3]
    refine OwnS.keep ho fun g e => Below.heap_setCell _ _ _ _ (hbo2 g e).2.1
  · have hm3 : Mod (fun j => bo = some j ∨ j = bl) w1 w3 := by rw [h3]; exact (hm.mono (fun j _ e => Or.inl e)).setCell ⟨bl, 0, none⟩ _ (fun _ => Or.inr rfl)
    have e1 : begL k (L ++ [(x, y)]) = begL k L ++ [(k.take x, y)] := by simp [begL]
    rw [e1]
    have hE : Ents w3 es (begL k L) := ents_keep (h.ents.below hB) hm3 (fun i hi p n c e t => by
      have q := h.fe i hi p n c e
      rcases t with t | t
      · exact q.2.2 t
      · exact q.2.1 t)
    have hs1 := hs.below hb2
    refine hE.snoc ⟨⟨_, _, _, rfl, hs1.len, bytes_keep hs1.at_ hm3 (fun p e t => ?_), hs1.cap, hs1.capm, hs1.nil⟩, rfl, hy⟩
    have q := hn p e
    rcases t with t | t
    · have := h.high _ (h.fo _ t).1; omega
    · omega
  · intro g e
    have q := hbo2 g e
    exact ⟨by rcases q.1 with r | r; exact Or.inl r; exact Or.inr ⟨r, by omega⟩, q.2.1⟩
  · intro i hi p n c e
    by_cases hi2 : i < es.length
    · rw [List.getElem_append_left hi2] at e
      have q := h.fe i hi2 p n c e
      exact ⟨Or.inl q.1, q.2.1, hold i hi2 p n c e⟩
    · have ei : i = es.length := by simp at hi; omega
      subst ei
      have e' : (Value.slice a6 n6 c6) = .slice (some p) n c := by simpa using e
      injection e' with e'
      have q := hn p e'
      exact ⟨Or.inr ⟨q.1, by omega⟩, by omega, hneq p e'⟩
  · intro j hj
    rcases hj with e | e
    · exact h.low j e
    · omega
  · intro j hj
    rcases hj with e | e
    · have := h.high j e; omega
    · exact e.2
end Go.Proofs.YtgijnjdcpipfiaaDoor
/- find.Beginnings; what find tells is what the pairs have. -/
namespace Go.Proofs.YtgijnjdcpipfiaaDoor
open Go.RowKit
def prsPost (l : PL) (w : World) (e : Ending) (w' : World) : Prop := ∃ a c, e = .returned (.slice a l.length c) ∧ Prs w' a l.length c l ∧ Below w.heap.size w w'
/-! What find tells, by the pairs. -/
def begF (k : List Nat) (l : PL) : PL := l.filter fun p => decide (p.1 <+: k)
theorem begF_append (k : List Nat) (l m : PL) : begF k (l ++ m) = begF k l ++ begF k m := by simp [begF]
theorem begF_pre (p : List Nat) (l : PL) (k : List Nat) : begF k (pre p l) = if p <+: k then pre p (begF (k.drop p.length) l) else [] := by
  unfold begF pre
  rw [List.filter_map]
  split
  · rename_i h
    obtain ⟨r, rfl⟩ := h
    rw [List.drop_left]
    congr 1
    refine List.filter_congr fun x _ => ?_
    simp [List.prefix_append_right_inj]
  · rename_i h
    have : l.filter ((fun p => decide (p.1 <+: k)) ∘ fun x : List Nat × Int => (p ++ x.1, x.2)) = [] := by
      rw [List.filter_eq_nil_iff]
      intro x _
      simp only [Function.comp, decide_eq_true_eq]
      exact fun q => h ((List.prefix_append p x.1).trans q)
    rw [this]; rfl
theorem begF_none {k : List Nat} {l : PL} (h : ∀ p ∈ l, ¬ p.1 <+: k) : begF k l = [] := by
  unfold begF
  rw [List.filter_eq_nil_iff]
  intro p hp
  simpa using h p hp
/-- beginnings of what is left, told with what is used up -/
theorem tbeg_pairs : ∀ (t : Tr) (m : Nat) (k : List Nat), TOk t → ∀ k0 : List Nat, k0.length = m → (tbeg t m k).map (fun x => ((k0 ++ k).take x.1, x.2)) = pre k0 (begF k (tl t))
  | .nil, m, k, _, k0, _ => rfl
  | .kid b t r, m, [], ⟨h1, h2, h3, h4, h5, h6⟩, k0, hk => by
    have : begF [] (tl (.kid b t r)) = [] := begF_none fun p hp q => by
      obtain ⟨c, s, e, _⟩ := tl_heads (.kid b t r) trivial ⟨h1, h2, h3, h4, h5, h6⟩ p hp
      rw [e] at q
      simp at q
    rw [this]; rfl
  | .kid b t r, m, c :: k, ⟨h1, h2, h3, h4, h5, h6⟩, k0, hk => by
    unfold tl
    rw [begF_append, begF_pre]
    by_cases e : b = c
    · subst e
      have hr : begF (b :: k) (tl r) = [] := begF_none fun p hp q => by
        obtain ⟨c, s, e, hc⟩ := tl_from r b h4 h5 h6 p hp
        rw [e, List.cons_prefix_cons] at q
        omega
      have := tbeg_pairs t (m + 1) k h3 (k0 ++ [b]) (by simp [hk])
      rw [hr, List.append_nil, if_pos ⟨k, rfl⟩, pre_pre]
      simp only [tbeg, if_true, List.append_assoc, List.singleton_append] at this ⊢
      exact this
    · have hn : ¬ [b] <+: c :: k := fun q => e (List.cons_prefix_cons.1 q).1
      rw [if_neg hn, List.nil_append]
      have := tbeg_pairs r m (c :: k) h5 k0 hk
      simpa [tbeg, e] using this
  | .node bs v hs leaf ks, m, k, ⟨h1, h2, h3, h4, h5, h6, h7⟩, k0, hk => by
    unfold tl tbeg
    rw [begF_append, begF_pre]
    by_cases hp : bs <+: k
    · rw [if_pos hp, if_pos hp]
      obtain ⟨r, rfl⟩ := hp
      rw [List.drop_left, pre_append, pre_pre, List.map_append]
      congr 1
      · cases hs
        · rfl
        · simp only [if_true, begF, List.filter_cons, List.prefix_append, decide_true, List.filter_nil, List.map_cons, List.map_nil, pre]
          have : (k0 ++ (bs ++ r)).take (m + bs.length) = k0 ++ bs := by
            rw [← List.append_assoc, List.take_left' (by simp [hk])]
          rw [this]
      · by_cases hr : r = []
        · subst hr
          have : begF [] (tl ks) = [] := begF_none fun p hp q => by
            obtain ⟨c, s, e, _⟩ := tl_heads ks h6 h7 p hp
            rw [e] at q
            simp at q
          rw [this]; simp
        · rw [if_neg hr]
          have := tbeg_pairs ks (m + bs.length) r h7 (k0 ++ bs) (by simp [hk])
          rw [List.append_assoc] at this
          exact this
    · rw [if_neg hp, if_neg hp]
      have : begF k (if hs = true then [(bs, v)] else []) = [] := begF_none fun p hpm q => by
        cases hs
        · simp at hpm
        · simp at hpm; subst hpm; exact hp q
      rw [this]; rfl
theorem begL_pairs (t : Tr) (k : List Nat) (h : TOk t) : begL k (tbeg t 0 k) = begF k (tl t) := by
  have := tbeg_pairs t 0 k h [] rfl
  simpa [begL] using this
def lastL (l : PL) : List Nat × Int × Bool := match l.getLast? with
  | none => ([], 0, false)
  | some p => (p.1, p.2, true)
theorem lastK_pairs (t : Tr) (k : List Nat) (h : TOk t) : lastK k (tbeg t 0 k) = lastL (begF k (tl t)) := by
  rw [← begL_pairs t k h]
  unfold lastK lastL begL
  rw [List.getLast?_map]
  cases (tbeg t 0 k).getLast? with
  | none => rfl
  | some x => rfl
end Go.Proofs.YtgijnjdcpipfiaaDoor
/- A canonical tree is told by its pairs. No program. -/
namespace Go.Proofs.YtgijnjdcpipfiaaDoor
def sh : Tr → Tr
  | .nil => .nil
  | .kid b t r => .kid b (sh t) (sh r)
  | .node bs v has _ ks => .node bs v has false (sh ks)
theorem tstep_sh : ∀ (t : Tr) (k : List Nat), tstep (sh t) k = tstep t k
  | .nil, _ => rfl
  | .kid b t r, [] => rfl
  | .kid b t r, c :: k => by simp only [sh, tstep, tstep_sh t k, tstep_sh r (c :: k)]
  | .node bs v has leaf ks, k => by simp only [sh, tstep, tstep_sh ks]
theorem tl_ne : ∀ (t : Tr), IsN t → TOk t → Can t → tl t ≠ []
  | .nil, h, _, _ => h.elim
  | .kid .., h, _, _ => h.elim
  | .node bs v has leaf ks, _, ⟨h1, h2, h3, h4, h5, h6, h7⟩, ⟨c1, c2⟩ => by
    cases has with
    | true => simp [tl]
    | false =>
      have hl : leaf = false := by
        cases leaf with
        | false => rfl
        | true => exact absurd (h5 rfl).1 (by simp)
      have := c2 hl
      match ks, h6, h7, c1, this with
      | .nil, _, _, _, q => simp [chain] at q
      | .node .., h, _, _, _ => exact h.elim
      | .kid b t r, _, ⟨k1, k2, k3, k4, k5, k6⟩, ⟨d1, d2⟩, q =>
        have := tl_ne t k2 k3 d1
        simp [tl, pre, this]
theorem pre_inj {p : List Nat} {l m : PL} (h : pre p l = pre p m) : l = m := by
  have := congrArg (strip p.length) h
  simpa [strip, pre, Function.comp_def] using this
theorem part_long {bs : List Nat} {v : Int} {has leaf : Bool} {ks : Tr} (hO : TOk (.node bs v has leaf ks)) (hC : Can (.node bs v has leaf ks)) (c : Nat) (r : List Nat) : ¬ ∀ p ∈ tl (.node bs v has leaf ks), (bs ++ c :: r) <+: p.1 := by
  intro h
  obtain ⟨h1, h2, h3, h4, h5, h6, h7⟩ := hO
  obtain ⟨c1, c2⟩ := hC
  cases has with
  | true =>
    have := (h (bs, v) (by simp [tl])).length_le
    simp at this
    omega
  | false =>
    have hl : leaf = false := by
      cases leaf with
      | false => rfl
      | true => exact absurd (h5 rfl).1 (by simp)
    have := c2 hl
    match ks, h6, h7, c1, this with
    | .nil, _, _, _, q => simp [chain] at q
    | .node .., h, _, _, _ => exact h.elim
    | .kid b t .nil, _, _, _, q => simp [chain] at q
    | .kid b t (.node ..), _, ⟨_, _, _, k4, _⟩, _, q => exact k4.elim
    | .kid b t (.kid b2 t2 r2), _, ⟨k1, k2, k3, k4, ⟨m1, m2, m3, m4, m5, m6⟩, k6⟩, ⟨d1, d2, d3⟩, q =>
      have k6 : b < b2 := k6
      obtain ⟨x, hx⟩ := List.exists_mem_of_ne_nil _ (tl_ne t k2 k3 d1)
      obtain ⟨y, hy⟩ := List.exists_mem_of_ne_nil _ (tl_ne t2 m2 m3 d2)
      have e1 := h (bs ++ b :: x.1, x.2) (by
        simp only [tl, pre_append, pre_pre, List.mem_append]
        exact Or.inr (Or.inl (List.mem_map.2 ⟨x, hx, by simp⟩)))
      have e2 := h (bs ++ b2 :: y.1, y.2) (by
        simp only [tl, pre_append, pre_pre, List.mem_append]
        exact Or.inr (Or.inr (Or.inl (List.mem_map.2 ⟨y, hy, by simp⟩))))
      rw [List.prefix_append_right_inj, List.cons_prefix_cons] at e1 e2
      omega
theorem tl_begins {bs : List Nat} {v : Int} {has leaf : Bool} {ks : Tr} : ∀ p ∈ tl (.node bs v has leaf ks), bs <+: p.1 := fun p hp => by
  unfold tl at hp
  rcases List.mem_append.1 hp with hp | hp
  · cases has
    · simp at hp
    · simp at hp; subst hp; exact List.prefix_refl _
  · obtain ⟨q, hq, rfl⟩ := List.mem_map.1 hp
    exact List.prefix_append _ _
theorem pre_split {p : List Nat} : ∀ {q : List Nat} {k : List Nat}, p <+: k → q <+: k → (p = q ∨ (∃ c r, q = p ++ c :: r) ∨ ∃ c r, p = q ++ c :: r) := by
  intro q k h1 h2
  rcases Nat.lt_trichotomy p.length q.length with h | h | h
  · obtain ⟨r, rfl⟩ := List.prefix_of_prefix_length_le h1 h2 (by omega)
    cases r with
    | nil => simp at h
    | cons c r => exact Or.inr (Or.inl ⟨c, r, rfl⟩)
  · exact Or.inl ((List.prefix_of_prefix_length_le h1 h2 (by omega)).eq_of_length h)
  · obtain ⟨r, rfl⟩ := List.prefix_of_prefix_length_le h2 h1 (by omega)
    cases r with
    | nil => simp at h
    | cons c r => exact Or.inr (Or.inr ⟨c, r, rfl⟩)
def hd (b : Nat) (p : List Nat × Int) : Bool := p.1.head? == some b
theorem hd_pre (b : Nat) (l : PL) : (pre [b] l).filter (hd b) = pre [b] l := by
  rw [List.filter_eq_self]
  intro x hx
  obtain ⟨q, hq, rfl⟩ := List.mem_map.1 hx
  simp [hd]
theorem hd_pre' (b : Nat) (l : PL) : (pre [b] l).filter (fun x => !hd b x) = [] := by
  rw [List.filter_eq_nil_iff]
  intro x hx
  obtain ⟨q, hq, rfl⟩ := List.mem_map.1 hx
  simp [hd]
theorem hd_from {b : Nat} {r : Tr} (h1 : IsK r) (h2 : TOk r) (h3 : From b r) : (tl r).filter (hd b) = [] ∧ (tl r).filter (fun x => !hd b x) = tl r := by
  have key : ∀ p ∈ tl r, hd b p = false := fun p hp => by
    obtain ⟨c, s, e, hc⟩ := tl_from r b h1 h2 h3 p hp
    simp [hd, e]
    omega
  exact ⟨List.filter_eq_nil_iff.2 fun p hp => by simp [key p hp], List.filter_eq_self.2 fun p hp => by simp [key p hp]⟩
theorem sh_eq : ∀ (t t' : Tr), (IsN t ∧ IsN t' ∨ IsK t ∧ IsK t') → TOk t → TOk t' → Can t → Can t' → tl t = tl t' → sh t = sh t'
  | .nil, .nil, _, _, _, _, _, _ => rfl
  | .nil, .node .., h, _, _, _, _, _ => by rcases h with ⟨h, _⟩ | ⟨_, h⟩ <;> exact h.elim
  | .kid .., .node .., h, _, _, _, _, _ => by rcases h with ⟨h, _⟩ | ⟨_, h⟩ <;> exact h.elim
  | .node .., .nil, h, _, _, _, _, _ => by rcases h with ⟨_, h⟩ | ⟨h, _⟩ <;> exact h.elim
  | .node .., .kid .., h, _, _, _, _, _ => by rcases h with ⟨_, h⟩ | ⟨h, _⟩ <;> exact h.elim
  | .nil, .kid b t r, _, _, ⟨_, h2, h3, _⟩, _, ⟨c1, _⟩, e => by
    have := tl_ne t h2 h3 c1
    simp [tl, pre, this] at e
  | .kid b t r, .nil, _, ⟨_, h2, h3, _⟩, _, ⟨c1, _⟩, _, e => by
    have := tl_ne t h2 h3 c1
    simp [tl, pre, this] at e
  | .kid b t r, .kid b' t' r', _, ⟨h1, h2, h3, h4, h5, h6⟩, ⟨k1, k2, k3, k4, k5, k6⟩, ⟨c1, c2⟩, ⟨d1, d2⟩, e => by
    unfold tl at e
    obtain rfl : b = b' := by
      cases e1 : tl t with
      | nil => exact absurd e1 (tl_ne t h2 h3 c1)
      | cons x l =>
        cases e2 : tl t' with
        | nil => exact absurd e2 (tl_ne t' k2 k3 d1)
        | cons y m =>
          rw [e1, e2] at e
          simp [pre] at e
          exact e.1.1.1
    have f1 := congrArg (List.filter (hd b)) e
    have f2 := congrArg (List.filter (fun x => !hd b x)) e
    rw [List.filter_append, List.filter_append, hd_pre, hd_pre, (hd_from h4 h5 h6).1, (hd_from k4 k5 k6).1, List.append_nil, List.append_nil] at f1
    rw [List.filter_append, List.filter_append, hd_pre', hd_pre', (hd_from h4 h5 h6).2, (hd_from k4 k5 k6).2, List.nil_append, List.nil_append] at f2
    simp only [sh, sh_eq t t' (Or.inl ⟨h2, k2⟩) h3 k3 c1 d1 (pre_inj f1), sh_eq r r' (Or.inr ⟨h4, k4⟩) h5 k5 c2 d2 f2]
  | .node bs v has leaf ks, .node bs' v' has' leaf' ks', _, hO, hO', hC, hC', e => by
    obtain rfl : bs = bs' := by
      obtain ⟨x, hx⟩ := List.exists_mem_of_ne_nil _ (tl_ne (.node bs v has leaf ks) trivial hO hC)
      rcases pre_split (tl_begins x hx) (tl_begins x (by rw [← e]; exact hx)) with q | ⟨c, r, q⟩ | ⟨c, r, q⟩
      · exact q
      · exact absurd (fun p hp => by rw [← q]; exact tl_begins p (by rw [← e]; exact hp)) (part_long hO hC c r)
      · exact absurd (fun p hp => by rw [← q]; exact tl_begins p (by rw [e]; exact hp)) (part_long hO' hC' c r)
    obtain ⟨h1, h2, h3, h4, h5, h6, h7⟩ := hO
    obtain ⟨k1, k2, k3, k4, k5, k6, k7⟩ := hO'
    unfold tl at e
    have hno : ∀ {l : Tr} {w : Int} {m : PL}, IsK l → TOk l → ∀ x, (bs, x) ∉ pre bs (tl l) := fun {l w m} a1 a2 x q => by
      obtain ⟨y, hy, ey⟩ := List.mem_map.1 q
      obtain ⟨c, s, e2, _⟩ := tl_heads l a1 a2 y hy
      rw [e2] at ey
      have := congrArg (fun z => z.1.length) ey
      simp at this
    have hhas : has = has' ∧ v = v' ∧ tl ks = tl ks' := by
      cases has <;> cases has'
      · simp only [Bool.false_eq_true, if_false, List.nil_append] at e
        exact ⟨rfl, (h4 rfl).trans (k4 rfl).symm, pre_inj e⟩
      · simp only [Bool.false_eq_true, if_false, List.nil_append, if_true] at e
        exact absurd (by rw [e]; simp) (hno (w := 0) (m := []) h6 h7 v')
      · simp only [Bool.false_eq_true, if_false, List.nil_append, if_true] at e
        exact absurd (by rw [← e]; simp) (hno (w := 0) (m := []) k6 k7 v)
      · simp only [if_true, List.singleton_append, List.cons.injEq, Prod.mk.injEq, true_and] at e
        exact ⟨rfl, e.1, pre_inj e.2⟩
    obtain ⟨rfl, rfl, e3⟩ := hhas
    simp only [sh, sh_eq ks ks' (Or.inr ⟨h6, k6⟩) h7 k7 hC.1 hC'.1 e3]
end Go.Proofs.YtgijnjdcpipfiaaDoor
/- The document's Begins, Get, Beginnings, Longest. -/
namespace Go.Proofs.YtgijnjdcpipfiaaDoor
open Go.RowKit
theorem plook_at {l : PL} {k : List Nat} {i : Nat} (hA : ∀ j, j < i → (l.getD j ([], 0)).1 ≠ k) (hi : i < l.length) (e : (l.getD i ([], 0)).1 = k) : plook l k = some (l.getD i ([], 0)).2 := by
  unfold plook
  have : l.find? (fun p => p.1 == k) = some (l.getD i ([], 0)) := by
    rw [List.find?_eq_some_iff_getElem]
    refine ⟨by simpa using e, i, hi, by rw [getD_of_lt hi], fun j hj => ?_⟩
    have := hA j hj
    rw [getD_of_lt (by omega)] at this
    simpa using this
  rw [this]; rfl
theorem plook_no {l : PL} {k : List Nat} (hA : ∀ j, j < l.length → (l.getD j ([], 0)).1 ≠ k) : plook l k = none := plook_none fun p hp => by
  obtain ⟨i, hi, rfl⟩ := List.getElem_of_mem hp
  have := hA i hi
  rwa [getD_of_lt hi] at this
def plsPost (ty : Nat) (l : PL) (w : World) (e : Ending) (w' : World) : Prop := ∃ v, e = .returned v ∧ PLs ty w v l w'
theorem begF_take {k : List Nat} {l : PL} {i : Nat} (hi : i < l.length) : begF k (l.take (i + 1)) = begF k (l.take i) ++ if (l.getD i ([], 0)).1 <+: k then [l.getD i ([], 0)] else [] := by
  rw [List.take_succ_eq_append_getElem hi, begF_append, getD_of_lt hi]
  congr 1
  simp [begF, List.filter_cons]
/-- a block of a pair holds no bytes -/
theorem sl_off_pair {w w' : World} {b : Nat} {t : Nat} {a : Option Addr} {n c : Nat} {bs : List Nat} (h : Sl w a n c bs) (hb : w.heap[b]? = some (.cells [.slice none 0 0, .int .u64 0].toArray t (0, 0))) (hm : Mod (fun j => j = b) w w') : Sl w' a n c bs := by
  refine ⟨h.len, ⟨h.at_.1, fun i hi => ?_⟩, h.cap, h.capm, h.nil⟩
  obtain ⟨p, e, h1, h2⟩ := h.at_.2 i hi
  have hne : (p.add i).block ≠ b := fun q => by
    rw [World.cell?, q, hb] at h2
    simp only at h2
    split at h2
    · cases h2
    · rcases ho : (p.add i).off with _ | _ | o <;> rw [ho] at h2 <;> simp at h2
  refine ⟨p, e, Nat.lt_of_lt_of_le h1 hm.size, ?_⟩
  rw [← h2]
  unfold World.cell?
  rw [hm.same _ h1 hne]
theorem lastL_at {l : PL} {n : Nat} (h : l.length = n + 1) : lastL l = ((l.getD n ([], 0)).1, (l.getD n ([], 0)).2, true) := by
  unfold lastL
  rw [List.getLast?_eq_getElem?, h, Nat.add_sub_cancel, List.getElem?_eq_getElem (by omega), getD_of_lt (by omega)]
end Go.Proofs.YtgijnjdcpipfiaaDoor
/- Trees: how many nodes are gone into, how deep they are. No program. -/
namespace Go.Proofs.YtgijnjdcpipfiaaDoor
/-- how deep a tree is; of a row: the deepest one -/
def tdep : Tr → Nat
  | .nil => 0
  | .kid _ t r => max (tdep t) (tdep r)
  | .node _ _ _ _ ks => 1 + tdep ks
theorem tstep_dep : ∀ (t : Tr) (k : List Nat), tstep t k ≤ tdep t
  | .nil, _ => Nat.le_refl _
  | .kid b t r, [] => Nat.zero_le _
  | .kid b t r, c :: k => by
    have h1 := tstep_dep t k
    have h2 := tstep_dep r (c :: k)
    simp only [tstep, tdep]
    split <;> omega
  | .node bs v has leaf ks, k => by
    have h1 := tstep_dep ks (k.drop bs.length)
    simp only [tstep, tdep]
    split
    · split <;> omega
    · omega
theorem tstep_len : ∀ (t : Tr) (k : List Nat), TOk t → (IsN t → tstep t k ≤ k.length + 1) ∧ (IsK t → tstep t k ≤ k.length)
  | .nil, _, _ => ⟨fun h => h.elim, fun _ => Nat.zero_le _⟩
  | .kid b t r, [], _ => ⟨fun h => h.elim, fun _ => Nat.zero_le _⟩
  | .kid b t r, c :: k, ⟨h1, h2, h3, h4, h5, h6⟩ => ⟨fun h => h.elim, fun _ => by
    have a1 := (tstep_len t k h3).1 h2
    have a2 := (tstep_len r (c :: k) h5).2 h4
    simp only [tstep, List.length_cons] at *
    split <;> omega⟩
  | .node bs v has leaf ks, k, ⟨h1, h2, h3, h4, h5, h6, h7⟩ => ⟨fun _ => by
    have a := (tstep_len ks (k.drop bs.length) h7).2 h6
    rw [List.length_drop] at a
    simp only [tstep]
    split
    · split <;> omega
    · omega, fun h => h.elim⟩
theorem tdep_sh : ∀ (t : Tr), tdep (sh t) = tdep t
  | .nil => rfl
  | .kid b t r => by simp only [sh, tdep, tdep_sh t, tdep_sh r]
  | .node bs v has leaf ks => by simp only [sh, tdep, tdep_sh ks]
theorem tstep_le {t : Tr} (k : List Nat) (h : t = .nil ∨ IsN t) (hO : TOk t) : tstep t k ≤ k.length + 1 := by
  rcases h with rfl | h
  · exact Nat.zero_le _
  · exact (tstep_len t k hO).1 h
/-- two canonical trees of the same pairs are gone into alike -/
theorem tstep_same {t t' : Tr} (k : List Nat) (h1 : TOk t) (h2 : TOk t') (c1 : Can t) (c2 : Can t') (n1 : t = .nil ∨ IsN t) (n2 : t' = .nil ∨ IsN t') (e : tl t = tl t') : tstep t k = tstep t' k := by
  rcases n1 with rfl | n1
  · rcases n2 with rfl | n2
    · rfl
    · exact absurd e.symm (tl_ne _ n2 h2 c2)
  · rcases n2 with rfl | n2
    · exact absurd e (tl_ne _ n1 h1 c1)
    · rw [← tstep_sh t, ← tstep_sh t', sh_eq t t' (Or.inl ⟨n1, n2⟩) h1 h2 c1 c2 e]
end Go.Proofs.YtgijnjdcpipfiaaDoor
/- What a tree's shape is, as bytes. No program. -/
namespace Go.Proofs.YtgijnjdcpipfiaaDoor
/-- a digit's byte -/
def hexN (d : Nat) : Nat := if d < 10 then 48 + d else 87 + d
/-- a byte's two digits -/
def hexB (b : Nat) : List Nat := [hexN (b / 16), hexN (b % 16)]
/-- the text of bytes -/
def hexL (bs : List Nat) : List Nat := bs.flatMap hexB
theorem hexN_lt {d : Nat} (h : d < 16) : hexN d < 256 := by unfold hexN; split <;> omega
theorem hexL_lt {bs : List Nat} (h : ∀ b ∈ bs, b < 256) : ∀ x ∈ hexL bs, x < 256 := fun x hx => by
  unfold hexL hexB at hx
  simp only [List.mem_flatMap, List.mem_cons, List.not_mem_nil, or_false] at hx
  obtain ⟨b, hb, rfl | rfl⟩ := hx
  · exact hexN_lt (by have := h b hb; omega)
  · exact hexN_lt (by omega)
theorem hexL_len (bs : List Nat) : (hexL bs).length = 2 * bs.length := by
  induction bs with
  | nil => rfl
  | cons b bs ih => simp only [hexL, List.flatMap_cons, List.length_append, List.length_cons] at *; rw [ih]; simp [hexB]; omega
theorem hexL_snoc (bs : List Nat) (b : Nat) : hexL (bs ++ [b]) = hexL bs ++ hexB b := by simp [hexL]
/-- bytes as they stand in texts -/
def u8s (l : List Nat) : List UInt8 := l.map UInt8.ofNat
theorem u8s_app (a b : List Nat) : u8s (a ++ b) = u8s a ++ u8s b := by simp [u8s]
/-- a number's digits -/
def decU (n : Nat) : List UInt8 := Lib.decDigits n
/-- how many kids -/
def krowC : Tr → Nat
  | .kid _ _ r => 1 + krowC r
  | _ => 0
/-- the shape of a node; of the kids of a row, one behind the other -/
def shp : Tr → List UInt8
  | .nil => []
  | .kid b t r => 58 :: (u8s (hexL [b]) ++ (shp t ++ shp r))
  | .node bs v has leaf ks => (if leaf then [76] else decU (kindOf (krowC ks)) ++ [60]) ++ (u8s (hexL bs) ++ ((if has then 61 :: decU v.toNat else []) ++ (if leaf then [] else shp ks ++ [62])))
/-- the shape of a tree -/
def shpT (t : Tr) : List UInt8 := match t with | .nil => [46] | t => shp t
theorem krowC_chain : ∀ (t : Tr), IsK t → krowC t = (chain t).length
  | .nil, _ => rfl
  | .node .., h => h.elim
  | .kid b t r, _ => by
    cases r with
    | nil => rfl
    | node => rfl
    | kid c t2 r2 =>
      have := krowC_chain (.kid c t2 r2) trivial
      simp only [krowC, chain, List.length_cons] at *
      omega
theorem decU_len {n : Nat} (h : n < 18446744073709551616) : (decU n).length ≤ 20 := by
  unfold decU
  rw [Lib.decDigits_length]
  by_cases h0 : n = 0
  · subst h0; rw [Lib.nDigits_small (by omega)]; omega
  · have := Lib.numDigits_eq n (by omega) h
    split at this <;> omega
end Go.Proofs.YtgijnjdcpipfiaaDoor
/- Numbers' bytes. No program but in how its operations count. -/
namespace Go.Proofs.YtgijnjdcpipfiaaDoor
/-- a number's bytes, seven bits each -/
def numL (n : Nat) : List Nat := if h : n < 128 then [n] else (128 + n % 128) :: numL (n / 128)
termination_by n
decreasing_by exact Nat.div_lt_self (by omega) (by omega)
theorem numL_lt {n : Nat} (h : n < 128) : numL n = [n] := by rw [numL, dif_pos h]
theorem numL_ge {n : Nat} (h : ¬ n < 128) : numL n = (128 + n % 128) :: numL (n / 128) := by rw [numL, dif_neg h]
theorem numL_byte (n : Nat) : ∀ x ∈ numL n, x < 256 := by
  induction n using Nat.strongRecOn with
  | ind n ih =>
    by_cases h : n < 128
    · rw [numL_lt h]; intro x hx; simp at hx; omega
    · rw [numL_ge h]
      intro x hx
      rcases List.mem_cons.1 hx with rfl | hx
      · omega
      · exact ih (n / 128) (Nat.div_lt_self (by omega) (by omega)) x hx
theorem numL_mono (n : Nat) : ∀ m, m ≤ n → (numL m).length ≤ (numL n).length := by
  induction n using Nat.strongRecOn with
  | ind n ih =>
    intro m hm
    by_cases h : n < 128
    · rw [numL_lt h, numL_lt (by omega : m < 128)]; simp
    · by_cases h2 : m < 128
      · rw [numL_ge h, numL_lt h2]; simp
      · rw [numL_ge h, numL_ge h2]
        simp only [List.length_cons]
        have := ih (n / 128) (Nat.div_lt_self (by omega) (by omega)) (m / 128) (Nat.div_le_div_right hm)
        omega
theorem numL_len : ∀ (k n : Nat), n < 128 ^ (k + 1) → (numL n).length ≤ k + 1
  | 0, n, h => by rw [numL_lt (by simpa using h)]; simp
  | k + 1, n, h => by
    by_cases h1 : n < 128
    · rw [numL_lt h1]; simp
    · rw [numL_ge h1, List.length_cons]
      have := numL_len k (n / 128) (by
        rw [Nat.div_lt_iff_lt_mul (by omega)]
        rw [Nat.pow_succ] at h
        exact h)
      omega
theorem numL_ten {n : Nat} (h : n < 18446744073709551616) : (numL n).length ≤ 10 := numL_len 9 n (by omega)
theorem numL_pos (n : Nat) : 1 ≤ (numL n).length := by
  by_cases h : n < 128
  · rw [numL_lt h]; simp
  · rw [numL_ge h]; simp
theorem or128 (x : Nat) (h : x < 128) : (x ||| 128) = 128 + x := by
  have : ∀ x : Fin 128, (x.val ||| 128) = 128 + x.val := by decide
  exact this ⟨x, h⟩
theorem bv_or (x : Nat) (h : x < 128) : (BitVec.ofInt 8 (x : Int) ||| BitVec.ofInt 8 128).toNat = 128 + x := by
  rw [BitVec.toNat_or]
  have h1 : (BitVec.ofInt 8 (x : Int)).toNat = x := by
    rw [BitVec.toNat_ofInt]; omega
  rw [h1]
  exact or128 x h
theorem wrap_u8 {x : Nat} (h : x < 256) : IntKind.u8.wrap (x : Int) = (x : Int) := IntWalk.u8_in _ (by omega)
theorem wrap_u64 {x : Nat} (h : x < 18446744073709551616) : IntKind.u64.wrap (x : Int) = (x : Int) := IntWalk.u64_in _ (by omega)
theorem tmod128 (k : Nat) : (k : Int).tmod 128 = ((k % 128 : Nat) : Int) := by rw [Int.tmod_eq_emod_of_nonneg (by omega)]; omega
theorem tdiv128 (k : Nat) : (k : Int).tdiv 128 = ((k / 128 : Nat) : Int) := by rw [Int.tdiv_eq_ediv_of_nonneg (by omega)]; omega
theorem fdiv128 (k : Nat) : (k : Int).fdiv 128 = ((k / 128 : Nat) : Int) := by rw [Int.fdiv_eq_ediv_of_nonneg _ (by omega)]; omega
theorem run_or (P : Program) (t : TypeId) (x : Nat) (h : x < 128) (w : World) : (binOp .or t (.int .u8 (x : Nat)) (.int .u8 128)).run P w = .ok (.int .u8 ((128 + x : Nat) : Int)) w := by
  have e : (BitVec.ofInt IntKind.u8.bits (x : Int) ||| BitVec.ofInt IntKind.u8.bits 128).toNat = 128 + x := bv_or x h
  show (Op.intBits .or .u8 (x : Int) 128).run P w = _
  simp only [Op.intBits, e]
  rw [wrap_u8 (by omega)]
  rfl
theorem bits_or (x : Nat) (h : x < 128) : bits .or .u8 (x : Int) 128 = ((128 + x : Nat) : Int) := by
  have e : (BitVec.ofInt IntKind.u8.bits (x : Int) ||| BitVec.ofInt IntKind.u8.bits 128).toNat = 128 + x := bv_or x h
  unfold bits
  simp only [e]
  exact wrap_u8 (by omega)
theorem run_shr7 (P : Program) (t : TypeId) (k : Nat) (w : World) : (binOp .shr t (.int .u64 (k : Nat)) (.int .u64 7)).run P w = .ok (.int .u64 ((k / 128 : Nat) : Int)) w := by
  have e : (k : Int).fdiv (2 ^ (min (7 : Int).toNat IntKind.u64.bits)) = ((k / 128 : Nat) : Int) := fdiv128 k
  show (Op.shift .shr .u64 (k : Int) .u64 7).run P w = _
  simp only [Op.shift, show ¬ (7 : Int) < 0 by omega, if_false, e]
  rfl
end Go.Proofs.YtgijnjdcpipfiaaDoor
/- alive of law 14. -/
namespace Go.Proofs.YtgijnjdcpipfiaaDoor
open Go.RowKit
theorem sl_one (w : World) (x : Nat) (t : TypeId) (hx : x < 256) : Sl (w.alloc (.cells #[.int .u8 (x : Nat)] t)) (some ⟨w.heap.size, 0, none⟩) 1 1 [x] := by
  have hb : (w.alloc (.cells #[.int .u8 (x : Nat)] t)).heap[w.heap.size]? = some (.cells [.int .u8 (x : Nat)].toArray t (0, 0)) := heap_alloc_new w _
  refine ⟨rfl, ⟨by simpa using hx, fun i hi => ⟨_, rfl, ?_, ?_⟩⟩, Nat.le_refl _, by unfold maxLen; omega, fun e => by cases e⟩
  · rw [add0]; simp
  · rw [add0, cell_of_blk hb]
    have hi : i < 1 := hi
    obtain rfl : i = 0 := by omega
    rfl
theorem sl_two (w : World) (x y : Nat) (t : TypeId) (hx : x < 256) (hy : y < 256) : Sl (w.alloc (.cells #[.int .u8 (x : Nat), .int .u8 (y : Nat)] t)) (some ⟨w.heap.size, 0, none⟩) 2 2 [x, y] := by
  have hb : (w.alloc (.cells #[.int .u8 (x : Nat), .int .u8 (y : Nat)] t)).heap[w.heap.size]? = some (.cells [.int .u8 (x : Nat), .int .u8 (y : Nat)].toArray t (0, 0)) := heap_alloc_new w _
  refine ⟨rfl, ⟨by simp [hx, hy], fun i hi => ⟨_, rfl, ?_, ?_⟩⟩, Nat.le_refl _, by unfold maxLen; omega, fun e => by cases e⟩
  · rw [add0]; simp
  · rw [add0, cell_of_blk hb]
    have hi : i < 2 := hi
    obtain rfl | rfl : i = 0 ∨ i = 1 := by omega
    · rfl
    · rfl
def alL : PL := [([1], 5), ([1, 2], 6)]
def alT : Tr := .node [1] 5 true false (.kid 2 (.node [] 6 true true .nil) .nil)
theorem alT_ok : TOk alT := by simp [alT, TOk, IsN, IsK, From]
theorem alT_can : Can alT := by simp [alT, Can, chain]
theorem alT_l : tl alT = alL := rfl
theorem TreeV.node {Q : List NP} {t : Tr} {v : Value} (h : TreeV Q t v) (hne : tl t ≠ []) : IsN t := by
  rcases h with ⟨rfl, _⟩ | ⟨h, _⟩
  · exact absurd rfl hne
  · exact h
theorem al_steps {t : Tr} (hk : IsN t) (h1 : TOk t) (h2 : Can t) (h3 : tl t = alL) : tstep t [1, 2] = 2 := by
  rw [← tstep_sh, sh_eq t alT (Or.inl ⟨hk, trivial⟩) h1 alT_ok h2 alT_can (h3.trans alT_l.symm), tstep_sh]
  rfl
theorem al_prs (w : World) (t1 t2 t3 : TypeId) : Prs (((w.alloc (.cells #[.int .u8 1] t1)).alloc (.cells #[.int .u8 1, .int .u8 2] t2)).alloc (.cells #[.slice (some ⟨w.heap.size, 0, none⟩) 1 1, .int .u64 5, .slice (some ⟨w.heap.size + 1, 0, none⟩) 2 2, .int .u64 6] t3)) (some ⟨w.heap.size + 1 + 1, 0, none⟩) 2 2 alL := by
  obtain ⟨w1, h1⟩ : ∃ w1, w1 = w.alloc (.cells #[.int .u8 1] t1) := ⟨_, rfl⟩
  obtain ⟨w2, h2⟩ : ∃ w2, w2 = w1.alloc (.cells #[.int .u8 1, .int .u8 2] t2) := ⟨_, rfl⟩
  have s1 : w1.heap.size = w.heap.size + 1 := by rw [h1]; simp
  have s2 : w2.heap.size = w.heap.size + 1 + 1 := by rw [h2, World.size_alloc, s1]
  rw [← h1, ← h2]
  obtain ⟨w3, h3⟩ : ∃ w3, w3 = w2.alloc (.cells #[.slice (some ⟨w.heap.size, 0, none⟩) 1 1, .int .u64 5, .slice (some ⟨w.heap.size + 1, 0, none⟩) 2 2, .int .u64 6] t3) := ⟨_, rfl⟩
  rw [← h3]
  have b3 : Below w2.heap.size w2 w3 := by rw [h3]; exact (Below.refl _ _).alloc (Nat.le_refl _) _
  have b2 : Below w1.heap.size w1 w2 := by rw [h2]; exact (Below.refl _ _).alloc (Nat.le_refl _) _
  have k1 : Sl w3 (some ⟨w.heap.size, 0, none⟩) 1 1 [1] := by
    have := sl_one w 1 t1 (by omega)
    have : Sl w1 (some ⟨w.heap.size, 0, none⟩) 1 1 [1] := by rw [h1]; exact this
    exact (this.below b2).below b3
  have k2 : Sl w3 (some ⟨w.heap.size + 1, 0, none⟩) 2 2 [1, 2] := by
    have := sl_two w1 1 2 t2 (by omega) (by omega)
    rw [s1] at this
    have : Sl w2 (some ⟨w.heap.size + 1, 0, none⟩) 2 2 [1, 2] := by rw [h2]; exact this
    exact this.below b3
  have hb : w3.heap[w.heap.size + 1 + 1]? = some (.cells [.slice (some ⟨w.heap.size, 0, none⟩) 1 1, .int .u64 5, .slice (some ⟨w.heap.size + 1, 0, none⟩) 2 2, .int .u64 6].toArray t3 (0, 0)) := by
    have := heap_alloc_new w2 (.cells #[.slice (some ⟨w.heap.size, 0, none⟩) 1 1, .int .u64 5, .slice (some ⟨w.heap.size + 1, 0, none⟩) 2 2, .int .u64 6] t3)
    rw [s2] at this
    rw [h3]; exact this
  have s3 : w3.heap.size = w.heap.size + 1 + 1 + 1 := by rw [h3, World.size_alloc, s2]
  refine ⟨rfl, Nat.le_refl _, by unfold maxLen; omega, (fun e => by cases e), (by simp [alL]), fun i hi => ⟨_, rfl, ?_⟩⟩
  have hi : i < 2 := hi
  obtain rfl | rfl : i = 0 ∨ i = 1 := by omega
  · refine ⟨by rw [add0]; show w.heap.size + 1 + 1 < _; omega, _, _, _, ?_, ?_, k1⟩
    · rw [add0, cell_of_blk hb]; rfl
    · rw [add0, cell_of_blk hb]; rfl
  · refine ⟨by rw [add0]; show w.heap.size + 1 + 1 < _; omega, _, _, _, ?_, ?_, k2⟩
    · rw [add0, cell_of_blk hb]; rfl
    · rw [add0, cell_of_blk hb]; rfl
theorem al_srt : PSrt alL := by
  refine List.pairwise_cons.2 ⟨fun y hy => ?_, List.pairwise_singleton _ _⟩
  simp at hy; subst hy; rfl
theorem al_get : getVal (plook alL [1, 2]) = .tuple #[.int .u64 6, .bool true] := rfl
theorem al_has : (plook alL [1, 3]).isSome = false := rfl
theorem al_long : lastL (begF [1, 3] alL) = ([1], 5, true) := by decide
theorem al_begs : (begF [1, 2] alL).length = 2 := by decide
end Go.Proofs.YtgijnjdcpipfiaaDoor
/- The law FindGets. -/
namespace Go.Proofs.YtgijnjdcpipfiaaDoor
open Go.RowKit
/-- what a law of 14 finds -/
def truePost (w : World) (e : Ending) (w' : World) : Prop := e = .returned (.bool true) ∧ Below w.heap.size w w'
theorem far_no {n n2 : Nat} {l : PL} (h : (decide (300 < n) || decide (600 < n2) || farL 300 l) = false) : n ≤ 300 ∧ n2 ≤ 600 ∧ ∀ x ∈ l, x.1.length ≤ 300 := by
  simp only [Bool.or_eq_false_iff, decide_eq_false_iff_not] at h
  refine ⟨by omega, by omega, fun x hx => ?_⟩
  have := h.2
  unfold farL at this
  rw [List.any_eq_false] at this
  have := this x hx
  simp at this
  exact this
theorem SrtI.short {l l0 : PL} {i m : Nat} (h : SrtI l i l0) (hk : ∀ x ∈ l, x.1.length ≤ m) : ∀ x ∈ l0, x.1.length ≤ m := fun x hx => by
  obtain ⟨z, hz, e⟩ := h.keys x hx
  rw [← e]; exact hk z hz
/-- a pair in a cell of its own -/
structure PairC (w0 w : World) (b : Nat) (x : List Nat) (a : Option Addr) (n c : Nat) (y : Int) : Prop where
  k : ∀ w', Below w.heap.size w w' → w'.cell? ⟨b, 0, none⟩ = some (.slice a n c) ∧ w'.cell? ⟨b, 1, none⟩ = some (.int .u64 y) ∧ Sl w' a n c x
theorem PairC.new {w0 w : World} {a : Option Addr} {n c : Nat} {x : List Nat} {y : Int} (t : TypeId) (h : Sl w a n c x) : PairC w0 (w.alloc (.cells #[.slice a n c, .int .u64 y] t)) w.heap.size x a n c y := ⟨fun w' hb => by
  have hk : (w.alloc (.cells #[.slice a n c, .int .u64 y] t)).heap[w.heap.size]? = some (.cells [.slice a n c, .int .u64 y].toArray t (0, 0)) := heap_alloc_new w _
  have hk' := (hb.block w.heap.size (by simp)).trans hk
  exact ⟨by rw [cell_of_blk hk']; rfl, by rw [cell_of_blk hk']; rfl, (h.below ((Below.refl _ w).alloc (Nat.le_refl _) _)).below hb⟩⟩
end Go.Proofs.YtgijnjdcpipfiaaDoor
/- The law FindAll. -/
namespace Go.Proofs.YtgijnjdcpipfiaaDoor
open Go.RowKit
theorem psrt_look {l : PL} (h : PSrt l) {i : Nat} (hi : i < l.length) : plook l (l.getD i ([], 0)).1 = some (l.getD i ([], 0)).2 :=
  plook_at (fun j hj e => by
    have := h.at_ (i := j) (j := i) hj hi
    rw [e] at this
    exact slt_irrefl _ this) hi rfl
theorem sl_of_own {w : World} {v : Value} {bs : List Nat} {n : Nat} {bo : Option Nat} (h : OwnS 1 u8T w v n (bV bs) bo) (hb : ∀ x ∈ bs, x < 256) : ∃ a c, v = .slice a n c ∧ Sl w a n c bs := by
  rcases h with ⟨rfl, rfl, e, rfl⟩ | ⟨g, cap, cur, rfl, rfl, h4, h5, h6, h7, h8, h9⟩
  · have : bs = [] := by simpa [bV] using e
    subst this
    exact ⟨none, 0, rfl, sl_nil w⟩
  · have hl : bs.length = n := by simpa [bV] using h9
    refine ⟨_, _, rfl, hl, ⟨hb, fun i hi => ⟨_, rfl, ?_, ?_⟩⟩, h5, h6, fun e => by cases e⟩
    · rw [add0]; exact (Array.getElem?_eq_some_iff.1 h4).1
    · rw [add0]
      have h4' : w.heap[g]? = some (.cells cur.toList.toArray u8T (0, 0)) := h4
      rw [cell_of_blk h4']
      have : (cur.toList.take (n * 1))[i]? = (bV bs)[i]? := by rw [h8]
      rw [List.getElem?_take, if_pos (by omega), bV_get, List.getElem?_eq_getElem hi] at this
      rw [this]
      simp [List.getD, hi]
theorem sl_news {w : World} {p : Addr} {n c : Nat} {bs : List Nat} (h : Sl w (some p) n c bs) {w' : World} (hb : Below w.heap.size w w') : ∀ j u, (bV bs)[j]? = some u → w'.cell? (p.add j) = some u := fun j u hj => by
  rw [bV_get] at hj
  have hj2 : j < bs.length := by
    by_cases h : j < bs.length
    · exact h
    · rw [List.getElem?_eq_none (by omega)] at hj; simp at hj
  rw [List.getElem?_eq_getElem hj2] at hj
  simp only [Option.map_some, Option.some.injEq] at hj
  subst hj
  obtain ⟨p', hp, h1, h2⟩ := h.at_.2 j hj2
  obtain rfl : p = p' := by simpa using hp
  rw [hb.cell h1, h2]
  simp [List.getD, hj2]
theorem run_append_nn (w : World) (t ty : TypeId) (ht : Tryd.prog.underlying t = some (.slice u8T)) (c : Nat) : (Builtin.append_ #[t, t] ty #[.slice none 0 0, .slice none 0 c]).run Tryd.prog w = .ok (.slice none 0 0) w := by
  obtain ⟨i, hi, hz, hsize, hby⟩ := info_parts cloneB_info
  have hu : ∀ w, (underlying t).run Tryd.prog w = .ok (.slice u8T) w := fun w => by simp [underlying, go_sem, ht]
  have hs : ∀ w, (sizeOf u8T).run Tryd.prog w = .ok 1 w := fun w => by
    have hi' : Tryd.prog.info? u8T = some i := hi
    simp [sizeOf, typeInfo, go_sem, hi', hsize]
  simp only [Builtin.append_, Sem.run_bind, Result.andThen_ok, hu, hs, List.getElem?_toArray, List.getElem?_cons_zero, List.getElem?_cons_succ]
  simp [go_sem, hu, hs]
theorem wpList_append_b {w : World} {ops : Array Oper} {rest : List Oper} {o : Oper} {a : Act} {Q : Exit → Act → World → Prop} (hgd : o.guard = none) (s x : Operand) (t : TypeId)
    (ho : o.op = .call { callee := .builtin .append, args := #[s, x], argTypes := #[t, t] }) (ht : Tryd.prog.underlying t = some (.slice u8T)) (hs : a.eval s = .slice none 0 0)
    (a3 : Option Addr) (n3 c3 : Nat) (bs : List Nat) (hx : a.eval x = .slice a3 n3 c3) (hS : Sl w a3 n3 c3 bs) (hn : n3 ≤ 1000)
    (h : ∀ v' w' bo', Hid (OwnS 1 u8T w' v' n3 (bV bs) bo') → Hid (Below w.heap.size w w') → Hid (NewOr w none bo') → wpList Tryd.prog ops Q rest (a.put o.dst v') w') : wpList Tryd.prog ops Q (o :: rest) a w := by
  have hl := hS.len
  cases a3 with
  | none =>
    obtain ⟨rfl, rfl⟩ := hS.nil rfl
    obtain rfl : bs = [] := List.eq_nil_of_length_eq_zero hl
    refine wpList_plain hgd fun K hK => ?_
    have hr := run_append_nn w t o.type ht 0
    unfold Oper.wp execOp
    simp only [ho, resolve, invoke, builtin, Sem.run_bind, Sem.run_pure, Result.andThen_ok, List.map_toArray, List.map_cons, List.map_nil, hs, hx, hr]
    exact hK _ _ (h _ w none (OwnS.nil _ _ _) (Below.refl _ w) (Or.inl rfl))
  | some p =>
    refine wpList_append_s hgd s x t ho u8T (.int .u8 0) 1 1 ht cloneB_info rfl (by omega) (.slice none 0 0) hs 0 [] none (OwnS.nil _ _ _) p n3 c3 (bV bs) hx (by simp [bV, hl]) (sl_news hS (Below.refl _ w)) (bV_one bs) (by unfold maxLen; omega) (by omega) ?_
    intro v' w' bo' H1 H2 H3
    have H1' := H1.out
    rw [Nat.zero_add, List.nil_append] at H1'
    exact h v' w' bo' H1' (H2.out.belowOf (Nat.le_refl _) (fun _ e => by cases e)) H3
/-- behind the two appends -/
theorem all_aft {w3 wr w4 : World} {a3 : Option Addr} {n3 c3 : Nat} {x : List Nat} {y : Int} {t : TypeId} {bo1 : Option Nat} {b : Nat} (hb : b < 256) (hR : Below w3.heap.size w3 wr) (hM : Below (wr.alloc (.cells #[.slice a3 n3 c3, .int .u64 y] t)).heap.size (wr.alloc (.cells #[.slice a3 n3 c3, .int .u64 y] t)) w4) (hN : NewOr (wr.alloc (.cells #[.slice a3 n3 c3, .int .u64 y] t)) none bo1) (hx : ∀ z ∈ x, z < 256) :
    ∀ v2 w5 bo2, OwnS 1 u8T w5 v2 (n3 + 1) (bV x ++ [.int .u8 (b : Nat)]) bo2 → Mod (fun k => bo1 = some k) (w4.alloc (.cells #[.int .u8 (b : Nat)] 5)) w5 → ∃ a5 c5, v2 = .slice a5 (n3 + 1) c5 ∧ w5.cell? ⟨wr.heap.size, 0, none⟩ = some (.slice a3 n3 c3) ∧ w5.cell? ⟨wr.heap.size, 1, none⟩ = some (.int .u64 y) ∧ Sl w5 a5 (n3 + 1) c5 (x ++ [b]) ∧ Below wr.heap.size wr w5 := fun v2 w5 bo2 hO hm => by
  have hk : (wr.alloc (.cells #[.slice a3 n3 c3, .int .u64 y] t)).heap[wr.heap.size]? = some (.cells [.slice a3 n3 c3, .int .u64 y].toArray t (0, 0)) := heap_alloc_new wr _
  obtain ⟨wB, hwB⟩ : ∃ wB, wB = wr.alloc (.cells #[.slice a3 n3 c3, .int .u64 y] t) := ⟨_, rfl⟩
  have b0 : Below wr.heap.size wr wB := by rw [hwB]; exact (Below.refl _ _).alloc (Nat.le_refl _) _
  have sB : wB.heap.size = wr.heap.size + 1 := by rw [hwB]; simp
  rw [← hwB] at hM hN hk
  have bo : bo1 = none ∨ ∃ g, bo1 = some g ∧ wB.heap.size ≤ g := by
    rcases hN with e | ⟨g, e, h⟩
    · exact Or.inl e
    · exact Or.inr ⟨g, e, h⟩
  have h1 : Below wB.heap.size wB (w4.alloc (.cells #[.int .u8 (b : Nat)] 5)) := hM.alloc hM.size _
  have h2 : Below wB.heap.size wB w5 := h1.trans (hm.sinceOf bo h1.size)
  have hk5 := (h2.block wr.heap.size (by omega)).trans hk
  have hbv : bV x ++ [.int .u8 (b : Nat)] = bV (x ++ [b]) := by simp [bV]
  rw [hbv] at hO
  obtain ⟨a5, c5, e, hS⟩ := sl_of_own hO (by
    intro z hz
    rcases List.mem_append.1 hz with hz | hz
    · exact hx z hz
    · rw [List.mem_singleton.1 hz]; exact hb)
  exact ⟨a5, c5, e, by rw [cell_of_blk hk5]; rfl, by rw [cell_of_blk hk5]; rfl, hS, b0.trans (h2.mono b0.size)⟩
end Go.Proofs.YtgijnjdcpipfiaaDoor
/- The document's trees in memory, and one that is under way. -/
namespace Go.Proofs.YtgijnjdcpipfiaaDoor
open Go.RowKit
/-- bytes that stand in some blocks -/
structure SlG (w : World) (G : Nat → Prop) (a : Option Addr) (n c : Nat) (bs : List Nat) : Prop where
  sl : Sl w a n c bs
  ok : bs ≠ [] → ∀ p, a = some p → G p.block
section
variable {w w' : World} {G G' : Nat → Prop} {a : Option Addr} {n c : Nat} {bs : List Nat}
theorem SlG.keep (h : SlG w G a n c bs) (hs : w.heap.size ≤ w'.heap.size) (hk : ∀ j, G j → w'.heap[j]? = w.heap[j]?) : SlG w' G a n c bs :=
  ⟨⟨h.sl.len, ⟨h.sl.at_.1, fun i hi => by
    obtain ⟨p, e, q1, q2⟩ := h.sl.at_.2 i hi
    refine ⟨p, e, Nat.lt_of_lt_of_le q1 hs, ?_⟩
    rw [← q2]
    unfold World.cell?
    rw [add_block, hk p.block (h.ok (by rintro rfl; simp at hi) p e)]⟩, h.sl.cap, h.sl.capm, h.sl.nil⟩, h.ok⟩
theorem SlG.mono (h : SlG w G a n c bs) (hG : ∀ j, G j → G' j) : SlG w G' a n c bs := ⟨h.sl, fun e p q => hG _ (h.ok e p q)⟩
theorem SlG.of (h : Sl w a n c bs) (hG : ∀ j, j < w.heap.size → G j) : SlG w G a n c bs := ⟨h, fun e p q => by
  have hl : 0 < bs.length := List.length_pos_iff.2 e
  obtain ⟨p', e', q1, _⟩ := h.at_.2 0 hl
  rw [q] at e'
  obtain rfl : p = p' := by simpa using e'
  rw [add_block] at q1
  exact hG _ q1⟩
end
/-- a node's first cell -/
def rkind (leaf : Bool) (ks : Tr) : Nat := if leaf then 1 else kindOf (chain ks).length
/-- a tree of the document's: a node by its six cells; a row of kids by where it stands -/
def RT (w : World) (G : Nat → Prop) : Tr → Option Addr → Nat → List Value → Prop
  | .nil, _, _, _ => True
  | .kid b t r, ka, i, _ => (∃ g c, ka = some ⟨g, 0, none⟩ ∧ G g ∧ c.length = 6 ∧ (∀ j, j < 6 → w.cell? ⟨g, i * 6 + j, none⟩ = c[j]?) ∧ RT w G t none 0 c) ∧ RT w G r ka (i + 1) []
  | .node bs v has leaf ks, _, _, c => ∃ pa pn pc ba bn bc ka kn kc, c = [.int .i64 (rkind leaf ks : Nat), .slice pa pn pc, .bool has, .int .u64 v, .slice ba bn bc, .slice ka kn kc] ∧ SlG w G pa pn pc bs ∧ SlG w G ba bn bc ((chain ks).map (·.1)) ∧ kn = (chain ks).length ∧ kn ≤ kc ∧ RT w G ks ka 0 []
theorem RT.keep {w w' : World} {G : Nat → Prop} (hs : w.heap.size ≤ w'.heap.size) (hk : ∀ j, G j → w'.heap[j]? = w.heap[j]?) : ∀ {t : Tr} {ka : Option Addr} {i : Nat} {c : List Value}, RT w G t ka i c → RT w' G t ka i c
  | .nil, _, _, _, _ => trivial
  | .kid b t r, ka, i, c, ⟨⟨g, d, h1, h2, h3, h4, h5⟩, h6⟩ => ⟨⟨g, d, h1, h2, h3, fun j hj => by
      rw [← h4 j hj]
      unfold World.cell?
      show (match w'.heap[g]? with | _ => _) = _
      rw [hk g h2], RT.keep hs hk h5⟩, RT.keep hs hk h6⟩
  | .node bs v has leaf ks, ka, i, c, ⟨pa, pn, pc, ba, bn, bc, ka', kn, kc, h1, h2, h3, h4, h5, h6⟩ => ⟨pa, pn, pc, ba, bn, bc, ka', kn, kc, h1, h2.keep hs hk, h3.keep hs hk, h4, h5, RT.keep hs hk h6⟩
theorem RT.mono {w : World} {G G' : Nat → Prop} (hG : ∀ j, G j → G' j) : ∀ {t : Tr} {ka : Option Addr} {i : Nat} {c : List Value}, RT w G t ka i c → RT w G' t ka i c
  | .nil, _, _, _, _ => trivial
  | .kid b t r, ka, i, c, ⟨⟨g, d, h1, h2, h3, h4, h5⟩, h6⟩ => ⟨⟨g, d, h1, hG g h2, h3, h4, RT.mono hG h5⟩, RT.mono hG h6⟩
  | .node bs v has leaf ks, ka, i, c, ⟨pa, pn, pc, ba, bn, bc, ka', kn, kc, h1, h2, h3, h4, h5, h6⟩ => ⟨pa, pn, pc, ba, bn, bc, ka', kn, kc, h1, h2.mono hG, h3.mono hG, h4, h5, RT.mono hG h6⟩
theorem flat6_get : ∀ (cs : List (List Value)), (∀ c ∈ cs, c.length = 6) → ∀ (q : Nat) (c : List Value), cs[q]? = some c → ∀ j, j < 6 → (cs.flatten)[q * 6 + j]? = c[j]?
  | [], _, q, c, h, _, _ => by simp at h
  | x :: cs, h, 0, c, e, j, hj => by
    have hx := h x (by simp)
    obtain rfl : x = c := by simpa using e
    rw [List.flatten_cons, List.getElem?_append_left (by omega)]
    simp
  | x :: cs, h, q + 1, c, e, j, hj => by
    have hx := h x (by simp)
    rw [List.flatten_cons, List.getElem?_append_right (by omega)]
    have := flat6_get cs (fun y hy => h y (by simp [hy])) q c (by simpa using e) j hj
    rw [← this]
    congr 1
    omega
theorem rt_row {w : World} {G : Nat → Prop} {g : Nat} (hg : G g) : ∀ (L : List (Nat × Tr)) (i : Nat), (∀ q x, L[q]? = some x → ∃ c, c.length = 6 ∧ (∀ j, j < 6 → w.cell? ⟨g, (i + q) * 6 + j, none⟩ = c[j]?) ∧ RT w G x.2 none 0 c) → RT w G (ofL L) (some ⟨g, 0, none⟩) i []
  | [], _, _ => trivial
  | x :: L, i, h => by
    obtain ⟨c, h1, h2, h3⟩ := h 0 x rfl
    refine ⟨⟨g, c, rfl, hg, h1, by simpa using h2, h3⟩, rt_row hg L (i + 1) fun q y hy => ?_⟩
    obtain ⟨d, k1, k2, k3⟩ := h (q + 1) y (by simpa using hy)
    exact ⟨d, k1, fun j hj => by rw [← k2 j hj]; congr 3; omega, k3⟩
/-- what the kids' trees may read, while a node is under way -/
def Gd (w0 w : World) (nb : Nat) (bo1 bo2 : Option Nat) (wr : World) (j : Nat) : Prop := (j < w0.heap.size ∨ w.heap.size ≤ j) ∧ j < wr.heap.size ∧ j ≠ nb ∧ bo1 ≠ some j ∧ bo2 ≠ some j
/-- what a tree that is made reads -/
def Gn (w0 w : World) (wr : World) (j : Nat) : Prop := (j < w0.heap.size ∨ w.heap.size ≤ j) ∧ j < wr.heap.size
section
variable {w0 w wr w' : World} {nb : Nat} {pv : Value} {hs : Bool} {val : Int} {B : List Nat} {T : List Tr} {cs : List (List Value)} {bv kv : Value} {bo1 bo2 : Option Nat}
end
end Go.Proofs.YtgijnjdcpipfiaaDoor
/- The document's shared: how many bytes the keys of pairs that rise begin with alike. -/
namespace Go.Proofs.YtgijnjdcpipfiaaDoor
open Go.RowKit
theorem srt_lcp {l : PL} (hs : PSrt l) (h2 : 2 ≤ l.length) {j : Nat} (hj : j < l.length) : lcp (l.getD 0 ([], 0)).1 (l.getD (l.length - 1) ([], 0)).1 ≤ lcp (l.getD 0 ([], 0)).1 (l.getD j ([], 0)).1 := by
  obtain ⟨bs, l2, hS, e1, e2⟩ := start_of hs h2
  have hl := congrArg List.length hS.eq
  rw [pre_length] at hl
  rw [← e1, hS.eq, pre_getD _ (by omega), pre_getD _ (by omega), lcp_pre]
  omega
end Go.Proofs.YtgijnjdcpipfiaaDoor
/- The document's build: what it leaves; of one pair. -/
namespace Go.Proofs.YtgijnjdcpipfiaaDoor
open Go.RowKit
def bldPost (w0 : World) (l : PL) (w : World) (e : Ending) (w' : World) : Prop :=
  ∃ (t : Tr) (kd : Int) (pa : Option Addr) (pn pc : Nat) (hs : Bool) (v : Int) (ba : Option Addr) (bn bc : Nat) (ka : Option Addr) (kn kc : Nat),
    e = .returned (.agg #[.int .i64 kd, .slice pa pn pc, .bool hs, .int .u64 v, .slice ba bn bc, .slice ka kn kc]) ∧ RT w' (Gn w0 w w') t none 0 [.int .i64 kd, .slice pa pn pc, .bool hs, .int .u64 v, .slice ba bn bc, .slice ka kn kc] ∧ IsN t ∧ TOk t ∧ Can t ∧ tl t = l ∧ Below w.heap.size w w'
/-! a box of six -/
theorem six_facts {w : World} {rb : Nat} {x0 x1 x2 x3 x4 x5 : Value} {t : TypeId} (h : w.heap[rb]? = some (.cells [x0, x1, x2, x3, x4, x5].toArray t (0, 0))) :
    w.cell? ⟨rb, 0, none⟩ = some x0 ∧ w.cell? ⟨rb, 1, none⟩ = some x1 ∧ w.cell? ⟨rb, 2, none⟩ = some x2 ∧ w.cell? ⟨rb, 3, none⟩ = some x3 ∧ w.cell? ⟨rb, 4, none⟩ = some x4 ∧ w.cell? ⟨rb, 5, none⟩ = some x5 ∧ w.frozen? ⟨rb, 0, none⟩ = false ∧ w.frozen? ⟨rb, 1, none⟩ = false ∧ w.frozen? ⟨rb, 2, none⟩ = false ∧ w.frozen? ⟨rb, 3, none⟩ = false ∧ w.frozen? ⟨rb, 4, none⟩ = false ∧ w.frozen? ⟨rb, 5, none⟩ = false :=
  ⟨by rw [cell_of_blk h]; rfl, by rw [cell_of_blk h]; rfl, by rw [cell_of_blk h]; rfl, by rw [cell_of_blk h]; rfl, by rw [cell_of_blk h]; rfl, by rw [cell_of_blk h]; rfl, frozen_of_blk h 0, frozen_of_blk h 1, frozen_of_blk h 2, frozen_of_blk h 3, frozen_of_blk h 4, frozen_of_blk h 5⟩
theorem six_new (w : World) (x0 x1 x2 x3 x4 x5 : Value) (t : TypeId) : (w.alloc (.cells #[x0, x1, x2, x3, x4, x5] t)).heap[w.heap.size]? = some (.cells [x0, x1, x2, x3, x4, x5].toArray t (0, 0)) := heap_alloc_new w _
theorem six_fin {w : World} {rb : Nat} {x0 x1 x2 x3 x4 x5 : Value} {t : TypeId} (h : w.heap[rb]? = some (.cells [x0, x1, x2, x3, x4, x5].toArray t (0, 0))) (v0 v1 v2 v3 v4 v5 : Value) (w8 : World) (e : w8 = (((((w.setCell ⟨rb, 0, none⟩ v0).setCell ⟨rb, 1, none⟩ v1).setCell ⟨rb, 2, none⟩ v2).setCell ⟨rb, 3, none⟩ v3).setCell ⟨rb, 4, none⟩ v4).setCell ⟨rb, 5, none⟩ v5) :
    w8.heap[rb]? = some (.cells [v0, v1, v2, v3, v4, v5].toArray t (0, 0)) ∧ Mod (fun j => j = rb) w w8 := by
  subst e
  have z0 : (w.setCell ⟨rb, 0, none⟩ v0).heap[rb]? = some (.cells [v0, x1, x2, x3, x4, x5].toArray t (0, 0)) := by
    rw [setCell_list _ _ _ _ _ _ h, setRow_heap _ _ _ _ _ _ h]; rfl
  have z1 : ((w.setCell ⟨rb, 0, none⟩ v0).setCell ⟨rb, 1, none⟩ v1).heap[rb]? = some (.cells [v0, v1, x2, x3, x4, x5].toArray t (0, 0)) := by
    rw [setCell_list _ _ _ _ _ _ z0, setRow_heap _ _ _ _ _ _ z0]; rfl
  have z2 : (((w.setCell ⟨rb, 0, none⟩ v0).setCell ⟨rb, 1, none⟩ v1).setCell ⟨rb, 2, none⟩ v2).heap[rb]? = some (.cells [v0, v1, v2, x3, x4, x5].toArray t (0, 0)) := by
    rw [setCell_list _ _ _ _ _ _ z1, setRow_heap _ _ _ _ _ _ z1]; rfl
  have z3 : ((((w.setCell ⟨rb, 0, none⟩ v0).setCell ⟨rb, 1, none⟩ v1).setCell ⟨rb, 2, none⟩ v2).setCell ⟨rb, 3, none⟩ v3).heap[rb]? = some (.cells [v0, v1, v2, v3, x4, x5].toArray t (0, 0)) := by
    rw [setCell_list _ _ _ _ _ _ z2, setRow_heap _ _ _ _ _ _ z2]; rfl
  have z4 : (((((w.setCell ⟨rb, 0, none⟩ v0).setCell ⟨rb, 1, none⟩ v1).setCell ⟨rb, 2, none⟩ v2).setCell ⟨rb, 3, none⟩ v3).setCell ⟨rb, 4, none⟩ v4).heap[rb]? = some (.cells [v0, v1, v2, v3, v4, x5].toArray t (0, 0)) := by
    rw [setCell_list _ _ _ _ _ _ z3, setRow_heap _ _ _ _ _ _ z3]; rfl
  refine ⟨by rw [setCell_list _ _ _ _ _ _ z4, setRow_heap _ _ _ _ _ _ z4]; rfl, ?_⟩
  exact ((((((Mod.refl (fun j => j = rb) w).setCell ⟨rb, 0, none⟩ _ (fun _ => rfl)).setCell ⟨rb, 1, none⟩ _ (fun _ => rfl)).setCell ⟨rb, 2, none⟩ _ (fun _ => rfl)).setCell ⟨rb, 3, none⟩ _ (fun _ => rfl)).setCell ⟨rb, 4, none⟩ _ (fun _ => rfl)).setCell ⟨rb, 5, none⟩ _ (fun _ => rfl)
end Go.Proofs.YtgijnjdcpipfiaaDoor
/- The document's build: its node under way, what it needs. -/
namespace Go.Proofs.YtgijnjdcpipfiaaDoor
open Go.RowKit
theorem news_alloc (w : World) (xs : List Value) (t : TypeId) : ∀ j u, xs[j]? = some u → (w.alloc (.cells xs.toArray t)).cell? ((⟨w.heap.size, 0, none⟩ : Addr).add j) = some u := fun j u h => by
  have hb : (w.alloc (.cells xs.toArray t)).heap[w.heap.size]? = some (.cells xs.toArray t (0, 0)) := heap_alloc_new w _
  rw [add0, cell_of_blk hb]; exact h
theorem hz6 : (Value.agg #[.int .i64 0, .slice none 0 0, .bool false, .int .u64 0, .slice none 0 0, .slice none 0 0]).cells.size = 6 := rfl
theorem step_b {w : World} {ops : Array Oper} {o : Oper} {a : Act} {K : Act → World → Prop} {Q : Exit → Act → World → Prop} {E : Prop} (hgd : o.guard = none) (s x : Operand)
    (ho : o.op = .call { callee := .builtin .append, args := #[s, x], argTypes := #[24, 24] })
    (v : Value) (hs : a.eval s = v) (n : Nat) (xs : List Value) (bo : Option Nat) (hown : OwnS 1 u8T w v n xs bo)
    (ad : Addr) (c : Nat) (news : List Value) (hx : a.eval x = .slice (some ad) 1 c) (hl : news.length = 1) (hnews : ∀ j u, news[j]? = some u → w.cell? (ad.add j) = some u) (h1 : ∀ u ∈ news, u.oneCell' = true)
    (hn : n ≤ 256)
    (h : ∀ v' w' bo', Hid (OwnS 1 u8T w' v' (n + 1) (xs ++ news) bo') → Hid (Mod (fun k => bo = some k) w w') → Hid (NewOr w bo bo') → K (a.put o.dst v') w') : if Region.wanted o (yielded ops a.tmps) = true then Oper.wp Tryd.prog o a w K Q else E :=
  step_append_s hgd s x 24 ho u8T _ 1 1 Tryd.underlying24 cloneB_info rfl (by omega) v hs n xs bo hown ad 1 c news hx hl hnews h1 (by unfold maxLen; omega) (by omega) h
theorem ups_len : ∀ {l : List Nat} {m : Nat}, l.Pairwise (· < ·) → (∀ x ∈ l, m ≤ x ∧ x < 256) → l.length + m ≤ 256 ∨ l = []
  | [], _, _, _ => Or.inr rfl
  | x :: l, m, h, hx => by
    left
    have h1 := hx x (by simp)
    obtain ⟨h2, h3⟩ := List.pairwise_cons.1 h
    rcases ups_len (m := x + 1) h3 (fun y hy => ⟨h2 y hy, (hx y (by simp [hy])).2⟩) with h4 | rfl
    · rw [List.length_cons]; omega
    · simp; omega
theorem ups256 {l : List Nat} (h : l.Pairwise (· < ·)) (hx : ∀ x ∈ l, x < 256) : l.length ≤ 256 := by
  rcases ups_len (m := 0) h (fun x q => ⟨Nat.zero_le _, hx x q⟩) with h | rfl
  · omega
  · simp
section
variable {w0 w wr w' : World} {nb : Nat} {pv : Value} {hs : Bool} {val : Int} {B : List Nat} {T : List Tr} {cs : List (List Value)} {bv kv : Value} {bo1 bo2 : Option Nat}
end
/-- where a pair of what is left stands among all -/
theorem left_at {l2 dn r : PL} {i : Nat} (h : l2 = dn ++ r) (hi : dn.length = i) (m : Nat) : l2.getD (i + m) ([], 0) = r.getD m ([], 0) := by
  subst h; subst hi
  rw [List.getD, List.getD, List.getElem?_append_right (by omega), Nat.add_sub_cancel_left]
end Go.Proofs.YtgijnjdcpipfiaaDoor
/- ser's num and Num, and the document's Num. -/
namespace Go.Proofs.YtgijnjdcpipfiaaDoor
open Go.RowKit
theorem append_b1 {w : World} {ops : Array Oper} {rest : List Oper} {o : Oper} {a : Act} {Q : Exit → Act → World → Prop} (hgd : o.guard = none) (s x : Operand)
    (ho : o.op = .call { callee := .builtin .append, args := #[s, x], argTypes := #[24, 24] })
    (v : Value) (hs : a.eval s = v) (n : Nat) (xs : List Value) (bo : Option Nat) (hown : OwnS 1 u8T w v n xs bo)
    (ad : Addr) (m c : Nat) (news : List Value) (hx : a.eval x = .slice (some ad) m c) (hl : news.length = m) (hnews : ∀ j u, news[j]? = some u → w.cell? (ad.add j) = some u) (h1 : ∀ u ∈ news, u.oneCell' = true)
    (hn : n ≤ 1000000) (hm : m ≤ 1000000)
    (h : ∀ v' w' bo', Hid (OwnS 1 u8T w' v' (n + m) (xs ++ news) bo') → Hid (Mod (fun k => bo = some k) w w') → Hid (NewOr w bo bo') → wpList Tryd.prog ops Q rest (a.put o.dst v') w') : wpList Tryd.prog ops Q (o :: rest) a w :=
  wpList_append_s hgd s x 24 ho u8T _ 1 1 Tryd.underlying24 cloneB_info rfl (by omega) v hs n xs bo hown ad m c news hx (by rw [hl]; omega) hnews h1 (by unfold maxLen; omega) (by omega) h
theorem mod_step {w wr X w5 : World} {bo0 bo bo' : Option Nat} (h1 : Mod (fun j => bo0 = some j) w wr) (n1 : NewOr w bo0 bo) (hX : Below wr.heap.size wr X) (hm : Mod (fun j => bo = some j) X w5) (n2 : NewOr X bo bo') : Mod (fun j => bo0 = some j) w w5 ∧ NewOr w bo0 bo' := by
  refine ⟨⟨hm.os.trans (hX.os.trans h1.os), hm.tape.trans (hX.tape.trans h1.tape), hm.output.trans (hX.output.trans h1.output), Nat.le_trans h1.size (Nat.le_trans hX.size hm.size), fun j hj hne => ?_⟩, ?_⟩
  · have hjw := Nat.lt_of_lt_of_le hj h1.size
    rw [hm.same j (Nat.lt_of_lt_of_le hjw hX.size) (fun e => ?_), hX.block j hjw, h1.same j hj hne]
    rcases n1 with e1 | ⟨g, e1, hg⟩
    · rw [e1] at e; exact hne e
    · rw [e1] at e; cases e; omega
  · rcases n2 with e2 | ⟨g, e2, hg⟩
    · rw [e2]; exact n1
    · exact Or.inr ⟨g, e2, Nat.le_trans h1.size (Nat.le_trans hX.size hg)⟩
/-- what num leaves: the bytes behind others; only their own block, or a new one, is written -/
def numPost (bo : Option Nat) (w : World) (xs : List Nat) (n : Nat) (e : Ending) (w' : World) : Prop :=
  ∃ (v' : Value) (M : Nat) (bo' : Option Nat), e = .returned v' ∧ M = xs.length + (numL n).length ∧ OwnS 1 u8T w' v' M (bV (xs ++ numL n)) bo' ∧ Mod (fun j => bo = some j) w w' ∧ NewOr w bo bo'
/-- so far -/
structure NumI (bo0 : Option Nat) (w : World) (xs : List Nat) (n : Nat) (ys : List Nat) (k M : Nat) (v : Value) (bo : Option Nat) (wr : World) : Prop where
  own : OwnS 1 u8T wr v M (bV (xs ++ ys)) bo
  len : M = xs.length + ys.length
  eq : ys ++ numL k = numL n
  mod : Mod (fun j => bo0 = some j) w wr
  new : NewOr w bo0 bo
section
variable {bo0 bo bo' : Option Nat} {w wr w5 : World} {xs ys : List Nat} {n k M b k' : Nat} {v v' : Value} {t : TypeId}
theorem NumI.small (h : NumI bo0 w xs n ys k M v bo wr) (hn : n < 18446744073709551616) (hx : xs.length ≤ 900000) : M ≤ 900010 := by
  have h1 := congrArg List.length h.eq
  rw [List.length_append] at h1
  have := numL_ten hn
  have := h.len
  omega
/-- a byte more -/
theorem NumI.more (h : NumI bo0 w xs n ys k M v bo wr) (e : numL k = b :: numL k') (hO : OwnS 1 u8T w5 v' (M + 1) (bV (xs ++ ys) ++ [.int .u8 (b : Nat)]) bo') (hm : Mod (fun k => bo = some k) (wr.alloc (.cells #[.int .u8 (b : Nat)] t)) w5) (hn : NewOr (wr.alloc (.cells #[.int .u8 (b : Nat)] t)) bo bo') : NumI bo0 w xs n (ys ++ [b]) k' (M + 1) v' bo' w5 := by
  have hA : Below wr.heap.size wr (wr.alloc (.cells #[.int .u8 (b : Nat)] t)) := (Below.refl _ _).alloc (Nat.le_refl _) _
  obtain ⟨q1, q2⟩ := mod_step h.mod h.new hA hm hn
  refine ⟨?_, by rw [List.length_append, h.len]; simp; omega, by rw [← h.eq, e]; simp, q1, q2⟩
  have e2 : bV (xs ++ (ys ++ [b])) = bV (xs ++ ys) ++ [.int .u8 (b : Nat)] := by simp [bV]
  rw [e2]
  exact hO
theorem NumI.last (h : NumI bo0 w xs n ys k M v bo wr) (e : numL k = [k]) (hO : OwnS 1 u8T w5 v' (M + 1) (bV (xs ++ ys) ++ [.int .u8 (k : Nat)]) bo') (hm : Mod (fun k => bo = some k) (wr.alloc (.cells #[.int .u8 (k : Nat)] t)) w5) (hn : NewOr (wr.alloc (.cells #[.int .u8 (k : Nat)] t)) bo bo') : numPost bo0 w xs n (.returned v') w5 := by
  have hA : Below wr.heap.size wr (wr.alloc (.cells #[.int .u8 (k : Nat)] t)) := (Below.refl _ _).alloc (Nat.le_refl _) _
  obtain ⟨q1, q2⟩ := mod_step h.mod h.new hA hm hn
  have he := h.eq
  rw [e] at he
  refine ⟨v', M + 1, bo', rfl, by rw [← he, List.length_append, h.len]; simp; omega, ?_, q1, q2⟩
  have e2 : bV (xs ++ numL n) = bV (xs ++ ys) ++ [.int .u8 (k : Nat)] := by rw [← he]; simp [bV]
  rw [e2]
  exact hO
end
end Go.Proofs.YtgijnjdcpipfiaaDoor
/- A leaf, and nobody: how many, head, laid, encoded. -/
namespace Go.Proofs.YtgijnjdcpipfiaaDoor
open Go.RowKit
theorem row_len : ∀ (r : Tr), IsK r → TOk r → Can r → (chain r).length ≤ (tl r).length
  | .nil, _, _, _ => by simp [chain]
  | .node .., h, _, _ => h.elim
  | .kid b t r, _, ⟨h1, h2, h3, h4, h5, h6⟩, ⟨c1, c2⟩ => by
    have h := row_len r h4 h5 c2
    have h0 : 0 < (tl t).length := List.length_pos_iff.2 (tl_ne t h2 h3 c1)
    simp only [chain, tl, List.length_cons, List.length_append, pre_length]
    omega
theorem one_leaf {t : Tr} {k : List Nat} {v : Int} (hn : IsN t) (hO : TOk t) (hC : Can t) (h : tl t = [(k, v)]) : t = .node k v true true .nil := by
  cases t with
  | nil => exact hn.elim
  | kid => exact hn.elim
  | node bs y has leaf ks =>
    obtain ⟨o1, o2, o3, o4, o5, o6, o7⟩ := hO
    obtain ⟨c1, c2⟩ := hC
    cases leaf with
    | true =>
      obtain ⟨rfl, rfl⟩ := o5 rfl
      simp [tl] at h
      obtain ⟨rfl, rfl⟩ := h
      rfl
    | false =>
      exfalso
      have h1 := row_len ks o6 o7 c1
      have h2 := c2 rfl
      have h3 := congrArg List.length h
      simp only [tl, List.length_append, pre_length] at h3
      cases has <;> simp only [Bool.false_eq_true, if_false, if_true, List.length_nil, List.length_cons] at h2 h3 <;> omega
/-- a part, and where it is laid -/
def partAt (bs : List Nat) (w : World) (e : Ending) (w' : World) : Prop := e = .returned (.slice (some ⟨w.heap.size, 0, none⟩) bs.length bs.length) ∧ Sl w' (some ⟨w.heap.size, 0, none⟩) bs.length bs.length bs ∧ Below w.heap.size w w'
section
variable {w : World} {n : Nat} {o : Int} {bs : List Nat} {val : Int} {has : Bool} {kk : Option KV} {pv : Value} {bo : Option Nat} {kp : Option Addr} {Sk : Nat → Prop}
set_option maxRecDepth 100000 in
theorem nd_part_at (h : NdIs w n o bs val has kk pv bo kp Sk) (h8 : ∀ x ∈ bs, x < 256) (hn : bs.length ≤ 140737488355328) : Calls Tryd.prog 41 #[.pointer (some ⟨n, 0, none⟩)] w (partAt bs w) := by
  have c1 := h.c1
  have hmx : Hid (bs.length ≤ maxLen) := by show _ ≤ _; unfold maxLen; omega
  obtain ⟨pa, pc, hpv⟩ := h.own.len
  subst hpv
  have hl : (bV bs).length = bs.length := by simp [bV]
  rw [hl] at c1
  have hmk : ∀ w, (Instr.makeSlice 24 (.int .i64 (bs.length : Nat)) (.int .i64 (bs.length : Nat))).run Tryd.prog w = .ok (.slice (some ⟨w.heap.size, 0, none⟩) bs.length bs.length) (w.alloc (.cells (List.replicate bs.length (.int .u8 0)).toArray 5)) := fun w => make_u8 w _ hn
  have c1' : ∀ o, (w.alloc o).cell? ⟨n, 1, none⟩ = some (.slice pa bs.length pc) := fun o => (((Below.refl _ w).alloc (Nat.le_refl _) o).cell (p := ⟨n, 1, none⟩) h.lt).trans c1
  have hsz : (Tryd.prog.info? 5).map (·.size) = some 1 := by kernel_rfl
  have hg : Hid (∀ t, (w.alloc (.cells (Array.replicate bs.length (.int .u8 0)) t)).heap[w.heap.size]? = some (.cells (List.replicate bs.length (Value.int .u8 0)).toArray t (0, 0))) := fun t => by
    rw [heap_alloc_new]; simp
  have hcs : Hid ((bV bs).length = Nat.min bs.length bs.length) := by
    have : Nat.min bs.length bs.length = bs.length := Nat.min_self _
    show _ = _
    rw [hl, this]
  have hpos : Hid (∀ o, 0 < (bV bs).length → (some ⟨w.heap.size, 0, none⟩ : Option Addr) = some ⟨w.heap.size, 0, none⟩ ∧ ∃ ad, pa = some ad ∧ ∀ j v, (bV bs)[j]? = some v → (w.alloc o).cell? (ad.add j) = some v) := fun o hp => by
    obtain ⟨g, cap, e1, e2, _⟩ := h.own.at_ hp
    have e3 : pa = some ⟨g, 0, none⟩ := by simpa using (Value.slice.inj e2).1
    refine ⟨rfl, ⟨g, 0, none⟩, e3, fun j v hj => ?_⟩
    have hjl : j < (bV bs).length := (List.getElem?_eq_some_iff.1 hj).1
    have hv : (bV bs)[j] = v := (List.getElem?_eq_some_iff.1 hj).2
    obtain ⟨g', cap', q1, q2, q3, _⟩ := h.own.at_ hjl
    obtain rfl : g = g' := by rw [e1] at q1; simpa using q1
    have hlt := h.own
    rw [e1] at hlt
    have h2 : (⟨g, 0, none⟩ : Addr).add j = ⟨g, j, none⟩ := add0 g j
    rw [h2, ((Below.refl _ w).alloc (Nat.le_refl _) o).cell (p := ⟨g, j, none⟩) hlt.lt, q3, hv]
  have hfit : Hid (0 + (bV bs).length ≤ (List.replicate bs.length (Value.int .u8 0)).length) := by show _ ≤ _; simp [hl]
  have hone := Lib.hid (bV_one bs)
  have hB : Hid (∀ o, Below w.heap.size w (w.alloc o)) := fun o => (Below.refl _ w).alloc (Nat.le_refl _) o
  have hend : Hid (∀ w' t, w'.heap[w.heap.size]? = some (.cells (splice (List.replicate bs.length (Value.int .u8 0)) 0 (bV bs)).toArray t (0, 0)) → BytesAt w' (some ⟨w.heap.size, 0, none⟩) bs) := fun w' t q => by
    refine ⟨h8, fun i hi => ⟨_, rfl, ?_, ?_⟩⟩
    · rw [add0]
      exact (Array.getElem?_eq_some_iff.1 q).1
    · rw [add0, cell_of_blk q]
      simp [splice, hl, bV, List.getD, hi]
  clear h hn h8
  go_enter Tryd.func41, Tryd.ntmps41
  go_wp2_with (with_reducible show wpList _ _ _ (⟨some 17, _, _, _, _, _⟩ :: _) _ _; refine wpList_copy_splice (o := ⟨some 17, _, _, _, _, _⟩) rfl (.tmp 12) (.tmp 16) 24 24 rfl 5 cloneB_under hsz _ _ _ _ _ _ rfl rfl w.heap.size 0 _ _ (hg.out _) (bV bs) hcs.out (hpos.out _) hfit.out hone.out w.heap.size w (hB.out _) (Nat.le_refl _) ?_; intro w' hg2 hb2; have q := Lib.hid (hend.out _ _ hg2.out))
  go_ret
  exact ⟨rfl, ⟨rfl, q.out, Nat.le_refl _, hmx.out, fun e => by cases e⟩, hb2⟩
end
structure LeafW (w : World) (n : Nat) (bs : List Nat) (val : Int) : Prop where
  part : ∀ X, Below w.heap.size w X → Calls Tryd.prog 41 #[.pointer (some ⟨n, 0, none⟩)] X (partAt bs X)
  val : ∀ X, Below w.heap.size w X → Calls Tryd.prog 22 #[.pointer (some ⟨n, 0, none⟩)] X fun e w' => e = .returned (.tuple #[.int .u64 val, .bool true]) ∧ X = w'
  kind : ∀ X, Below w.heap.size w X → Calls Tryd.prog 25 #[.pointer (some ⟨n, 0, none⟩)] X fun e w' => e = .returned (.int .i64 1) ∧ X = w'
  next : ∀ X, Below w.heap.size w X → Calls Tryd.prog 35 #[.pointer (some ⟨n, 0, none⟩), .int .i64 0] X fun e w' => e = .returned (.tuple #[.int .u8 0, .pointer none]) ∧ ∃ k, w' = X.drewN k
theorem leafw_of {w0 w : World} {Q : List NP} {bs : List Nat} {val : Int} {v : Option Addr} (hQ : StoreP NoB w0 w Q) (hT : TreeIn Q 0 (.node bs val true true .nil) (.pointer v) []) : ∃ n, v = some ⟨n, 0, none⟩ ∧ LeafW w n bs val := by
  obtain ⟨i, p, _, h1, h2, h3, h4, h5, h6, _⟩ := hT
  obtain rfl : v = some ⟨p.n, 0, none⟩ := by simpa using h2
  have hk : p.kk = none := by simpa using h6
  refine ⟨p.n, rfl, fun X hb => ?_, fun X hb => ?_, fun X hb => ?_, fun X hb => ?_⟩
  all_goals obtain ⟨pv, bo, kp, Sk, hd⟩ := (hQ.below hb).is h1
  all_goals have hf := (hQ.below hb).fit h1
  · have := nd_part_at hd hf.1 hf.2; rw [h3] at this; exact this
  · have := nd_val hd; rw [h4, h5] at this; exact this
  · have := nd_kind hd; rw [hk] at this; exact this
  · have := nd_next hd 0 (by omega) (by omega); rw [hk] at this; exact this
/-! canon.Count -/
theorem each1_nil (w : World) (pf pd : Value) : Calls Tryd.prog 40 #[.slice none 0 0, .pointer none, pf, pd] w fun e w' => e = .returned (.tuple #[]) ∧ w = w' := by
  go_enter Tryd.func40, Tryd.ntmps40
  go_wp2_with fail
  (try simp only [Exit.inBlock, Exit.then])
  refine bodyPost_ret (results_none rfl _ _ _) rfl ?_
  exact ⟨rfl, rfl⟩
theorem count_cb {w X : World} {n : Nat} {bs : List Nat} {val : Int} (h : LeafW w n bs val) (hb : Below w.heap.size w X) {m : Nat} {x : Int} (hc : X.cell? ⟨m, 0, none⟩ = some (.int .i64 x)) (hf : X.frozen? ⟨m, 0, none⟩ = false) (hx : 0 ≤ x ∧ x < 1000000) (a : Option Addr) (n' c' : Nat) : Calls Tryd.prog 36 #[.slice a n' c', .pointer (some ⟨n, 0, none⟩), .pointer (some ⟨m, 0, none⟩)] X fun e w' => e = .returned (.tuple #[]) ∧ w' = X.setCell ⟨m, 0, none⟩ (.int .i64 (x + 1)) := by
  have hV := Lib.hid (h.val X hb)
  have hw : IntKind.i64.wrap (x + 1) = x + 1 := IntWalk.i64_in _ (by omega)
  clear h hb
  go_enter Tryd.func36, Tryd.ntmps36
  go_wp2_with (go_at_call 22; refine hV.out.mono ?_; rintro e w' ⟨rfl, rfl⟩)
  go_end0
  exact ⟨rfl, rfl⟩
/-- what a count of one leaves -/
def onePost (X : World) (m : Nat) (x : Int) (e : Ending) (w' : World) : Prop := e = .returned (.tuple #[]) ∧ w'.cell? ⟨m, 0, none⟩ = some (.int .i64 (x + 1)) ∧ ∀ lo, lo ≤ m → lo ≤ X.heap.size → Below lo X w'
set_option maxHeartbeats 1000000 in
set_option maxRecDepth 100000 in
theorem each1_leaf {w X : World} {n : Nat} {bs : List Nat} {val : Int} (h : LeafW w n bs val) (hl : bs.length ≤ 1000) (hb : Below w.heap.size w X) {m bf bd : Nat} {x : Int} (hmw : w.heap.size ≤ m) (hm : X.heap[m]? = some (.cells [.int .i64 x].toArray 3 (0, 0))) (hc : X.cell? ⟨bf, 0, none⟩ = some (.func (.func 36) #[] #[.pointer (some ⟨m, 0, none⟩)])) (hx : 0 ≤ x ∧ x < 1000000) :
    Calls Tryd.prog 40 #[.slice none 0 0, .pointer (some ⟨n, 0, none⟩), .pointer (some ⟨bf, 0, none⟩), .pointer (some ⟨bd, 0, none⟩)] X (onePost X m x) := by
  have hP := Lib.hid (h.part X hb)
  have hL : Hid (bs.length ≤ 1000) := hl
  have hbf := cell_lt hc
  have hmlt := (Array.getElem?_eq_some_iff.1 hm).1
  have hAll : Hid (∀ X2, Below X.heap.size X X2 → X2.cell? ⟨bf, 0, none⟩ = some (.func (.func 36) #[] #[.pointer (some ⟨m, 0, none⟩)]) ∧
      (∀ a n' c', Calls Tryd.prog 36 #[.slice a n' c', .pointer (some ⟨n, 0, none⟩), .pointer (some ⟨m, 0, none⟩)] X2 fun e w' => e = .returned (.tuple #[]) ∧ (Calls Tryd.prog 35 #[.pointer (some ⟨n, 0, none⟩), .int .i64 0] w' fun e w'' => e = .returned (.tuple #[.int .u8 0, .pointer none]) ∧ ∃ k, w'' = w'.drewN k ∧ onePost X m x (.returned (.tuple #[])) w'')) ) := fun X2 hb2 => by
    have hm2 := (hb2.block m hmlt).trans hm
    have hbw := hb.trans (hb2.mono hb.size)
    refine ⟨(hb2.cell hbf).trans hc, fun a n' c' => (count_cb h hbw (by rw [cell_of_blk hm2]; rfl) (frozen_of_blk hm2 0) hx a n' c').mono fun e w' ⟨e1, e2⟩ => ⟨e1, ?_⟩⟩
    have hb3 : Below w.heap.size w w' := by rw [e2]; exact hbw.setCell (p := ⟨m, 0, none⟩) hmw _
    refine (h.next w' hb3).mono fun e w'' ⟨q1, k, q2⟩ => ⟨q1, k, q2, rfl, ?_, fun lo h1 h2 => ?_⟩
    · rw [q2]
      show w'.cell? ⟨m, 0, none⟩ = _
      have : w'.heap[m]? = some (.cells [.int .i64 (x + 1)].toArray 3 (0, 0)) := by rw [e2, setCell_list _ _ _ _ _ _ hm2, setRow_heap _ _ _ _ _ _ hm2]; rfl
      rw [cell_of_blk this]; rfl
    · rw [q2]
      refine below_drewN ?_ _
      rw [e2]
      exact (hb2.mono h2).setCell (p := ⟨m, 0, none⟩) h1 _
  clear h hb hc hm
  go_enter Tryd.func40, Tryd.ntmps40
  go_wp2_with (first
    | (at_builtin; go_loud (refine wpList_append_b rfl _ _ 24 rfl Tryd.underlying24 rfl (some ⟨X.heap.size, 0, none⟩) bs.length bs.length bs rfl hS1.out hL.out ?_); intro v2 w2 bo2 HO HM HN; obtain ⟨a2, c2, hv2, _⟩ := HO.out.len; subst hv2; obtain ⟨k1, k2⟩ := hAll.out w2 (hB1.out.trans (HM.out.mono hB1.out.size)); have K2 := Lib.hid k2; clear k2 HO HM HN)
    | (go_at_call 41; refine hP.out.mono ?_; rintro e w1 ⟨rfl, s1, b1⟩; have hS1 := Lib.hid s1; have hB1 := Lib.hid b1; clear s1 b1)
    | (go_at_call 36; refine (K2.out _ _ _).mono ?_; rintro e w3 ⟨rfl, k3⟩; have K3 := Lib.hid k3; clear k3)
    | (go_at_call 35; refine K3.out.mono ?_; rintro e w4 ⟨rfl, kk, rfl, k4⟩; have K4 := Lib.hid k4; clear k4))
  go_loopw [6, 7] (fun v6 v7 wr => v7 = .pointer none ∧ Hid (onePost X m x (.returned (.tuple #[])) wr)) (fun _ _ _ => 0)
  case atStart => exact ⟨rfl, K4⟩
  case round =>
    clear K4
    obtain ⟨rfl, K4⟩ := hrel
    go_wp2_with fail
    go_end0
    exact K4.out
theorem each_leaf {w X : World} {n : Nat} {bs : List Nat} {val : Int} (h : LeafW w n bs val) (hl : bs.length ≤ 1000) (hb : Below w.heap.size w X) {m : Nat} {x : Int} (hmw : w.heap.size ≤ m) (hm : X.heap[m]? = some (.cells [.int .i64 x].toArray 3 (0, 0))) (hx : 0 ≤ x ∧ x < 1000000) :
    Calls Tryd.prog 20 #[.pointer (some ⟨n, 0, none⟩), .func (.func 36) #[] #[.pointer (some ⟨m, 0, none⟩)]] X (onePost X m x) := by
  have hmlt := (Array.getElem?_eq_some_iff.1 hm).1
  obtain ⟨w1, hw1⟩ : ∃ w1, w1 = X.alloc (.cells #[.func (.func 36) #[] #[.pointer (some ⟨m, 0, none⟩)]] 59) := ⟨_, rfl⟩
  have hbx : w1.heap[X.heap.size]? = some (.cells [.func (.func 36) #[] #[.pointer (some ⟨m, 0, none⟩)]].toArray 59 (0, 0)) := by rw [hw1]; exact heap_alloc_new X _
  have hA1 : Below X.heap.size X w1 := by rw [hw1]; exact (Below.refl _ X).alloc (Nat.le_refl _) _
  have hE : Hid (∀ o2 bd, Calls Tryd.prog 40 #[.slice none 0 0, .pointer (some ⟨n, 0, none⟩), .pointer (some ⟨X.heap.size, 0, none⟩), .pointer (some ⟨bd, 0, none⟩)] (w1.alloc o2) (onePost X m x)) := fun o2 bd => by
    have hA2 : Below w1.heap.size w1 (w1.alloc o2) := (Below.refl _ w1).alloc (Nat.le_refl _) o2
    have hA : Below X.heap.size X (w1.alloc o2) := hA1.trans (hA2.mono hA1.size)
    have hc : (w1.alloc o2).cell? ⟨X.heap.size, 0, none⟩ = some (.func (.func 36) #[] #[.pointer (some ⟨m, 0, none⟩)]) := by
      rw [cell_of_blk ((hA2.block _ (Array.getElem?_eq_some_iff.1 hbx).1).trans hbx)]; rfl
    exact (each1_leaf h hl (hb.trans (hA.mono hb.size)) hmw ((hA.block m hmlt).trans hm) hc hx).mono fun e w' ⟨e1, e2, e3⟩ => ⟨e1, e2, fun lo h1 h2 => (hA.mono h2).trans (e3 lo h1 (Nat.le_trans h2 hA.size))⟩
  clear h hb hm hbx hA1
  go_enter Tryd.func20, Tryd.ntmps20
  go_upto_region 1 with fail
  rw [← hw1]
  clear hw1
  go_wp2_with (go_at_call 40; refine (hE.out _ _).mono ?_; rintro e w' ⟨rfl, q⟩; have q := Lib.hid q)
  go_end0
  exact ⟨rfl, q.out⟩
theorem each_nil (X : World) (m : Nat) : Calls Tryd.prog 20 #[.pointer none, .func (.func 36) #[] #[.pointer (some ⟨m, 0, none⟩)]] X fun e w' => e = .returned (.tuple #[]) ∧ Below X.heap.size X w' := by
  obtain ⟨w1, hw1⟩ : ∃ w1, w1 = X.alloc (.cells #[.func (.func 36) #[] #[.pointer (some ⟨m, 0, none⟩)]] 59) := ⟨_, rfl⟩
  have hA1 : Below X.heap.size X w1 := by rw [hw1]; exact (Below.refl _ X).alloc (Nat.le_refl _) _
  have hB : Hid (∀ o2, Below X.heap.size X (w1.alloc o2)) := fun o2 => hA1.alloc hA1.size o2
  clear hA1
  go_enter Tryd.func20, Tryd.ntmps20
  go_upto_region 1 with fail
  rw [← hw1]
  clear hw1
  go_wp2_with (go_at_call 40; refine (each1_nil _ _ _).mono ?_; rintro e w' ⟨rfl, rfl⟩)
  go_end0
  exact ⟨rfl, hB.out _⟩
theorem count_leaf {w X : World} {n : Nat} {bs : List Nat} {val : Int} (h : LeafW w n bs val) (hl : bs.length ≤ 1000) (hb : Below w.heap.size w X) : Calls Tryd.prog 16 #[.pointer (some ⟨n, 0, none⟩)] X (belowPost (.int .i64 1) X) := by
  have hE := Lib.hid (fun t => each_leaf (X := X.alloc (.cells #[.int .i64 0] t)) (m := X.heap.size) (x := 0) h hl (hb.alloc hb.size _) hb.size)
  have hbx : Hid (∀ t, (X.alloc (.cells #[.int .i64 0] t)).heap[X.heap.size]? = some (.cells [.int .i64 0].toArray t (0, 0))) := fun t => heap_alloc_new X _
  have hA : Hid (∀ t, Below X.heap.size X (X.alloc (.cells #[.int .i64 0] t))) := fun t => (Below.refl _ X).alloc (Nat.le_refl _) _
  clear h hb
  go_enter Tryd.func16, Tryd.ntmps16
  go_wp2_with (go_at_call 20; refine (hE.out _ (hbx.out _) (by omega)).mono ?_; rintro e w' ⟨rfl, q1, q2⟩; have B2 := Lib.hid ((hA.out _).trans (q2 X.heap.size (Nat.le_refl _) (hA.out _).size)); clear q2)
  go_ret
  exact ⟨rfl, B2.out⟩
theorem count_nil (X : World) : Calls Tryd.prog 16 #[.pointer none] X (belowPost (.int .i64 0) X) := by
  have hbx : Hid (∀ t, (X.alloc (.cells #[.int .i64 0] t)).heap[X.heap.size]? = some (.cells [.int .i64 0].toArray t (0, 0))) := fun t => heap_alloc_new X _
  have hA : Hid (∀ t, Below X.heap.size X (X.alloc (.cells #[.int .i64 0] t))) := fun t => (Below.refl _ X).alloc (Nat.le_refl _) _
  go_enter Tryd.func16, Tryd.ntmps16
  go_wp2_with (go_at_call 20; refine (each_nil _ _).mono ?_; rintro e w' ⟨rfl, q2⟩; have B2 := Lib.hid ((hA.out _).trans (q2.mono (hA.out _).size)); have q1 := cell_of_blk ((q2.block X.heap.size (Array.getElem?_eq_some_iff.1 (hbx.out _)).1).trans (hbx.out _)) 0; clear q2)
  go_ret
  exact ⟨rfl, B2.out⟩
end Go.Proofs.YtgijnjdcpipfiaaDoor
/- The tree of pairs that rise (spunyarnlaw30). -/
namespace Go.Proofs.YtgijnjdcpipfiaaDoor
open Go.RowKit
end Go.Proofs.YtgijnjdcpipfiaaDoor
/- A leaf laid, and encoded; nobody encoded. -/
namespace Go.Proofs.YtgijnjdcpipfiaaDoor
open Go.RowKit
theorem sl_mod {w w' : World} {a : Option Addr} {n c : Nat} {bs : List Nat} (h : Sl w a n c bs) {S : Nat → Prop} (hm : Mod S w w') (hS : ∀ p : Addr, a = some p → ¬ S p.block) : Sl w' a n c bs := ⟨h.len, bytes_keep h.at_ hm hS, h.cap, h.capm, h.nil⟩
theorem mod_lo {w w' : World} {bo : Option Nat} {lo : Nat} (hm : Mod (fun j => bo = some j) w w') (hb : ∀ g, bo = some g → lo ≤ g) (hs : lo ≤ w.heap.size) : Below lo w w' := ⟨hm.os, hm.tape, hm.output, hm.size, fun j hj => hm.same j (by omega) fun e => by have := hb j e; omega⟩
def layPost (bo : Option Nat) (X : World) (zs : List Nat) (e : Ending) (w' : World) : Prop :=
  ∃ (v' : Value) (M : Nat) (bo' : Option Nat), e = .returned v' ∧ OwnS 1 u8T w' v' M (bV zs) bo' ∧ Mod (fun j => bo = some j) X w' ∧ NewOr X bo bo'
theorem bV_app (a b : List Nat) : bV (a ++ b) = bV a ++ bV b := by simp [bV]
theorem newOr_ne {X w : World} {bo bo' : Option Nat} (n : NewOr X bo bo') (hlt : ∀ g, bo = some g → g < X.heap.size) {j : Nat} (hj : bo ≠ some j) (hX : j < X.heap.size ∨ True) (h2 : ∀ g, bo' = some g → X.heap.size ≤ g → g ≠ j) : bo' ≠ some j := fun e => by
  rcases n with e2 | ⟨g, e2, hg⟩
  · rw [e2] at e; exact hj e
  · rw [e2] at e; cases e; exact h2 _ e2 hg rfl
theorem newOr_lt {w2 : World} {bo bo2 : Option Nat} {j : Nat} (n : NewOr w2 bo bo2) (hlt : ∀ g, bo = some g → g < j) (h : j < w2.heap.size) : bo2 ≠ some j := fun e => by
  rcases n with e2 | ⟨g, e2, hg⟩
  · rw [e2] at e; have := hlt _ e; omega
  · rw [e2] at e; cases e; omega
end Go.Proofs.YtgijnjdcpipfiaaDoor
/- A leaf encoded; nobody encoded, and how many bytes that is. -/
namespace Go.Proofs.YtgijnjdcpipfiaaDoor
open Go.RowKit
theorem own_one (X : World) (b : Nat) : OwnS 1 u8T (X.alloc (.cells #[.int .u8 (b : Nat)] 5)) (.slice (some ⟨X.heap.size, 0, none⟩) 1 1) 1 (bV [b]) (some X.heap.size) :=
  Or.inr ⟨X.heap.size, 1, #[.int .u8 (b : Nat)], rfl, rfl, heap_alloc_new X _, Nat.le_refl _, by unfold maxLen; omega, rfl, rfl, rfl⟩
def encPost (X : World) (zs : List Nat) (e : Ending) (w' : World) : Prop := ∃ a m c, e = .returned (.slice a m c) ∧ Sl w' a m c zs ∧ Below X.heap.size X w'
end Go.Proofs.YtgijnjdcpipfiaaDoor
/- The law SerNums. -/
namespace Go.Proofs.YtgijnjdcpipfiaaDoor
open Go.RowKit
theorem sl_lit (w : World) (xs : List Nat) (t : TypeId) (h8 : ∀ x ∈ xs, x < 256) (hl : xs.length ≤ 1000) : Sl (w.alloc (.cells (bV xs).toArray t)) (some ⟨w.heap.size, 0, none⟩) xs.length xs.length xs := by
  have hb : (w.alloc (.cells (bV xs).toArray t)).heap[w.heap.size]? = some (.cells (bV xs).toArray t (0, 0)) := heap_alloc_new w _
  refine ⟨rfl, ⟨h8, fun i hi => ⟨_, rfl, ?_, ?_⟩⟩, Nat.le_refl _, by unfold maxLen; omega, fun e => by cases e⟩
  · rw [add_block]; show w.heap.size < _; rw [World.size_alloc]; omega
  · rw [add0, cell_of_blk hb, bV_get]; simp [List.getD, hi]
theorem num300 : numL 300 = [172, 2] := by rw [numL_ge (by omega), numL_lt (by omega)]
theorem al30_z : [1] ++ numL 1 ++ [0] ++ numL ([1] : List Nat).length ++ [1] ++ numL 5 = [1, 1, 0, 1, 1, 5] := by
  rw [show ([1] : List Nat).length = 1 from rfl, numL_lt (by omega), numL_lt (by omega)]; rfl
theorem al30_prs (w : World) (t1 t2 : TypeId) : Prs ((w.alloc (.cells #[.int .u8 1] t1)).alloc (.cells #[.slice (some ⟨w.heap.size, 0, none⟩) 1 1, .int .u64 5] t2)) (some ⟨w.heap.size + 1, 0, none⟩) 1 1 [([1], 5)] := by
  obtain ⟨w1, h1⟩ : ∃ w1, w1 = w.alloc (.cells #[.int .u8 1] t1) := ⟨_, rfl⟩
  have s1 : w1.heap.size = w.heap.size + 1 := by rw [h1]; simp
  rw [← h1]
  obtain ⟨w3, h3⟩ : ∃ w3, w3 = w1.alloc (.cells #[.slice (some ⟨w.heap.size, 0, none⟩) 1 1, .int .u64 5] t2) := ⟨_, rfl⟩
  rw [← h3]
  have b3 : Below w1.heap.size w1 w3 := by rw [h3]; exact (Below.refl _ _).alloc (Nat.le_refl _) _
  have k1 : Sl w3 (some ⟨w.heap.size, 0, none⟩) 1 1 [1] := by
    have := sl_one w 1 t1 (by omega)
    have : Sl w1 (some ⟨w.heap.size, 0, none⟩) 1 1 [1] := by rw [h1]; exact this
    exact this.below b3
  have hb : w3.heap[w.heap.size + 1]? = some (.cells [.slice (some ⟨w.heap.size, 0, none⟩) 1 1, .int .u64 5].toArray t2 (0, 0)) := by
    have := heap_alloc_new w1 (.cells #[.slice (some ⟨w.heap.size, 0, none⟩) 1 1, .int .u64 5] t2)
    rw [s1] at this
    rw [h3]; exact this
  have s3 : w3.heap.size = w.heap.size + 1 + 1 := by rw [h3, World.size_alloc, s1]
  refine ⟨rfl, Nat.le_refl _, by unfold maxLen; omega, (fun e => by cases e), (by simp), fun i hi => ⟨_, rfl, ?_⟩⟩
  have hi : i < 1 := hi
  obtain rfl : i = 0 := by omega
  refine ⟨by rw [add0]; show w.heap.size + 1 < _; omega, _, _, _, ?_, ?_, k1⟩
  · rw [add0, cell_of_blk hb]; rfl
  · rw [add0, cell_of_blk hb]; rfl
end Go.Proofs.YtgijnjdcpipfiaaDoor
/- A tree's bytes. No program. -/
namespace Go.Proofs.YtgijnjdcpipfiaaDoor
/-- a node's head -/
def headN (has leaf : Bool) (m : Nat) : Nat := if leaf then 0 else (if has then 16 else 0) + (if m ≤ 4 then 1 else if m ≤ 16 then 2 else if m ≤ 48 then 3 else 4)
/-- a tree's bytes; of a row: each byte and what stands below it -/
def layT : Tr → List Nat
  | .nil => []
  | .kid b t r => b :: (layT t ++ layT r)
  | .node bs v has leaf ks => headN has leaf (chain ks).length :: (numL bs.length ++ (bs ++ ((if has then numL v.toNat else []) ++ (if leaf then [] else ((chain ks).length - 1) :: layT ks))))
theorem headN_lt (has leaf : Bool) (m : Nat) : headN has leaf m < 256 := by
  unfold headN
  cases has <;> cases leaf <;> simp <;> (repeat (split <;> try omega)) <;> omega
theorem chain_le : ∀ (r : Tr), IsK r → TOk r → ∀ b, From b r → b + (chain r).length ≤ 255 ∨ chain r = []
  | .nil, _, _, _, _ => Or.inr rfl
  | .node .., h, _, _, _ => h.elim
  | .kid c t r, _, ⟨h1, h2, h3, h4, h5, h6⟩, b, hb => by
    left
    have hb : b < c := hb
    rcases chain_le r h4 h5 c h6 with h | h
    · simp only [chain, List.length_cons]; omega
    · simp only [chain, h, List.length_cons, List.length_nil]; omega
theorem chain256 {r : Tr} (h1 : IsK r) (h2 : TOk r) : (chain r).length ≤ 256 := by
  cases r with
  | nil => simp [chain]
  | node => exact h1.elim
  | kid c t r =>
    obtain ⟨k1, k2, k3, k4, k5, k6⟩ := h2
    rcases chain_le r k4 k5 c k6 with h | h
    · simp only [chain, List.length_cons]; omega
    · simp [chain, h]
theorem layT_byte : ∀ (t : Tr), TOk t → ∀ x ∈ layT t, x < 256
  | .nil, _, x, h => by simp [layT] at h
  | .kid b t r, ⟨h1, h2, h3, h4, h5, h6⟩, x, h => by
    simp only [layT, List.mem_cons, List.mem_append] at h
    rcases h with rfl | h | h
    · exact h1
    · exact layT_byte t h3 x h
    · exact layT_byte r h5 x h
  | .node bs v has leaf ks, ⟨h1, h2, h3, h4, h5, h6, h7⟩, x, h => by
    simp only [layT, List.mem_cons, List.mem_append] at h
    rcases h with rfl | h | h | h | h
    · exact headN_lt _ _ _
    · exact numL_byte _ x h
    · exact h1 x h
    · cases has
      · simp at h
      · exact numL_byte _ x (by simpa using h)
    · cases leaf
      · simp only [Bool.false_eq_true, if_false, List.mem_cons] at h
        rcases h with rfl | h
        · have := chain256 h6 h7; omega
        · exact layT_byte ks h7 x h
      · simp at h
end Go.Proofs.YtgijnjdcpipfiaaDoor
/- A node's kids, one behind the other. -/
namespace Go.Proofs.YtgijnjdcpipfiaaDoor
open Go.RowKit
def hdB (l : KV) : Nat := match l with | [] => 0 | p :: _ => p.1
def hdK (l : KV) : Value := match l with | [] => .pointer none | p :: _ => p.2
theorem stepV_head (l : KV) : stepV l.head? = .tuple #[.int .u8 (hdB l : Nat), hdK l] := by
  cases l <;> rfl
theorem knxt_app {A r : KV} {f : Int} (hA : ∀ p ∈ A, (p.1 : Int) < f) (hr : ∀ p ∈ r, f ≤ (p.1 : Int)) : knxt (A ++ r) f = r.head? := by
  unfold knxt
  rw [List.find?_append]
  have h1 : A.find? (fun p => decide (f ≤ (p.1 : Int))) = none := by
    rw [List.find?_eq_none]
    intro p hp
    have := hA p hp
    simp; omega
  rw [h1]
  cases r with
  | nil => rfl
  | cons p r => simp [hr p (by simp)]
/-- the kids that are left: r in the tree, lr in memory -/
structure Kids (Q : List NP) (kk : KV) (ks r : Tr) (A lr : KV) : Prop where
  eq : kk = A ++ lr
  tree : TreeIn Q 0 r (.pointer none) lr
  isK : IsK r
  ok : TOk r
  lt : ∀ p ∈ A, ∀ q ∈ lr, p.1 < q.1
theorem row_from {Q : List NP} : ∀ {r : Tr} {v : Value} {lr : KV} {b : Nat}, TreeIn Q 0 r v lr → IsK r → TOk r → From b r → ∀ q ∈ lr, b < q.1 ∧ q.1 < 256
  | .nil, _, lr, b, h, _, _, _, q, hq => by have h : lr = [] := h; subst h; simp at hq
  | .node .., _, _, _, _, h, _, _, _, _ => h.elim
  | .kid c t r, v, lr, b, ⟨x, l', h1, h2, h3⟩, _, ⟨k1, k2, k3, k4, k5, k6⟩, hb, q, hq => by
    subst h1
    have hb : b < c := hb
    rcases List.mem_cons.1 hq with rfl | hq
    · exact ⟨hb, k1⟩
    · have := row_from h3 k4 k5 k6 q hq
      exact ⟨by omega, this.2⟩
section
variable {Q : List NP} {kk : KV} {ks r : Tr} {A lr : KV}
theorem kids_start {v : Value} (h : TreeIn Q 0 ks v kk) (hv : v = .pointer none) (h1 : IsK ks) (h2 : TOk ks) : Kids Q kk ks ks [] kk ∧ knxt kk 0 = kk.head? := by
  subst hv
  exact ⟨⟨rfl, h, h1, h2, by simp⟩, knxt_app (A := []) (r := kk) (by simp) (fun p _ => by omega)⟩
/-- the next one -/
theorem Kids.next (h : Kids Q kk ks r A lr) (hl : lr ≠ []) : ∃ b t r' x lr', r = .kid b t r' ∧ lr = (b, x) :: lr' ∧ hdB lr = b ∧ hdK lr = x ∧ b < 256 ∧ (∃ k, x = .pointer (some ⟨k, 0, none⟩)) ∧ TreeV Q t x ∧ IsN t ∧ TOk t ∧ Kids Q kk ks r' (A ++ [(b, x)]) lr' ∧ knxt kk ((b : Int) + 1) = lr'.head? := by
  obtain ⟨e, h1, h2, h3, h4⟩ := h
  cases r with
  | nil => exact absurd h1 hl
  | node => exact h2.elim
  | kid b t r' =>
    obtain ⟨x, lr', q1, q2, q3⟩ := h1
    obtain ⟨k1, k2, k3, k4, k5, k6⟩ := h3
    have hf := row_from q3 k4 k5 k6
    subst q1
    refine ⟨b, t, r', x, lr', rfl, rfl, rfl, rfl, k1, q2.isN k2, Or.inr ⟨k2, q2⟩, k2, k3, ⟨by rw [e]; simp, q3, k4, k5, fun p hp q hq => ?_⟩, ?_⟩
    · rcases List.mem_append.1 hp with hp | hp
      · exact h4 p hp q (by simp [hq])
      · obtain rfl := List.mem_singleton.1 hp
        exact (hf q hq).1
    · rw [e, show A ++ (b, x) :: lr' = (A ++ [(b, x)]) ++ lr' by simp]
      refine knxt_app (fun p hp => ?_) fun p hp => ?_
      · rcases List.mem_append.1 hp with hp | hp
        · have := h4 p hp (b, x) (by simp)
          simp at this ⊢; omega
        · obtain rfl := List.mem_singleton.1 hp
          simp; omega
      · have := (hf p hp).1
        omega
theorem Kids.done (h : Kids Q kk ks r A []) : r = .nil := by
  obtain ⟨_, h1, h2, _⟩ := h
  cases r with
  | nil => rfl
  | kid => obtain ⟨x, l', e, _⟩ := h1; cases e
  | node => exact h2.elim
theorem Kids.nilK (h : Kids Q kk ks r A lr) : hdK lr = .pointer none ↔ lr = [] := by
  constructor
  · intro e
    by_cases hl : lr = []
    · exact hl
    · obtain ⟨b, t, r', x, lr', _, _, _, hx, _, ⟨k, rfl⟩, _⟩ := h.next hl
      rw [hx] at e; cases e
  · rintro rfl; rfl
end
end Go.Proofs.YtgijnjdcpipfiaaDoor
/- The way to a node: bytes that are put behind one another, in a row that is shared. -/
namespace Go.Proofs.YtgijnjdcpipfiaaDoor
open Go.RowKit
theorem bV_app' (a b : List Nat) : bV (a ++ b) = bV a ++ bV b := by simp [bV]
/-- a way: its bytes, its row, and how many the row holds -/
def WayAt (w : World) (v : Value) (k : List Nat) (bo : Option Nat) (cap : Nat) : Prop :=
  (v = .slice none 0 0 ∧ k = [] ∧ bo = none ∧ cap = 0) ∨
  (∃ g cur, bo = some g ∧ v = .slice (some ⟨g, 0, none⟩) k.length cap ∧ w.heap[g]? = some (.cells cur u8T (0, 0)) ∧ k.length ≤ cap ∧ cap ≤ maxLen ∧ cur.size = cap ∧ cur.toList.take k.length = bV k)
section
variable {w w' : World} {v v' : Value} {k k' : List Nat} {bo bo' : Option Nat} {cap cap' : Nat}
theorem WayAt.nil (w : World) : WayAt w (.slice none 0 0) [] none 0 := Or.inl ⟨rfl, rfl, rfl, rfl⟩
theorem WayAt.own (h : WayAt w v k bo cap) : OwnS 1 u8T w v k.length (bV k) bo := by
  rcases h with ⟨rfl, rfl, rfl, rfl⟩ | ⟨g, cur, rfl, rfl, h1, h2, h3, h4, h5⟩
  · exact OwnS.nil _ _ _
  · exact Or.inr ⟨g, cap, cur, rfl, rfl, h1, h2, h3, by omega, by rw [Nat.mul_one]; exact h5, by simp [bV]⟩
theorem WayAt.len (h : WayAt w v k bo cap) : ∃ a, v = .slice a k.length cap := by
  rcases h with ⟨rfl, rfl, rfl, rfl⟩ | ⟨g, cur, rfl, rfl, _⟩
  · exact ⟨_, rfl⟩
  · exact ⟨_, rfl⟩
theorem WayAt.lt (h : WayAt w v k bo cap) {g : Nat} (e : bo = some g) : g < w.heap.size := by
  rcases h with ⟨_, _, rfl, _⟩ | ⟨g', cur, rfl, _, h1, _⟩
  · cases e
  · cases e; exact (Array.getElem?_eq_some_iff.1 h1).1
theorem WayAt.keep (h : WayAt w v k bo cap) (hk : ∀ g, bo = some g → w'.heap[g]? = w.heap[g]?) : WayAt w' v k bo cap := by
  rcases h with h | ⟨g, cur, rfl, hv, h1, r⟩
  · exact Or.inl h
  · exact Or.inr ⟨g, cur, rfl, hv, (hk g rfl).trans h1, r⟩
theorem WayAt.below (h : WayAt w v k bo cap) (hb : Below w.heap.size w w') : WayAt w' v k bo cap := h.keep fun g e => hb.block g (h.lt e)
theorem WayAt.mod {S : Nat → Prop} (h : WayAt w v k bo cap) (hm : Mod S w w') (hS : ∀ g, bo = some g → ¬ S g) : WayAt w' v k bo cap := h.keep fun g e => hm.same g (h.lt e) (hS g e)
theorem WayAt.sl (h : WayAt w v k bo cap) (h8 : ∀ x ∈ k, x < 256) : ∃ a, v = .slice a k.length cap ∧ Sl w a k.length cap k := by
  obtain ⟨a, c, e, hs⟩ := sl_of_own h.own h8
  obtain ⟨a', e'⟩ := h.len
  rw [e'] at e
  injection e with e1 e2 e3
  subst e1; subst e3
  exact ⟨_, e', hs⟩
/-- how a longer way stands to the one that it goes on from -/
def Goes (w : World) (bo bo' : Option Nat) (cap cap' : Nat) : Prop := (bo' = bo ∧ cap' = cap ∧ bo ≠ none) ∨ bo' = none ∨ ∃ g, bo' = some g ∧ w.heap.size ≤ g
/-- the shorter way is still there while the longer one is, and what is no row of the longer one stays -/
theorem WayAt.back {x : List Nat} {v2 : Value} {bo2 : Option Nat} {cap2 : Nat} {w2 : World} {F : Nat → Prop} (h : WayAt w v k bo cap) (hg : Goes w bo bo2 cap cap2) (h2 : WayAt w2 v2 (k ++ x) bo2 cap2) (hm : Mod (fun j => bo2 = some j ∨ F j) w w2) (hF : ∀ g, bo = some g → ¬ F g) : WayAt w2 v k bo cap := by
  rcases hg with ⟨rfl, rfl, hne⟩ | hn
  · rcases h with ⟨_, _, e, _⟩ | ⟨g, cur, rfl, hv, h1, h3, h4, h5, h6⟩
    · exact absurd e hne
    · rcases h2 with ⟨_, _, e, _⟩ | ⟨g', cur', e, _, q1, q2, q3, q4, q5⟩
      · cases e
      · cases e
        refine Or.inr ⟨g, cur', rfl, hv, q1, h3, h4, q4, ?_⟩
        have := congrArg (List.take k.length) q5
        rw [List.take_take, List.length_append, Nat.min_eq_left (by omega)] at this
        rw [this]
        simp [bV]
  · refine h.mod hm fun g e q => ?_
    have hl := h.lt e
    rcases q with q | q
    · rcases hn with hn | ⟨g', hn, hg'⟩
      · rw [hn] at q; cases q
      · rw [hn] at q; cases q; omega
    · exact hF g e q
end
/-- append to a way -/
theorem run_append_way {P : Program} (w : World) (t ty : TypeId) (i : TypeInfo) (ht : P.underlying t = some (.slice u8T)) (hi : P.info? u8T = some i) (hz : i.zero = some (.int .u8 0)) (hsize : i.size = 1) (hby : i.bytes = 1)
    {v : Value} {k : List Nat} {bo : Option Nat} {cap : Nat} (h : WayAt w v k bo cap) (a : Addr) (c : Nat) (news : List Nat) (hnews : ∀ j u, (bV news)[j]? = some u → w.cell? (a.add j) = some u) (hk : k.length ≤ 1000000) (hn : news.length ≤ 1000000) :
    ∃ v' w' bo' cap', (Builtin.append_ #[t, t] ty #[v, .slice (some a) news.length c]).run P w = .ok v' w' ∧ WayAt w' v' (k ++ news) bo' cap' ∧ Goes w bo bo' cap cap' ∧ Mod (fun j => bo = some j) w w' ∧ WayAt w' v k bo cap := by
  have hl : (bV news).length = news.length := by simp [bV]
  have hone := bV_one news
  have fresh : ∀ v' w', w'.ownsRow w.heap.size u8T 1 v' (k.length + news.length) (bV k ++ bV news) → ∃ bo' cap', WayAt w' v' (k ++ news) bo' cap' ∧ (bo' = none ∨ ∃ g, bo' = some g ∧ w.heap.size ≤ g) := by
    intro v' w' ho
    have hlen : (bV k ++ bV news).length = k.length + news.length := by simp [bV]
    rcases ho.2 with ⟨rfl, h0⟩ | ⟨g, cap', cur, rfl, hb, hg, h2, h3, h4, h5⟩
    · have hk0 : k = [] := List.eq_nil_of_length_eq_zero (by omega)
      have hn0 : news = [] := List.eq_nil_of_length_eq_zero (by omega)
      subst hk0; subst hn0
      exact ⟨none, 0, Or.inl ⟨rfl, rfl, rfl, rfl⟩, Or.inl rfl⟩
    · refine ⟨some g, cap', Or.inr ⟨g, cur, rfl, by rw [List.length_append], hg, by rw [List.length_append]; exact h2, h3, by omega, ?_⟩, Or.inr ⟨g, rfl, hb⟩⟩
      rw [List.length_append, bV_app', ← h5, Nat.mul_one]
  rcases h with ⟨rfl, rfl, rfl, rfl⟩ | ⟨g, cur, rfl, rfl, hg, hnc, hcm, hcs, htake⟩
  · obtain ⟨v', w', hr, h2, h3, _⟩ := run_append_own (P := P) w w.heap.size t ty u8T i (.int .u8 0) 1 1 ht hi hz hsize hby rfl (by omega) (.slice none 0 0) 0 [] (World.ownsRow_nil w _ u8T 1) a news.length c (bV news) (by rw [hl]; omega) hnews hone (by unfold maxLen; omega) (by omega) (Nat.le_refl _)
    obtain ⟨bo', cap', q1, q2⟩ := fresh v' w' (by simpa [bV] using h2)
    exact ⟨v', w', bo', cap', hr, q1, Or.inr q2, ⟨h3.os, h3.tape, h3.output, h3.size, fun k hk _ => h3.block k hk (by simp [Value.ownBlock])⟩, WayAt.nil _⟩
  · by_cases hroom : k.length + news.length ≤ cap
    · have hr := run_append_room (P := P) w t ty u8T i ht hi g k.length cap cur hg a news.length c (bV news) (by rw [hsize, hl]; omega) hnews hone hroom (by rw [hsize]; omega)
      obtain ⟨cur', hcur⟩ : ∃ cur' : Array Value, cur' = (cur.toList.take (k.length * i.size) ++ bV news ++ cur.toList.drop (k.length * i.size + (bV news).length)).toArray := ⟨_, rfl⟩
      rw [← hcur] at hr
      rw [hsize, Nat.mul_one] at hcur
      have hcl : cur.toList.length = cap := by simpa using hcs
      have hsz : cur'.size = cap := by rw [hcur]; simp [hl]; omega
      have hg' : (w.setRow g cur').heap[g]? = some (.cells cur' u8T (0, 0)) := setRow_heap w g cur cur' u8T (0, 0) hg
      have hM : Mod (fun j => some g = some j) w (w.setRow g cur') := (Mod.refl _ w).setRow g _ (fun _ => rfl)
      refine ⟨_, _, some g, cap, hr, Or.inr ⟨g, cur', rfl, by rw [List.length_append], hg', by rw [List.length_append]; exact hroom, hcm, hsz, ?_⟩, Or.inl ⟨rfl, rfl, by simp⟩, hM, Or.inr ⟨g, cur', rfl, rfl, hg', hnc, hcm, hsz, ?_⟩⟩
      · rw [hcur, List.length_append, bV_app']
        simp only [List.toList_toArray]
        rw [htake]
        have e : (bV k ++ bV news).length = k.length + news.length := by simp [bV]
        rw [← e]
        exact List.take_left
      · rw [hcur]
        simp only [List.toList_toArray, List.append_assoc]
        rw [htake]
        have e : (bV k).length = k.length := by simp [bV]
        conv => lhs; rw [← e]
        exact List.take_left
    · have holds : ∀ j u, (bV k)[j]? = some u → w.cell? ((⟨g, 0, none⟩ : Addr).add j) = some u := by
        intro j u hj
        have hjl : j < k.length := by
          by_cases h : j < k.length
          · exact h
          · rw [List.getElem?_eq_none (by simp [bV]; omega)] at hj; simp at hj
        rw [add0, cell_of_row w g j cur _ (0, 0) hg, ← hj, ← take_get htake hjl]
        simp
      obtain ⟨v', w', hr, h2, h3⟩ := run_append_arg_grows (P := P) w t ty u8T i (.int .u8 0) 1 1 ht hi hz hsize hby rfl (by omega) ⟨g, 0, none⟩ k.length cap (bV k) (by simp [bV]) holds a news.length c (bV news) (by rw [hl]; omega) hnews (by omega) (by unfold maxLen; omega) (by omega)
      obtain ⟨bo', cap', q1, q2⟩ := fresh v' w' h2
      have hB : Below w.heap.size w w' := ⟨h3.os, h3.tape, h3.output, h3.size, fun k hk => h3.block k hk (by simp)⟩
      exact ⟨v', w', bo', cap', hr, q1, Or.inr q2, ⟨h3.os, h3.tape, h3.output, h3.size, fun k hk _ => h3.block k hk (by simp)⟩, (show WayAt w (.slice (some ⟨g, 0, none⟩) k.length cap) k (some g) cap from Or.inr ⟨g, cur, rfl, rfl, hg, hnc, hcm, hcs, htake⟩).below hB⟩
end Go.Proofs.YtgijnjdcpipfiaaDoor
/- What a tree's node answers in every later world; its head. -/
namespace Go.Proofs.YtgijnjdcpipfiaaDoor
open Go.RowKit
structure NodeW (w : World) (n : Nat) (bs : List Nat) (val : Int) (has leaf : Bool) (m : Nat) (kk : KV) : Prop where
  part : ∀ X, Below w.heap.size w X → Calls Tryd.prog 41 #[.pointer (some ⟨n, 0, none⟩)] X (partAt bs X)
  val : ∀ X, Below w.heap.size w X → Calls Tryd.prog 22 #[.pointer (some ⟨n, 0, none⟩)] X fun e w' => e = .returned (.tuple #[.int .u64 val, .bool has]) ∧ X = w'
  kind : ∀ X, Below w.heap.size w X → Calls Tryd.prog 25 #[.pointer (some ⟨n, 0, none⟩)] X fun e w' => e = .returned (.int .i64 ((if leaf then 1 else kindOf m : Nat) : Int)) ∧ X = w'
  len : ∀ X, Below w.heap.size w X → Calls Tryd.prog 45 #[.pointer (some ⟨n, 0, none⟩)] X fun e w' => e = .returned (.int .i64 (m : Nat)) ∧ X = w'
  occ : ∀ X, Below w.heap.size w X → Calls Tryd.prog 26 #[.pointer (some ⟨n, 0, none⟩)] X fun e w' => e = .returned (.int .i64 ((if has then m + 1 else m : Nat) : Int)) ∧ X = w'
  next : ∀ X f, Below w.heap.size w X → (0 : Int) ≤ f → f ≤ 256 → Calls Tryd.prog 35 #[.pointer (some ⟨n, 0, none⟩), .int .i64 f] X fun e w' => e = .returned (stepV (knxt kk f)) ∧ Below X.heap.size X w'
theorem NodeW.below {w w' : World} {n : Nat} {bs : List Nat} {val : Int} {has leaf : Bool} {m : Nat} {kk : KV} (h : NodeW w n bs val has leaf m kk) (hb : Below w.heap.size w w') : NodeW w' n bs val has leaf m kk where
  part := fun X q => h.part X (hb.trans (q.mono hb.size))
  val := fun X q => h.val X (hb.trans (q.mono hb.size))
  kind := fun X q => h.kind X (hb.trans (q.mono hb.size))
  len := fun X q => h.len X (hb.trans (q.mono hb.size))
  occ := fun X q => h.occ X (hb.trans (q.mono hb.size))
  next := fun X f q => h.next X f (hb.trans (q.mono hb.size))
theorem nodew_of {w0 w : World} {Q : List NP} {bs : List Nat} {val : Int} {has leaf : Bool} {ks : Tr} {v : Option Addr} (hQ : StoreP NoB w0 w Q) (hT : TreeIn Q 0 (.node bs val has leaf ks) (.pointer v) []) (hO : TOk (.node bs val has leaf ks)) :
    ∃ n kk, v = some ⟨n, 0, none⟩ ∧ NodeW w n bs val has leaf (chain ks).length kk ∧ Kids Q kk ks ks [] kk ∧ knxt kk 0 = kk.head? ∧ (leaf = true → kk = []) := by
  obtain ⟨i, p, _, h1, h2, h3, h4, h5, h6, h7⟩ := hT
  obtain rfl : v = some ⟨p.n, 0, none⟩ := by simpa using h2
  obtain ⟨o1, o2, o3, o4, o5, o6, o7⟩ := hO
  have hlen : (p.kk.getD []).length = (chain ks).length := by
    have e := ofL_chain ks o6 o7
    have := TreeIn.keys (L := chain ks) (by rw [e]; exact h7)
    have := congrArg List.length this
    simpa using this
  obtain ⟨k1, k2⟩ := kids_start h7 rfl o6 o7
  have hleaf : leaf = true → p.kk.getD [] = [] := fun e => by
    subst e
    cases hk : p.kk with
    | none => rfl
    | some l => rw [hk] at h6; cases h6
  have hf := hQ.fit h1
  refine ⟨p.n, p.kk.getD [], rfl, {
    part := fun X hb => by
      obtain ⟨pv, bo, kp, Sk, hd⟩ := (hQ.below hb).is h1
      have := nd_part_at hd hf.1 hf.2; rw [h3] at this; exact this
    val := fun X hb => by
      obtain ⟨pv, bo, kp, Sk, hd⟩ := (hQ.below hb).is h1
      have := nd_val hd; rw [h4, h5] at this
      cases has
      · rw [o4 rfl]; exact this
      · exact this
    kind := fun X hb => by
      obtain ⟨pv, bo, kp, Sk, hd⟩ := (hQ.below hb).is h1
      have := nd_kind hd
      cases hk : p.kk with
      | none => rw [hk] at this h6; subst h6; exact this
      | some l => rw [hk] at this h6 hlen; subst h6; rw [← hlen]; exact this
    len := fun X hb => by
      obtain ⟨pv, bo, kp, Sk, hd⟩ := (hQ.below hb).is h1
      have := nd_len hd; unfold klen at this; rw [hlen] at this; exact this
    occ := fun X hb => by
      obtain ⟨pv, bo, kp, Sk, hd⟩ := (hQ.below hb).is h1
      have := nd_occ hd; unfold klen at this; rw [hlen, h5] at this
      cases has
      · exact this
      · exact this
    next := fun X f hb f0 f1 => by
      obtain ⟨pv, bo, kp, Sk, hd⟩ := (hQ.below hb).is h1
      exact (nd_next hd f (by omega) (by omega)).mono fun e w' ⟨e1, n, e2⟩ => ⟨e1, by rw [e2]; exact below_drewN (Below.refl _ _) n⟩
    }, k1, k2, hleaf⟩
theorem kids_rest {Q : List NP} {kk : KV} {ks r : Tr} {A lr : KV} {b : Nat} {x : Value} (hnext : Kids Q kk ks r (A ++ [(b, x)]) lr) : ∀ p ∈ lr, b < p.1 ∧ p.1 < 256 := fun q hq => by
  have h1 := hnext.lt (b, x) (by simp) q hq
  refine ⟨h1, ?_⟩
  have := row_from (b := 0) hnext.tree hnext.isK hnext.ok
  cases hr : r with
  | nil => have e : lr = [] := by have := hnext.tree; rw [hr] at this; exact this
           rw [e] at hq; simp at hq
  | node => have := hnext.isK; rw [hr] at this; exact this.elim
  | kid c t2 r2 =>
    by_cases hc : 0 < c
    · exact (this (by rw [hr]; exact hc) q hq).2
    · have ht := hnext.tree
      have ho := hnext.ok
      rw [hr] at ht ho
      obtain ⟨x2, l2, e2, _, h3⟩ := ht
      rw [e2] at hq
      rcases List.mem_cons.1 hq with rfl | hq
      · exact ho.1
      · exact (row_from h3 ho.2.2.2.1 ho.2.2.2.2.1 ho.2.2.2.2.2 q hq).2
theorem kindOf_cases (m : Nat) : kindOf m = 4 ∨ kindOf m = 16 ∨ kindOf m = 48 ∨ kindOf m = 256 := by
  unfold kindOf
  split
  · simp
  · split
    · simp
    · split <;> simp
theorem headN_kind (has : Bool) (m : Nat) : headN has false m = (if has then 16 else 0) + (if kindOf m = 4 then 1 else if kindOf m = 16 then 2 else if kindOf m = 48 then 3 else 4) := by
  unfold headN kindOf
  by_cases h1 : m ≤ 4
  · simp [h1]
  · by_cases h2 : m ≤ 16
    · simp [h1, h2]
    · by_cases h3 : m ≤ 48
      · simp [h1, h2, h3]
      · simp [h1, h2, h3]
end Go.Proofs.YtgijnjdcpipfiaaDoor
/- canon.each: what a callback holds, while a tree is gone through. -/
namespace Go.Proofs.YtgijnjdcpipfiaaDoor
open Go.RowKit
/-- how long a way down may be -/
def tway : Tr → Nat
  | .nil => 0
  | .kid _ t r => max (1 + tway t) (tway r)
  | .node bs _ _ _ ks => bs.length + tway ks
theorem tway_lay : ∀ t : Tr, TOk t → tway t ≤ (layT t).length
  | .nil, _ => Nat.le_refl _
  | .kid b t r, ⟨h1, h2, h3, h4, h5, h6⟩ => by
    have h1 := tway_lay t h3
    have h2 := tway_lay r h5
    simp only [tway, layT, List.length_cons, List.length_append]
    omega
  | .node bs v has leaf ks, ⟨h1, h2, h3, h4, h5, h6, h7⟩ => by
    have q := tway_lay ks h7
    simp only [tway, layT, List.length_cons, List.length_append]
    cases leaf with
    | true =>
      rw [(h5 rfl).2]
      simp only [tway]
      omega
    | false =>
      simp only [Bool.false_eq_true, if_false, List.length_cons]
      omega
/-- what a callback holds: blocks F, and what it was told -/
structure CbT {α : Type} (S : (Nat → Prop) → List α → World → Prop) (lo : Nat) : Prop where
  keep : ∀ F L w w', S F L w → (∀ j, F j → w'.heap[j]? = w.heap[j]?) → S F L w'
  low : ∀ F L w, S F L w → ∀ j, F j → lo ≤ j
  high : ∀ F L w, S F L w → ∀ j, F j → j < w.heap.size
/-- what is written, and what is held behind it -/
def Ext (bo : Option Nat) (F : Nat → Prop) (X X' : World) (F' : Nat → Prop) : Prop := Mod (fun j => bo = some j ∨ F j) X X' ∧ ∀ j, F' j → F j ∨ X.heap.size ≤ j
theorem Ext.trans {bo : Option Nat} {F F' F'' : Nat → Prop} {X X' X'' : World} (h : Ext bo F X X' F') (k : Ext bo F' X' X'' F'') : Ext bo F X X'' F'' := by
  refine ⟨h.1.then k.1 fun i hi q => ?_, fun j hj => ?_⟩
  · rcases q with q | q
    · exact Or.inl q
    · rcases h.2 i q with q | q
      · exact Or.inr q
      · omega
  · rcases k.2 j hj with q | q
    · exact h.2 j q
    · exact Or.inr (Nat.le_trans h.1.size q)
theorem Ext.of_below {bo : Option Nat} {F : Nat → Prop} {X X' : World} (h : Below X.heap.size X X') : Ext bo F X X' F := ⟨Mod.of_below h, fun j hj => Or.inl hj⟩
/-- a walk under way: the way, what the callback holds, and two boxes that nobody writes -/
structure EaS {α : Type} (S : (Nat → Prop) → List α → World → Prop) (w : World) (bf bd : Nat) (cf cd : Value) (v : Value) (k : List Nat) (bo : Option Nat) (cap : Nat) (F : Nat → Prop) (L : List α) (X : World) : Prop where
  since : Below w.heap.size w X
  way : WayAt X v k bo cap
  wlo : ∀ g, bo = some g → w.heap.size ≤ g
  st : S F L X
  ne : ∀ g, bo = some g → ¬ F g
  xf : X.cell? ⟨bf, 0, none⟩ = some cf
  xd : X.cell? ⟨bd, 0, none⟩ = some cd
  nf : ¬ F bf ∧ bo ≠ some bf
  nd : ¬ F bd ∧ bo ≠ some bd
section
variable {α : Type} {S : (Nat → Prop) → List α → World → Prop} {w X X' X2 X4 X5 : World} {bf bd : Nat} {cf cd v v2 : Value} {k x : List Nat} {bo bo2 : Option Nat} {cap cap2 : Nat} {F F2 : Nat → Prop} {L L2 : List α}
theorem cell_same {p : Addr} {c : Value} (h : X.cell? p = some c) (e : X'.heap[p.block]? = X.heap[p.block]?) : X'.cell? p = some c := by
  rw [← h]; unfold World.cell?; rw [e]
theorem EaS.below (hS : CbT S w.heap.size) (h : EaS S w bf bd cf cd v k bo cap F L X) (hb : Below X.heap.size X X') : EaS S w bf bd cf cd v k bo cap F L X' where
  since := h.since.trans (hb.mono h.since.size)
  way := h.way.below hb
  wlo := h.wlo
  st := hS.keep F L X X' h.st fun j hj => hb.block j (hS.high F L X h.st j hj)
  ne := h.ne
  xf := (hb.cell (cell_lt h.xf)).trans h.xf
  xd := (hb.cell (cell_lt h.xd)).trans h.xd
  nf := h.nf
  nd := h.nd
/-- the way goes on -/
theorem EaS.app (hS : CbT S w.heap.size) (h : EaS S w bf bd cf cd v k bo cap F L X) (hw : WayAt X' v2 (k ++ x) bo2 cap2) (hg : Goes X bo bo2 cap cap2) (hm : Mod (fun j => bo = some j) X X') : EaS S w bf bd cf cd v2 (k ++ x) bo2 cap2 F L X' ∧ Ext bo F X X' F := by
  have hlt : ∀ j, bo2 = some j → bo = some j ∨ X.heap.size ≤ j := fun j e => by
    rcases hg with ⟨q, _⟩ | q | ⟨g, q, hg⟩
    · rw [q] at e; exact Or.inl e
    · rw [q] at e; cases e
    · rw [q] at e; cases e; exact Or.inr hg
  have hF : ∀ j, F j → X'.heap[j]? = X.heap[j]? := fun j hj => hm.same j (hS.high F L X h.st j hj) fun e => h.ne j e hj
  have hnew : ∀ b, b < X.heap.size → bo ≠ some b → bo2 ≠ some b := fun b hb hn e => by
    rcases hlt b e with q | q
    · exact hn q
    · omega
  refine ⟨⟨h.since.trans (mod_lo hm h.wlo h.since.size), hw, fun g e => ?_, hS.keep F L X X' h.st hF, fun g e q => ?_, cell_same h.xf (hm.same bf (cell_lt h.xf) h.nf.2), cell_same h.xd (hm.same bd (cell_lt h.xd) h.nd.2), ⟨h.nf.1, hnew bf (cell_lt h.xf) h.nf.2⟩, ⟨h.nd.1, hnew bd (cell_lt h.xd) h.nd.2⟩⟩, hm.mono (fun j _ e => Or.inl e), fun j hj => Or.inl hj⟩
  · rcases hlt g e with q | q
    · exact h.wlo g q
    · exact Nat.le_trans h.since.size q
  · rcases hlt g e with r | r
    · exact h.ne g r q
    · have := hS.high F L X h.st g q; omega
/-- the callback was called -/
theorem EaS.told (hS : CbT S w.heap.size) (h : EaS S w bf bd cf cd v k bo cap F L X) (hs : S F2 L2 X') (hm : Mod F X X') (hf : ∀ j, F2 j → F j ∨ X.heap.size ≤ j) : EaS S w bf bd cf cd v k bo cap F2 L2 X' ∧ Ext bo F X X' F2 := by
  have hno : ∀ b, b < X.heap.size → ¬ F b → ¬ F2 b := fun b hb hn q => by
    rcases hf b q with r | r
    · exact hn r
    · omega
  refine ⟨⟨h.since.trans (hm.belowLo (hS.low F L X h.st) h.since.size), h.way.mod hm fun g e q => h.ne g e q, h.wlo, hs, fun g e => hno g (h.way.lt e) (h.ne g e), cell_same h.xf (hm.same bf (cell_lt h.xf) h.nf.1), cell_same h.xd (hm.same bd (cell_lt h.xd) h.nd.1), ⟨hno bf (cell_lt h.xf) h.nf.1, h.nf.2⟩, ⟨hno bd (cell_lt h.xd) h.nd.1, h.nd.2⟩⟩, hm.mono (fun j _ e => Or.inr e), hf⟩
/-- back from further down -/
theorem EaS.back (hS : CbT S w.heap.size) (h : EaS S w bf bd cf cd v k bo cap F L X) (hg : Goes X bo bo2 cap cap2) (hm : Mod (fun j => bo = some j) X X4) (hk : WayAt X4 v k bo cap) (q : EaS S w bf bd cf cd v2 (k ++ x) bo2 cap2 F2 L2 X5) (he : Ext bo2 F X4 X5 F2) : EaS S w bf bd cf cd v k bo cap F2 L2 X5 ∧ Ext bo F X X5 F2 := by
  have hlt : ∀ j, bo2 = some j → bo = some j ∨ X.heap.size ≤ j := fun j e => by
    rcases hg with ⟨q, _⟩ | q | ⟨g, q, hg⟩
    · rw [q] at e; exact Or.inl e
    · rw [q] at e; cases e
    · rw [q] at e; cases e; exact Or.inr hg
  have hE : Ext bo F X X5 F2 := by
    refine ⟨(hm.mono fun j _ e => Or.inl e : Mod (fun j => bo = some j ∨ F j) X X4).then he.1 fun i hi e => ?_, fun j hj => ?_⟩
    · rcases e with e | e
      · rcases hlt i e with r | r
        · exact Or.inl r
        · omega
      · exact Or.inr e
    · rcases he.2 j hj with r | r
      · exact Or.inl r
      · exact Or.inr (Nat.le_trans hm.size r)
  have hno : ∀ b, b < X.heap.size → ¬ F b → ¬ F2 b := fun b hb hn q => by
    rcases hE.2 b q with r | r
    · exact hn r
    · omega
  refine ⟨⟨q.since, ?_, h.wlo, q.st, fun g e => hno g (h.way.lt e) (h.ne g e), q.xf, q.xd, ⟨q.nf.1, h.nf.2⟩, ⟨q.nd.1, h.nd.2⟩⟩, hE⟩
  rcases hg with ⟨e1, e2, e3⟩ | e1
  · subst e1; subst e2
    exact hk.back (Or.inl ⟨rfl, rfl, e3⟩) q.way he.1 h.ne
  · refine hk.mod he.1 fun g e r => ?_
    have hl := h.way.lt e
    rcases r with r | r
    · rcases e1 with e1 | ⟨g', e1, hg'⟩
      · rw [e1] at r; cases r
      · rw [e1] at r; cases r; omega
    · exact h.ne g e r
end
/-- what a callback does, at a node -/
def CbTree (S : (Nat → Prop) → PL → World → Prop) (w : World) (fn : FuncId) (m : Nat) : Prop :=
  ∀ F L X (n : Nat) bs (val : Int) has leaf mm kk (a : Option Addr) (nn c : Nat) key, S F L X → NodeW X n bs val has leaf mm kk → Sl X a nn c key → nn ≤ 900000 → 0 ≤ val → val < 18446744073709551616 → Below w.heap.size w X → L.length ≤ 2000 →
    Calls Tryd.prog fn #[.slice a nn c, .pointer (some ⟨n, 0, none⟩), .pointer (some ⟨m, 0, none⟩)] X fun e X' => e = .returned (.tuple #[]) ∧ ∃ F', S F' (L ++ if has then [(key, val)] else []) X' ∧ Mod F X X' ∧ ∀ j, F' j → F j ∨ X.heap.size ≤ j
/-- a way that goes on, in a list of operations -/
theorem wpList_append_way {w : World} {ops : Array Oper} {rest : List Oper} {o : Oper} {a : Act} {Q : Exit → Act → World → Prop} (hgd : o.guard = none) (s x : Operand)
    (ho : o.op = .call { callee := .builtin .append, args := #[s, x], argTypes := #[24, 24] })
    {v : Value} {k : List Nat} {bo : Option Nat} {cap : Nat} (hs : a.eval s = v) (h : WayAt w v k bo cap) (ad : Addr) (m c : Nat) (news : List Nat) (hm : news.length = m) (hx : a.eval x = .slice (some ad) m c) (hnews : ∀ j u, (bV news)[j]? = some u → w.cell? (ad.add j) = some u) (hk : k.length ≤ 1000000) (hn : news.length ≤ 1000000)
    (K : ∀ v' w' bo' cap', Hid (WayAt w' v' (k ++ news) bo' cap') → Hid (Goes w bo bo' cap cap') → Hid (Mod (fun j => bo = some j) w w') → Hid (WayAt w' v k bo cap) → wpList Tryd.prog ops Q rest (a.put o.dst v') w') : wpList Tryd.prog ops Q (o :: rest) a w := by
  subst hm
  obtain ⟨i, hi, hz, hsize, hby⟩ := info_parts cloneB_info
  refine wpList_plain hgd fun K2 hK => ?_
  obtain ⟨v', w', bo', cap', hr, h2, h3, h4, h5⟩ := run_append_way (P := Tryd.prog) w 24 o.type i Tryd.underlying24 hi hz hsize hby h ad c news hnews hk hn
  unfold Oper.wp execOp
  simp only [ho, resolve, invoke, builtin, Sem.run_bind, Sem.run_pure, Result.andThen_ok, List.map_toArray, List.map_cons, List.map_nil, hs, hx, hr]
  exact hK _ _ (K v' w' bo' cap' h2 h3 h4 h5)
theorem step_append_way {w : World} {ops : Array Oper} {o : Oper} {a : Act} {K : Act → World → Prop} {Q : Exit → Act → World → Prop} {E : Prop} (hgd : o.guard = none) (s x : Operand)
    (ho : o.op = .call { callee := .builtin .append, args := #[s, x], argTypes := #[24, 24] })
    {v : Value} {k : List Nat} {bo : Option Nat} {cap : Nat} (hs : a.eval s = v) (h : WayAt w v k bo cap) (ad : Addr) (m c : Nat) (news : List Nat) (hm : news.length = m) (hx : a.eval x = .slice (some ad) m c) (hnews : ∀ j u, (bV news)[j]? = some u → w.cell? (ad.add j) = some u) (hk : k.length ≤ 1000000) (hn : news.length ≤ 1000000)
    (h' : ∀ v' w' bo' cap', Hid (WayAt w' v' (k ++ news) bo' cap') → Hid (Goes w bo bo' cap cap') → Hid (Mod (fun j => bo = some j) w w') → Hid (WayAt w' v k bo cap) → K (a.put o.dst v') w') :
    if Region.wanted o (yielded ops a.tmps) = true then Oper.wp Tryd.prog o a w K Q else E := by
  subst hm
  have hw : Region.wanted o (yielded ops a.tmps) = true := by simp [Region.wanted, hgd]
  rw [if_pos hw]
  obtain ⟨i, hi, hz, hsize, hby⟩ := info_parts cloneB_info
  obtain ⟨v', w', bo', cap', hr, h2, h3, h4, h5⟩ := run_append_way (P := Tryd.prog) w 24 o.type i Tryd.underlying24 hi hz hsize hby h ad c news hnews hk hn
  unfold Oper.wp execOp
  simp only [ho, resolve, invoke, builtin, Sem.run_bind, Sem.run_pure, Result.andThen_ok, List.map_toArray, List.map_cons, List.map_nil, hs, hx, hr]
  exact h' v' w' bo' cap' h2 h3 h4 h5
end Go.Proofs.YtgijnjdcpipfiaaDoor
/- canon.each, walked, for each of its callbacks. -/
namespace Go.Proofs.YtgijnjdcpipfiaaDoor
open Go.RowKit
def eachF (bf bd : Nat) : Value := .func (.func 40) #[] #[.pointer (some ⟨bf, 0, none⟩), .pointer (some ⟨bd, 0, none⟩)]
/-- what each is asked for at a tree -/
def EachAsk (S : (Nat → Prop) → PL → World → Prop) (w : World) (cf : Value) (N : Nat) : Prop := ∀ (t : Tr) {w0 : World} {Q : List NP} {p : Option Addr}, tdep t ≤ N → StoreP NoB w0 w Q → TreeIn Q 0 t (.pointer p) [] → IsN t → TOk t → ∀ {X : World} {v : Value} {k : List Nat} {bo : Option Nat} {cap : Nat} {F : Nat → Prop} {L : PL} {bf bd : Nat}, EaS S w bf bd cf (eachF bf bd) v k bo cap F L X → (∀ x ∈ k, x < 256) → k.length + tway t ≤ 900000 → L.length + (tl t).length ≤ 2000 →
  Calls Tryd.prog 40 #[v, .pointer p, .pointer (some ⟨bf, 0, none⟩), .pointer (some ⟨bd, 0, none⟩)] X fun e X' => e = .returned (.tuple #[]) ∧ ∃ F', EaS S w bf bd cf (eachF bf bd) v k bo cap F' (L ++ pre k (tl t)) X' ∧ Ext bo F X X' F'
set_option maxHeartbeats 4000000 in
set_option maxRecDepth 100000 in
theorem each1_cn {S : (Nat → Prop) → PL → World → Prop} {w : World} {m : Nat} (hS : CbT S w.heap.size) (hf : CbTree S w (36) m) (N : Nat) (IH : EachAsk S w (.func (.func 36) #[] #[.pointer (some ⟨m, 0, none⟩)]) N)
    {w0 X : World} {Q : List NP} (hQ : StoreP NoB w0 w Q) {n : Nat} {bs : List Nat} {val : Int} {has leaf : Bool} {mm : Nat} {kk : KV} {ks : Tr} (h : NodeW w n bs val has leaf mm kk) (hKs : Kids Q kk ks ks [] kk) (hk0 : knxt kk 0 = kk.head?) (hdp : tdep ks ≤ N) (hb8 : ∀ x ∈ bs, x < 256) (hv0 : 0 ≤ val) (hv1 : val < 18446744073709551616)
    {v : Value} {k : List Nat} {bo : Option Nat} {cap : Nat} {F : Nat → Prop} {L : PL} {bf bd : Nat} (hE : EaS S w bf bd (.func (.func 36) #[] #[.pointer (some ⟨m, 0, none⟩)]) (eachF bf bd) v k bo cap F L X) (hk8 : ∀ x ∈ k, x < 256) (hway : k.length + (bs.length + tway ks) ≤ 900000) {T : PL} (hT : T = L ++ (if has then [(k ++ bs, val)] else []) ++ pre (k ++ bs) (tl ks)) (htot : T.length ≤ 2000) :
    Calls Tryd.prog 40 #[v, .pointer (some ⟨n, 0, none⟩), .pointer (some ⟨bf, 0, none⟩), .pointer (some ⟨bd, 0, none⟩)] X fun e X' => e = .returned (.tuple #[]) ∧ ∃ F', EaS S w bf bd (.func (.func 36) #[] #[.pointer (some ⟨m, 0, none⟩)]) (eachF bf bd) v k bo cap F' T X' ∧ Ext bo F X X' F' := by
  have hPart := Lib.hid (h.part X hE.since)
  have HN := Lib.hid h
  have HS := Lib.hid hS
  have HF := Lib.hid hf
  have HQ := Lib.hid hQ
  have HE := Lib.hid hE
  have hn0 : Hid (∀ X, Below w.heap.size w X → Calls Tryd.prog 35 #[.pointer (some ⟨n, 0, none⟩), .int .i64 0] X fun e w' => e = .returned (.tuple #[.int .u8 (hdB kk : Nat), hdK kk]) ∧ Below X.heap.size X w') := fun X hX => by
    have := h.next X 0 hX (by omega) (by omega)
    rw [hk0, stepV_head] at this
    exact this
  obtain ⟨kb, hkbe⟩ : ∃ kb, kb = k ++ bs := ⟨_, rfl⟩
  have HKe := Lib.hid hkbe
  have hT2 : Hid ((L ++ if has then [(kb, val)] else []) ++ pre kb (tl ks) = T) := by rw [hkbe]; exact hT.symm
  have hLl : Hid (L.length ≤ 2000) := by show _ ≤ _; have := congrArg List.length hT; simp only [List.length_append] at this; omega
  have HT := Lib.hid htot
  have hKs0 := Lib.hid hKs
  have hkl : Hid (k.length ≤ 1000000) := by show _ ≤ _; omega
  have hbl : Hid (bs.length ≤ 1000000) := by show _ ≤ _; omega
  have h1m : Hid (1 ≤ 1000000) := by show _ ≤ _; omega
  have hkb : Hid (∀ x ∈ kb, x < 256) := fun x hx => by
    rw [hkbe] at hx
    rcases List.mem_append.1 hx with hx | hx
    · exact hk8 x hx
    · exact hb8 x hx
  have hkbl : Hid (kb.length + tway ks ≤ 900000) := by show _ ≤ _; rw [hkbe, List.length_append]; omega
  have hv := Lib.hid (And.intro hv0 hv1)
  clear h hKs hk0 hb8 hv0 hv1 hE hk8 hway hT htot hS hf hQ hkbe
  go_enter Tryd.func40, Tryd.ntmps40
  go_wp2_with (first
    | (go_at_call 35; refine (hn0.out _ B3.out).mono ?_; rintro e w4 ⟨rfl, z1⟩; have E4 := Lib.hid (E3.out.below HS.out z1); have Y4 := Lib.hid (Y3.out.trans (Ext.of_below z1)); clear z1)
    | (go_at_call 36; refine (HF.out _ _ _ _ _ _ _ _ _ _ _ _ _ _ E2.out.st hNX.out hSl.out (by have := hkbl.out; omega) hv.out.1 hv.out.2 E2.out.since hLl.out).mono ?_; rintro e w3 ⟨rfl, F3, s3, m3, f3⟩
       obtain ⟨q1, q2⟩ := E2.out.told HS.out s3 m3 f3
       have E3 := Lib.hid q1
       have Y3 := Lib.hid q2
       have B3 := Lib.hid q1.since
       clear s3 m3 f3 q1 q2)
    | (at_builtin; go_loud (refine wpList_append_way (v := v) rfl (.tmp 10) (.tmp 12) rfl rfl E1.out.way ⟨X.heap.size, 0, none⟩ bs.length bs.length bs rfl rfl hnews.out hkl.out hbl.out ?_); intro v2 w2 bo2 cap2 HW HG HM HK
       obtain ⟨q1, q2⟩ := E1.out.app HS.out HW.out HG.out HM.out
       rw [← HKe.out] at q1
       have E2 := Lib.hid q1
       have hNX := Lib.hid (HN.out.below q1.since)
       obtain ⟨a2, hv2, sl2⟩ := q1.way.sl hkb.out
       subst hv2
       have hSl := Lib.hid sl2
       have cbf := q1.xf
       clear q1 q2 sl2 HW)
    | (go_at_call 41; refine hPart.out.mono ?_; rintro e w1 ⟨rfl, s1, b1⟩
       have E1 := Lib.hid (HE.out.below HS.out b1)
       have B1 := Lib.hid b1
       have hnews := Lib.hid (sl_news s1 (Below.refl _ w1))
       clear s1 b1))
  have E4' := E4
  have Y4' := Y4
  clear E4 Y4 Y3 E3 E2 B3 hNX hSl cbf hnews hn0 hPart hLl hbl
  go_loopw [6, 7] (fun v6 v7 wr => ∃ (F1 : Nat → Prop) (L1 : PL) (r : Tr) (A lr : KV), v6 = .int .u8 (hdB lr : Nat) ∧ v7 = hdK lr ∧ Hid (EaS S w bf bd (.func (.func 36) #[] #[.pointer (some ⟨m, 0, none⟩)]) (eachF bf bd) (.slice a2 kb.length cap2) kb bo2 cap2 F1 L1 wr) ∧ Hid (Ext bo2 F w2 wr F1) ∧ Hid (Kids Q kk ks r A lr) ∧ Hid (L1 ++ pre kb (tl r) = T) ∧ Hid (tdep r ≤ N ∧ kb.length + tway r ≤ 900000)) (fun v6 v7 _ => match v7 with | .pointer none => 0 | _ => 256 - (intOf v6).toNat)
  case atStart => exact ⟨F3, _, ks, [], kk, rfl, rfl, E4', Y4', hKs0, hT2, hdp, hkbl.out⟩
  case round =>
    clear E4' Y4' hKs0 hT2 hkbl
    obtain ⟨F1, L1, r, A, lr, rfl, rfl, hE, hY, hKd, hL, hdr⟩ := hrel
    by_cases hl : lr = []
    · subst hl
      obtain rfl := hKd.out.done
      rw [show hdK ([] : KV) = .pointer none from rfl]
      go_wp2_with fail
      go_end0
      have e := hL.out
      simp only [tl, pre_nil, List.append_nil] at e
      have q := hE.out
      rw [HKe.out, e] at q
      obtain ⟨q1, q2⟩ := E1.out.back HS.out HG.out HM.out HK.out q hY.out
      exact ⟨rfl, F1, q1, (Ext.of_below B1.out).trans q2⟩
    · obtain ⟨b, t, r', x, lr', rfl, rfl, hb1, hx1, hb256, ⟨kn, rfl⟩, hTV, hIN, hOk, hnext, hkn⟩ := hKd.out.next hl
      rw [hb1, hx1]
      obtain ⟨kb2, hkb2⟩ : ∃ kb2, kb2 = kb ++ [b] := ⟨_, rfl⟩
      have HK2 := Lib.hid hkb2
      have hL2 : Hid (L1 ++ pre kb2 (tl t) ++ pre kb (tl r') = T) := by show _ = _; rw [← hL.out, hkb2]; simp [tl, pre_append, pre_pre]
      have hLl : Hid (L1.length + (tl t).length ≤ 2000) := by
        have := congrArg List.length hL2.out
        have := HT.out
        simp only [List.length_append, pre_length] at *
        show _ ≤ _
        omega
      have hdr1 := hdr.out.1
      have hdr2 := hdr.out.2
      simp only [tdep] at hdr1
      simp only [tway] at hdr2
      have hTI : TreeIn Q 0 t (.pointer (some ⟨kn, 0, none⟩)) [] := by
        rcases hTV with ⟨_, e⟩ | ⟨_, e⟩
        · cases e
        · exact e
      have hk2 : Hid (∀ x ∈ kb2, x < 256) := fun x hx => by
        rw [hkb2] at hx
        rcases List.mem_append.1 hx with hx | hx
        · exact hkb.out x hx
        · obtain rfl := List.mem_singleton.1 hx; exact hb256
      have hRec : Hid (∀ w8 v8 bo8 cap8, EaS S w bf bd (.func (.func 36) #[] #[.pointer (some ⟨m, 0, none⟩)]) (eachF bf bd) v8 kb2 bo8 cap8 F1 L1 w8 → Calls Tryd.prog 40 #[v8, .pointer (some ⟨kn, 0, none⟩), .pointer (some ⟨bf, 0, none⟩), .pointer (some ⟨bd, 0, none⟩)] w8 fun e X' => e = .returned (.tuple #[]) ∧ ∃ F', EaS S w bf bd (.func (.func 36) #[] #[.pointer (some ⟨m, 0, none⟩)]) (eachF bf bd) v8 kb2 bo8 cap8 F' (L1 ++ pre kb2 (tl t)) X' ∧ Ext bo8 F1 w8 X' F') := fun w8 v8 bo8 cap8 q =>
        IH t (by omega) HQ.out hTI hIN hOk q hk2.out (by rw [hkb2, List.length_append, List.length_singleton]; omega) hLl.out
      have hN2 : Hid (∀ wr', Below w.heap.size w wr' → Calls Tryd.prog 35 #[.pointer (some ⟨n, 0, none⟩), .int .i64 ((b + 1 : Nat) : Int)] wr' fun e w' => e = .returned (.tuple #[.int .u8 (hdB lr' : Nat), hdK lr']) ∧ Below wr'.heap.size wr' w') := fun wr' hb' => by
        have := HN.out.next wr' ((b + 1 : Nat) : Int) hb' (by omega) (by omega)
        rw [show (((b + 1 : Nat) : Int)) = (b : Int) + 1 by omega, hkn, stepV_head] at this
        exact this
      have hK2 := Lib.hid hnext
      have hwb : IntKind.i64.wrap ((b : Int) + 1) = ((b + 1 : Nat) : Int) := by rw [show (b : Int) + 1 = ((b + 1 : Nat) : Int) by omega]; exact IntWalk.i64_in _ (by omega)
      have hwc : IntKind.i64.wrap (b : Int) = (b : Int) := IntWalk.i64_in _ (by omega)
      have hms : Hid (∀ p ∈ lr', b < p.1 ∧ p.1 < 256) := kids_rest hnext
      have hdr3 : Hid (tdep r' ≤ N ∧ kb.length + tway r' ≤ 900000) := And.intro (by omega) (by omega)
      have hkbL : Hid (kb.length ≤ 1000000) := by show _ ≤ _; omega
      have hAd : Hid (Below wr.heap.size wr (wr.alloc (.cells #[.int .u8 (b : Nat)] 5)).drew) := ((Below.refl _ wr).alloc (Nat.le_refl _) _).drew
      have hEA := Lib.hid (hE.out.below HS.out hAd.out)
      have hnews : Hid (∀ j u, (bV [b])[j]? = some u → (wr.alloc (.cells #[.int .u8 (b : Nat)] 5)).drew.cell? ((⟨wr.heap.size, 0, none⟩ : Addr).add j) = some u) := news_alloc wr [.int .u8 (b : Nat)] 5
      have cd0 := hE.out.xd
      have cdA : ∀ o, (wr.alloc o).cell? ⟨bd, 0, none⟩ = some (eachF bf bd) := fun o => (hE.out.below HS.out ((Below.refl _ wr).alloc (Nat.le_refl _) o)).xd
      unfold eachF at cd0 cdA
      clear hTV hTI hIN hOk hnext hkn hKd hl hb1 hx1 hdr hdr1 hdr2 hL hkb2
      go_wp2_with fail
      go_region_law (first
        | (refine step_append_way (v := .slice a2 kb.length cap2) rfl (.tmp 34) (.tmp 36) rfl rfl hEA.out.way ⟨wr.heap.size, 0, none⟩ 1 1 [b] rfl rfl hnews.out hkbL.out h1m.out ?_; intro v8 w8 bo8 cap8 HW8 HG8 HM8 HK8
           obtain ⟨q1, q2⟩ := hEA.out.app HS.out HW8.out HG8.out HM8.out
           rw [← HK2.out] at q1
           have E8 := Lib.hid q1
           have cd8 := q1.xd
           unfold eachF at cd8
           clear q1 q2)
        | (go_simp; go_at_call 40; refine (hRec.out _ _ _ _ E8.out).mono ?_; rintro e w9 ⟨rfl, F9, q9, y9⟩
           have E9 := Lib.hid (hEA.out.back HS.out HG8.out HM8.out HK8.out (by rw [← HK2.out]; exact q9) y9)
           clear q9 y9))
      all_goals
        go_wp2_with (go_at_call 35; refine (hN2.out _ E9.out.1.since).mono ?_; rintro e w10 ⟨rfl, z1⟩; have E10 := Lib.hid (E9.out.1.below HS.out z1); have Y10 := Lib.hid (hY.out.trans ((Ext.of_below hAd.out).trans (E9.out.2.trans (Ext.of_below z1)))); clear z1)
        go_roundw
        case rel => exact ⟨F9, _, r', A ++ [(b, .pointer (some ⟨kn, 0, none⟩))], lr', rfl, rfl, E10, Y10, hK2, hL2, hdr3⟩
        case measure =>
          cases lr' with
          | nil => simp [hdK, hdB, intOf]; omega
          | cons y l => have := hms.out y (by simp); simp [hdK, hdB, intOf]; split <;> omega

set_option maxHeartbeats 4000000 in
set_option maxRecDepth 100000 in
theorem each1_ls {S : (Nat → Prop) → PL → World → Prop} {w : World} {m : Nat} (hS : CbT S w.heap.size) (hf : CbTree S w (21) m) (N : Nat) (IH : EachAsk S w (.func (.func 21) #[] #[.pointer (some ⟨m, 0, none⟩)]) N)
    {w0 X : World} {Q : List NP} (hQ : StoreP NoB w0 w Q) {n : Nat} {bs : List Nat} {val : Int} {has leaf : Bool} {mm : Nat} {kk : KV} {ks : Tr} (h : NodeW w n bs val has leaf mm kk) (hKs : Kids Q kk ks ks [] kk) (hk0 : knxt kk 0 = kk.head?) (hdp : tdep ks ≤ N) (hb8 : ∀ x ∈ bs, x < 256) (hv0 : 0 ≤ val) (hv1 : val < 18446744073709551616)
    {v : Value} {k : List Nat} {bo : Option Nat} {cap : Nat} {F : Nat → Prop} {L : PL} {bf bd : Nat} (hE : EaS S w bf bd (.func (.func 21) #[] #[.pointer (some ⟨m, 0, none⟩)]) (eachF bf bd) v k bo cap F L X) (hk8 : ∀ x ∈ k, x < 256) (hway : k.length + (bs.length + tway ks) ≤ 900000) {T : PL} (hT : T = L ++ (if has then [(k ++ bs, val)] else []) ++ pre (k ++ bs) (tl ks)) (htot : T.length ≤ 2000) :
    Calls Tryd.prog 40 #[v, .pointer (some ⟨n, 0, none⟩), .pointer (some ⟨bf, 0, none⟩), .pointer (some ⟨bd, 0, none⟩)] X fun e X' => e = .returned (.tuple #[]) ∧ ∃ F', EaS S w bf bd (.func (.func 21) #[] #[.pointer (some ⟨m, 0, none⟩)]) (eachF bf bd) v k bo cap F' T X' ∧ Ext bo F X X' F' := by
  have hPart := Lib.hid (h.part X hE.since)
  have HN := Lib.hid h
  have HS := Lib.hid hS
  have HF := Lib.hid hf
  have HQ := Lib.hid hQ
  have HE := Lib.hid hE
  have hn0 : Hid (∀ X, Below w.heap.size w X → Calls Tryd.prog 35 #[.pointer (some ⟨n, 0, none⟩), .int .i64 0] X fun e w' => e = .returned (.tuple #[.int .u8 (hdB kk : Nat), hdK kk]) ∧ Below X.heap.size X w') := fun X hX => by
    have := h.next X 0 hX (by omega) (by omega)
    rw [hk0, stepV_head] at this
    exact this
  obtain ⟨kb, hkbe⟩ : ∃ kb, kb = k ++ bs := ⟨_, rfl⟩
  have HKe := Lib.hid hkbe
  have hT2 : Hid ((L ++ if has then [(kb, val)] else []) ++ pre kb (tl ks) = T) := by rw [hkbe]; exact hT.symm
  have hLl : Hid (L.length ≤ 2000) := by show _ ≤ _; have := congrArg List.length hT; simp only [List.length_append] at this; omega
  have HT := Lib.hid htot
  have hKs0 := Lib.hid hKs
  have hkl : Hid (k.length ≤ 1000000) := by show _ ≤ _; omega
  have hbl : Hid (bs.length ≤ 1000000) := by show _ ≤ _; omega
  have h1m : Hid (1 ≤ 1000000) := by show _ ≤ _; omega
  have hkb : Hid (∀ x ∈ kb, x < 256) := fun x hx => by
    rw [hkbe] at hx
    rcases List.mem_append.1 hx with hx | hx
    · exact hk8 x hx
    · exact hb8 x hx
  have hkbl : Hid (kb.length + tway ks ≤ 900000) := by show _ ≤ _; rw [hkbe, List.length_append]; omega
  have hv := Lib.hid (And.intro hv0 hv1)
  clear h hKs hk0 hb8 hv0 hv1 hE hk8 hway hT htot hS hf hQ hkbe
  go_enter Tryd.func40, Tryd.ntmps40
  go_wp2_with (first
    | (go_at_call 35; refine (hn0.out _ B3.out).mono ?_; rintro e w4 ⟨rfl, z1⟩; have E4 := Lib.hid (E3.out.below HS.out z1); have Y4 := Lib.hid (Y3.out.trans (Ext.of_below z1)); clear z1)
    | (go_at_call 21; refine (HF.out _ _ _ _ _ _ _ _ _ _ _ _ _ _ E2.out.st hNX.out hSl.out (by have := hkbl.out; omega) hv.out.1 hv.out.2 E2.out.since hLl.out).mono ?_; rintro e w3 ⟨rfl, F3, s3, m3, f3⟩
       obtain ⟨q1, q2⟩ := E2.out.told HS.out s3 m3 f3
       have E3 := Lib.hid q1
       have Y3 := Lib.hid q2
       have B3 := Lib.hid q1.since
       clear s3 m3 f3 q1 q2)
    | (at_builtin; go_loud (refine wpList_append_way (v := v) rfl (.tmp 10) (.tmp 12) rfl rfl E1.out.way ⟨X.heap.size, 0, none⟩ bs.length bs.length bs rfl rfl hnews.out hkl.out hbl.out ?_); intro v2 w2 bo2 cap2 HW HG HM HK
       obtain ⟨q1, q2⟩ := E1.out.app HS.out HW.out HG.out HM.out
       rw [← HKe.out] at q1
       have E2 := Lib.hid q1
       have hNX := Lib.hid (HN.out.below q1.since)
       obtain ⟨a2, hv2, sl2⟩ := q1.way.sl hkb.out
       subst hv2
       have hSl := Lib.hid sl2
       have cbf := q1.xf
       clear q1 q2 sl2 HW)
    | (go_at_call 41; refine hPart.out.mono ?_; rintro e w1 ⟨rfl, s1, b1⟩
       have E1 := Lib.hid (HE.out.below HS.out b1)
       have B1 := Lib.hid b1
       have hnews := Lib.hid (sl_news s1 (Below.refl _ w1))
       clear s1 b1))
  have E4' := E4
  have Y4' := Y4
  clear E4 Y4 Y3 E3 E2 B3 hNX hSl cbf hnews hn0 hPart hLl hbl
  go_loopw [6, 7] (fun v6 v7 wr => ∃ (F1 : Nat → Prop) (L1 : PL) (r : Tr) (A lr : KV), v6 = .int .u8 (hdB lr : Nat) ∧ v7 = hdK lr ∧ Hid (EaS S w bf bd (.func (.func 21) #[] #[.pointer (some ⟨m, 0, none⟩)]) (eachF bf bd) (.slice a2 kb.length cap2) kb bo2 cap2 F1 L1 wr) ∧ Hid (Ext bo2 F w2 wr F1) ∧ Hid (Kids Q kk ks r A lr) ∧ Hid (L1 ++ pre kb (tl r) = T) ∧ Hid (tdep r ≤ N ∧ kb.length + tway r ≤ 900000)) (fun v6 v7 _ => match v7 with | .pointer none => 0 | _ => 256 - (intOf v6).toNat)
  case atStart => exact ⟨F3, _, ks, [], kk, rfl, rfl, E4', Y4', hKs0, hT2, hdp, hkbl.out⟩
  case round =>
    clear E4' Y4' hKs0 hT2 hkbl
    obtain ⟨F1, L1, r, A, lr, rfl, rfl, hE, hY, hKd, hL, hdr⟩ := hrel
    by_cases hl : lr = []
    · subst hl
      obtain rfl := hKd.out.done
      rw [show hdK ([] : KV) = .pointer none from rfl]
      go_wp2_with fail
      go_end0
      have e := hL.out
      simp only [tl, pre_nil, List.append_nil] at e
      have q := hE.out
      rw [HKe.out, e] at q
      obtain ⟨q1, q2⟩ := E1.out.back HS.out HG.out HM.out HK.out q hY.out
      exact ⟨rfl, F1, q1, (Ext.of_below B1.out).trans q2⟩
    · obtain ⟨b, t, r', x, lr', rfl, rfl, hb1, hx1, hb256, ⟨kn, rfl⟩, hTV, hIN, hOk, hnext, hkn⟩ := hKd.out.next hl
      rw [hb1, hx1]
      obtain ⟨kb2, hkb2⟩ : ∃ kb2, kb2 = kb ++ [b] := ⟨_, rfl⟩
      have HK2 := Lib.hid hkb2
      have hL2 : Hid (L1 ++ pre kb2 (tl t) ++ pre kb (tl r') = T) := by show _ = _; rw [← hL.out, hkb2]; simp [tl, pre_append, pre_pre]
      have hLl : Hid (L1.length + (tl t).length ≤ 2000) := by
        have := congrArg List.length hL2.out
        have := HT.out
        simp only [List.length_append, pre_length] at *
        show _ ≤ _
        omega
      have hdr1 := hdr.out.1
      have hdr2 := hdr.out.2
      simp only [tdep] at hdr1
      simp only [tway] at hdr2
      have hTI : TreeIn Q 0 t (.pointer (some ⟨kn, 0, none⟩)) [] := by
        rcases hTV with ⟨_, e⟩ | ⟨_, e⟩
        · cases e
        · exact e
      have hk2 : Hid (∀ x ∈ kb2, x < 256) := fun x hx => by
        rw [hkb2] at hx
        rcases List.mem_append.1 hx with hx | hx
        · exact hkb.out x hx
        · obtain rfl := List.mem_singleton.1 hx; exact hb256
      have hRec : Hid (∀ w8 v8 bo8 cap8, EaS S w bf bd (.func (.func 21) #[] #[.pointer (some ⟨m, 0, none⟩)]) (eachF bf bd) v8 kb2 bo8 cap8 F1 L1 w8 → Calls Tryd.prog 40 #[v8, .pointer (some ⟨kn, 0, none⟩), .pointer (some ⟨bf, 0, none⟩), .pointer (some ⟨bd, 0, none⟩)] w8 fun e X' => e = .returned (.tuple #[]) ∧ ∃ F', EaS S w bf bd (.func (.func 21) #[] #[.pointer (some ⟨m, 0, none⟩)]) (eachF bf bd) v8 kb2 bo8 cap8 F' (L1 ++ pre kb2 (tl t)) X' ∧ Ext bo8 F1 w8 X' F') := fun w8 v8 bo8 cap8 q =>
        IH t (by omega) HQ.out hTI hIN hOk q hk2.out (by rw [hkb2, List.length_append, List.length_singleton]; omega) hLl.out
      have hN2 : Hid (∀ wr', Below w.heap.size w wr' → Calls Tryd.prog 35 #[.pointer (some ⟨n, 0, none⟩), .int .i64 ((b + 1 : Nat) : Int)] wr' fun e w' => e = .returned (.tuple #[.int .u8 (hdB lr' : Nat), hdK lr']) ∧ Below wr'.heap.size wr' w') := fun wr' hb' => by
        have := HN.out.next wr' ((b + 1 : Nat) : Int) hb' (by omega) (by omega)
        rw [show (((b + 1 : Nat) : Int)) = (b : Int) + 1 by omega, hkn, stepV_head] at this
        exact this
      have hK2 := Lib.hid hnext
      have hwb : IntKind.i64.wrap ((b : Int) + 1) = ((b + 1 : Nat) : Int) := by rw [show (b : Int) + 1 = ((b + 1 : Nat) : Int) by omega]; exact IntWalk.i64_in _ (by omega)
      have hwc : IntKind.i64.wrap (b : Int) = (b : Int) := IntWalk.i64_in _ (by omega)
      have hms : Hid (∀ p ∈ lr', b < p.1 ∧ p.1 < 256) := kids_rest hnext
      have hdr3 : Hid (tdep r' ≤ N ∧ kb.length + tway r' ≤ 900000) := And.intro (by omega) (by omega)
      have hkbL : Hid (kb.length ≤ 1000000) := by show _ ≤ _; omega
      have hAd : Hid (Below wr.heap.size wr (wr.alloc (.cells #[.int .u8 (b : Nat)] 5)).drew) := ((Below.refl _ wr).alloc (Nat.le_refl _) _).drew
      have hEA := Lib.hid (hE.out.below HS.out hAd.out)
      have hnews : Hid (∀ j u, (bV [b])[j]? = some u → (wr.alloc (.cells #[.int .u8 (b : Nat)] 5)).drew.cell? ((⟨wr.heap.size, 0, none⟩ : Addr).add j) = some u) := news_alloc wr [.int .u8 (b : Nat)] 5
      have cd0 := hE.out.xd
      have cdA : ∀ o, (wr.alloc o).cell? ⟨bd, 0, none⟩ = some (eachF bf bd) := fun o => (hE.out.below HS.out ((Below.refl _ wr).alloc (Nat.le_refl _) o)).xd
      unfold eachF at cd0 cdA
      clear hTV hTI hIN hOk hnext hkn hKd hl hb1 hx1 hdr hdr1 hdr2 hL hkb2
      go_wp2_with fail
      go_region_law (first
        | (refine step_append_way (v := .slice a2 kb.length cap2) rfl (.tmp 34) (.tmp 36) rfl rfl hEA.out.way ⟨wr.heap.size, 0, none⟩ 1 1 [b] rfl rfl hnews.out hkbL.out h1m.out ?_; intro v8 w8 bo8 cap8 HW8 HG8 HM8 HK8
           obtain ⟨q1, q2⟩ := hEA.out.app HS.out HW8.out HG8.out HM8.out
           rw [← HK2.out] at q1
           have E8 := Lib.hid q1
           have cd8 := q1.xd
           unfold eachF at cd8
           clear q1 q2)
        | (go_simp; go_at_call 40; refine (hRec.out _ _ _ _ E8.out).mono ?_; rintro e w9 ⟨rfl, F9, q9, y9⟩
           have E9 := Lib.hid (hEA.out.back HS.out HG8.out HM8.out HK8.out (by rw [← HK2.out]; exact q9) y9)
           clear q9 y9))
      all_goals
        go_wp2_with (go_at_call 35; refine (hN2.out _ E9.out.1.since).mono ?_; rintro e w10 ⟨rfl, z1⟩; have E10 := Lib.hid (E9.out.1.below HS.out z1); have Y10 := Lib.hid (hY.out.trans ((Ext.of_below hAd.out).trans (E9.out.2.trans (Ext.of_below z1)))); clear z1)
        go_roundw
        case rel => exact ⟨F9, _, r', A ++ [(b, .pointer (some ⟨kn, 0, none⟩))], lr', rfl, rfl, E10, Y10, hK2, hL2, hdr3⟩
        case measure =>
          cases lr' with
          | nil => simp [hdK, hdB, intOf]; omega
          | cons y l => have := hms.out y (by simp); simp [hdK, hdB, intOf]; split <;> omega
end Go.Proofs.YtgijnjdcpipfiaaDoor
/- canon.each at any tree, for each of its callbacks. -/
namespace Go.Proofs.YtgijnjdcpipfiaaDoor
open Go.RowKit
theorem eachAny_cn {S : (Nat → Prop) → PL → World → Prop} {w : World} {m : Nat} (hS : CbT S w.heap.size) (hf : CbTree S w (36) m) : ∀ N, EachAsk S w (.func (.func 36) #[] #[.pointer (some ⟨m, 0, none⟩)]) N
  | 0 => fun t w0 Q p hd hQ hT hN hO => by
    cases t with
    | nil => exact hN.elim
    | kid => exact hN.elim
    | node => simp only [tdep] at hd; omega
  | N + 1 => fun t w0 Q p hd hQ hT hN hO X v k bo cap F L bf bd hE hk8 hway htot => by
    cases t with
    | nil => exact hN.elim
    | kid => exact hN.elim
    | node bs val has leaf ks =>
      simp only [tdep] at hd
      simp only [tway] at hway
      obtain ⟨n, kk, rfl, h1, h2, h3, _⟩ := nodew_of hQ hT hO
      obtain ⟨o1, o2, o3, _⟩ := hO
      refine each1_cn hS hf N (eachAny_cn hS hf N) hQ h1 h2 h3 (by omega) o1 o2 o3 hE hk8 hway (T := L ++ pre k (tl (.node bs val has leaf ks))) ?_ (by rw [List.length_append, pre_length]; exact htot)
      simp only [tl, pre_append, pre_pre, List.append_assoc]
      congr 2
      cases has <;> simp [pre]
theorem eachTop_cn {S : (Nat → Prop) → PL → World → Prop} {w w0 X : World} {m : Nat} (hS : CbT S w.heap.size) (hf : CbTree S w (36) m) {t : Tr} {Q : List NP} {p : Option Addr} (hQ : StoreP NoB w0 w Q) (hT : TreeV Q t (.pointer p)) (hO : TOk t) (hb : Below w.heap.size w X) {F : Nat → Prop} (hs : S F [] X) (hway : tway t ≤ 900000) (htot : (tl t).length ≤ 2000) :
    Calls Tryd.prog 20 #[.pointer p, .func (.func 36) #[] #[.pointer (some ⟨m, 0, none⟩)]] X fun e X' => e = .returned (.tuple #[]) ∧ ∃ F', S F' (tl t) X' ∧ Mod F X X' ∧ ∀ j, F' j → F j ∨ X.heap.size ≤ j := by
  obtain ⟨w1, hw1⟩ : ∃ w1, w1 = X.alloc (.cells #[.func (.func 36) #[] #[.pointer (some ⟨m, 0, none⟩)]] 59) := ⟨_, rfl⟩
  have hbx : w1.heap[X.heap.size]? = some (.cells [.func (.func 36) #[] #[.pointer (some ⟨m, 0, none⟩)]].toArray 59 (0, 0)) := by rw [hw1]; exact heap_alloc_new X _
  have hA1 : Below X.heap.size X w1 := by rw [hw1]; exact (Below.refl _ X).alloc (Nat.le_refl _) _
  have hs1 : w1.heap.size = X.heap.size + 1 := by rw [hw1, World.size_alloc]
  have hE : Hid (∀ t', Calls Tryd.prog 40 #[.slice none 0 0, .pointer p, .pointer (some ⟨X.heap.size, 0, none⟩), .pointer (some ⟨w1.heap.size, 0, none⟩)] (w1.alloc (.cells #[eachF X.heap.size w1.heap.size] t')) fun e X' => e = .returned (.tuple #[]) ∧ ∃ F', S F' (tl t) X' ∧ Mod F X X' ∧ ∀ j, F' j → F j ∨ X.heap.size ≤ j) := fun t' => by
    have hA2 : Below w1.heap.size w1 (w1.alloc (.cells #[eachF X.heap.size w1.heap.size] t')) := (Below.refl _ w1).alloc (Nat.le_refl _) _
    have hA : Below X.heap.size X (w1.alloc (.cells #[eachF X.heap.size w1.heap.size] t')) := hA1.trans (hA2.mono hA1.size)
    have hF : ∀ b, X.heap.size ≤ b → ¬ F b := fun b h q => by have := hS.high F [] X hs b q; omega
    rcases hT with ⟨rfl, e⟩ | ⟨hn, hT⟩
    · obtain rfl : p = none := by simpa using e
      refine (each1_nil _ _ _).mono ?_
      rintro e w' ⟨rfl, rfl⟩
      exact ⟨rfl, F, hS.keep F [] X _ hs fun j hj => hA.block j (hS.high F [] X hs j hj), Mod.of_below hA, fun j hj => Or.inl hj⟩
    · have hEA : EaS S w X.heap.size w1.heap.size (.func (.func 36) #[] #[.pointer (some ⟨m, 0, none⟩)]) (eachF X.heap.size w1.heap.size) (.slice none 0 0) [] none 0 F [] (w1.alloc (.cells #[eachF X.heap.size w1.heap.size] t')) := by
        refine ⟨hb.trans (hA.mono hb.size), WayAt.nil _, fun g e => (by cases e), hS.keep F [] X _ hs fun j hj => hA.block j (hS.high F [] X hs j hj), fun g e => (by cases e), ?_, ?_, ⟨hF _ (Nat.le_refl _), by simp⟩, ⟨hF _ (by omega), by simp⟩⟩
        · rw [cell_of_blk ((hA2.block _ (Array.getElem?_eq_some_iff.1 hbx).1).trans hbx)]; rfl
        · rw [cell_of_blk (c := [eachF X.heap.size w1.heap.size]) (t := t') (heap_alloc_new w1 _)]; rfl
      refine (eachAny_cn hS hf (tdep t) t (Nat.le_refl _) hQ hT hn hO hEA (by simp) (by simpa using hway) (by simpa using htot)).mono ?_
      rintro e X' ⟨rfl, F', q, q1, q2⟩
      have q3 := q.st
      simp only [List.nil_append, pre_none] at q3
      refine ⟨rfl, F', q3, (Mod.of_below hA).then q1 fun i _ r => ?_, fun j hj => ?_⟩
      · rcases r with r | r
        · cases r
        · exact r
      · rcases q2 j hj with r | r
        · exact Or.inl r
        · exact Or.inr (Nat.le_trans hA.size r)
  unfold eachF at hE
  generalize tl t = T at *
  clear hQ hb hT hO hbx hA1 hs1 hway htot hs hS hf
  go_enter Tryd.func20, Tryd.ntmps20
  go_upto_region 1 with fail
  rw [← hw1]
  clear hw1
  go_wp2_with (go_at_call 40; refine (hE.out _).mono ?_; rintro e w' ⟨rfl, q⟩; have q := Lib.hid q)
  go_end0
  exact ⟨rfl, q.out⟩

theorem eachAny_ls {S : (Nat → Prop) → PL → World → Prop} {w : World} {m : Nat} (hS : CbT S w.heap.size) (hf : CbTree S w (21) m) : ∀ N, EachAsk S w (.func (.func 21) #[] #[.pointer (some ⟨m, 0, none⟩)]) N
  | 0 => fun t w0 Q p hd hQ hT hN hO => by
    cases t with
    | nil => exact hN.elim
    | kid => exact hN.elim
    | node => simp only [tdep] at hd; omega
  | N + 1 => fun t w0 Q p hd hQ hT hN hO X v k bo cap F L bf bd hE hk8 hway htot => by
    cases t with
    | nil => exact hN.elim
    | kid => exact hN.elim
    | node bs val has leaf ks =>
      simp only [tdep] at hd
      simp only [tway] at hway
      obtain ⟨n, kk, rfl, h1, h2, h3, _⟩ := nodew_of hQ hT hO
      obtain ⟨o1, o2, o3, _⟩ := hO
      refine each1_ls hS hf N (eachAny_ls hS hf N) hQ h1 h2 h3 (by omega) o1 o2 o3 hE hk8 hway (T := L ++ pre k (tl (.node bs val has leaf ks))) ?_ (by rw [List.length_append, pre_length]; exact htot)
      simp only [tl, pre_append, pre_pre, List.append_assoc]
      congr 2
      cases has <;> simp [pre]
theorem eachTop_ls {S : (Nat → Prop) → PL → World → Prop} {w w0 X : World} {m : Nat} (hS : CbT S w.heap.size) (hf : CbTree S w (21) m) {t : Tr} {Q : List NP} {p : Option Addr} (hQ : StoreP NoB w0 w Q) (hT : TreeV Q t (.pointer p)) (hO : TOk t) (hb : Below w.heap.size w X) {F : Nat → Prop} (hs : S F [] X) (hway : tway t ≤ 900000) (htot : (tl t).length ≤ 2000) :
    Calls Tryd.prog 20 #[.pointer p, .func (.func 21) #[] #[.pointer (some ⟨m, 0, none⟩)]] X fun e X' => e = .returned (.tuple #[]) ∧ ∃ F', S F' (tl t) X' ∧ Mod F X X' ∧ ∀ j, F' j → F j ∨ X.heap.size ≤ j := by
  obtain ⟨w1, hw1⟩ : ∃ w1, w1 = X.alloc (.cells #[.func (.func 21) #[] #[.pointer (some ⟨m, 0, none⟩)]] 59) := ⟨_, rfl⟩
  have hbx : w1.heap[X.heap.size]? = some (.cells [.func (.func 21) #[] #[.pointer (some ⟨m, 0, none⟩)]].toArray 59 (0, 0)) := by rw [hw1]; exact heap_alloc_new X _
  have hA1 : Below X.heap.size X w1 := by rw [hw1]; exact (Below.refl _ X).alloc (Nat.le_refl _) _
  have hs1 : w1.heap.size = X.heap.size + 1 := by rw [hw1, World.size_alloc]
  have hE : Hid (∀ t', Calls Tryd.prog 40 #[.slice none 0 0, .pointer p, .pointer (some ⟨X.heap.size, 0, none⟩), .pointer (some ⟨w1.heap.size, 0, none⟩)] (w1.alloc (.cells #[eachF X.heap.size w1.heap.size] t')) fun e X' => e = .returned (.tuple #[]) ∧ ∃ F', S F' (tl t) X' ∧ Mod F X X' ∧ ∀ j, F' j → F j ∨ X.heap.size ≤ j) := fun t' => by
    have hA2 : Below w1.heap.size w1 (w1.alloc (.cells #[eachF X.heap.size w1.heap.size] t')) := (Below.refl _ w1).alloc (Nat.le_refl _) _
    have hA : Below X.heap.size X (w1.alloc (.cells #[eachF X.heap.size w1.heap.size] t')) := hA1.trans (hA2.mono hA1.size)
    have hF : ∀ b, X.heap.size ≤ b → ¬ F b := fun b h q => by have := hS.high F [] X hs b q; omega
    rcases hT with ⟨rfl, e⟩ | ⟨hn, hT⟩
    · obtain rfl : p = none := by simpa using e
      refine (each1_nil _ _ _).mono ?_
      rintro e w' ⟨rfl, rfl⟩
      exact ⟨rfl, F, hS.keep F [] X _ hs fun j hj => hA.block j (hS.high F [] X hs j hj), Mod.of_below hA, fun j hj => Or.inl hj⟩
    · have hEA : EaS S w X.heap.size w1.heap.size (.func (.func 21) #[] #[.pointer (some ⟨m, 0, none⟩)]) (eachF X.heap.size w1.heap.size) (.slice none 0 0) [] none 0 F [] (w1.alloc (.cells #[eachF X.heap.size w1.heap.size] t')) := by
        refine ⟨hb.trans (hA.mono hb.size), WayAt.nil _, fun g e => (by cases e), hS.keep F [] X _ hs fun j hj => hA.block j (hS.high F [] X hs j hj), fun g e => (by cases e), ?_, ?_, ⟨hF _ (Nat.le_refl _), by simp⟩, ⟨hF _ (by omega), by simp⟩⟩
        · rw [cell_of_blk ((hA2.block _ (Array.getElem?_eq_some_iff.1 hbx).1).trans hbx)]; rfl
        · rw [cell_of_blk (c := [eachF X.heap.size w1.heap.size]) (t := t') (heap_alloc_new w1 _)]; rfl
      refine (eachAny_ls hS hf (tdep t) t (Nat.le_refl _) hQ hT hn hO hEA (by simp) (by simpa using hway) (by simpa using htot)).mono ?_
      rintro e X' ⟨rfl, F', q, q1, q2⟩
      have q3 := q.st
      simp only [List.nil_append, pre_none] at q3
      refine ⟨rfl, F', q3, (Mod.of_below hA).then q1 fun i _ r => ?_, fun j hj => ?_⟩
      · rcases r with r | r
        · cases r
        · exact r
      · rcases q2 j hj with r | r
        · exact Or.inl r
        · exact Or.inr (Nat.le_trans hA.size r)
  unfold eachF at hE
  generalize tl t = T at *
  clear hQ hb hT hO hbx hA1 hs1 hway htot hs hS hf
  go_enter Tryd.func20, Tryd.ntmps20
  go_upto_region 1 with fail
  rw [← hw1]
  clear hw1
  go_wp2_with (go_at_call 40; refine (hE.out _).mono ?_; rintro e w' ⟨rfl, q⟩; have q := Lib.hid q)
  go_end0
  exact ⟨rfl, q.out⟩
end Go.Proofs.YtgijnjdcpipfiaaDoor
/- canon.List and canon.Count. -/
namespace Go.Proofs.YtgijnjdcpipfiaaDoor
open Go.RowKit
/-! Count. -/
def SCnt (lo m : Nat) (F : Nat → Prop) (L : PL) (w : World) : Prop := w.heap[m]? = some (.cells [.int .i64 (L.length : Nat)].toArray 3 (0, 0)) ∧ (F = fun j => j = m) ∧ lo ≤ m
theorem scn_cb (lo m : Nat) : CbT (SCnt lo m) lo := by
  refine ⟨fun F L w w' ⟨h1, h2, h3⟩ hk => ⟨(hk m (by rw [h2])).trans h1, h2, h3⟩, fun F L w ⟨h1, h2, h3⟩ j hj => ?_, fun F L w ⟨h1, h2, h3⟩ j hj => ?_⟩
  · subst h2; have hj : j = m := hj; rw [hj]; exact h3
  · subst h2; have hj : j = m := hj; rw [hj]; exact (Array.getElem?_eq_some_iff.1 h1).1
theorem count_cbt (w : World) (m : Nat) : CbTree (SCnt w.heap.size m) w (36) m := fun F L X n bs val has leaf mm kk a nn c key ⟨h1, h2, h3⟩ hN hK hn hv0 hv1 hb hL => by
  have hV := Lib.hid (hN.val X (Below.refl _ _))
  have hc : X.cell? ⟨m, 0, none⟩ = some (.int .i64 (L.length : Nat)) := by rw [cell_of_blk h1]; rfl
  have hf := frozen_of_blk h1 0
  have hw : IntKind.i64.wrap ((L.length : Int) + 1) = (L.length : Int) + 1 := IntWalk.i64_in _ (by omega)
  have hE : Hid (∃ F', SCnt w.heap.size m F' (L ++ [(key, val)]) (X.setCell ⟨m, 0, none⟩ (.int .i64 ((L.length : Int) + 1))) ∧ Mod F X (X.setCell ⟨m, 0, none⟩ (.int .i64 ((L.length : Int) + 1))) ∧ ∀ j, F' j → F j ∨ X.heap.size ≤ j) := by
    refine ⟨F, ⟨?_, h2, h3⟩, (Mod.refl _ X).setCell ⟨m, 0, none⟩ _ (fun _ => by rw [h2]), fun j hj => Or.inl hj⟩
    rw [setCell_list _ _ _ _ _ _ h1, setRow_heap _ _ _ _ _ _ h1]
    simp
  have hE0 : Hid (∃ F', SCnt w.heap.size m F' L X ∧ Mod F X X ∧ ∀ j, F' j → F j ∨ X.heap.size ≤ j) := ⟨F, ⟨h1, h2, h3⟩, Mod.refl _ _, fun j hj => Or.inl hj⟩
  generalize L.length = ll at *
  clear h1 h2 h3 hN hK hb
  cases has
  · go_enter Tryd.func36, Tryd.ntmps36
    go_wp2_with (go_at_call 22; refine hV.out.mono ?_; rintro e w' ⟨rfl, rfl⟩)
    go_end0
    exact ⟨rfl, hE0.out⟩
  · go_enter Tryd.func36, Tryd.ntmps36
    go_wp2_with (go_at_call 22; refine hV.out.mono ?_; rintro e w' ⟨rfl, rfl⟩)
    go_end0
    exact ⟨rfl, hE.out⟩
set_option maxHeartbeats 1000000 in
theorem count_any {w0 w : World} {Q : List NP} {t : Tr} {p : Option Addr} (hQ : StoreP NoB w0 w Q) (hT : TreeV Q t (.pointer p)) (hO : TOk t) (hway : tway t ≤ 900000) (htot : (tl t).length ≤ 2000) : Calls Tryd.prog 16 #[.pointer p] w (belowPost (.int .i64 ((tl t).length : Nat)) w) := by
  have hA : Below w.heap.size w (w.alloc (.cells #[.int .i64 0] 3)) := (Below.refl _ w).alloc (Nat.le_refl _) _
  have hE := Lib.hid (eachTop_cn (scn_cb w.heap.size w.heap.size) (count_cbt w w.heap.size) hQ hT hO hA (F := fun j => j = w.heap.size) ⟨heap_alloc_new w _, rfl, Nat.le_refl _⟩ hway htot)
  have HA := Lib.hid hA
  generalize tl t = T at *
  clear hQ hT hO hA
  go_enter Tryd.func16, Tryd.ntmps16
  go_wp2_with (go_at_call 20; refine hE.out.mono ?_; rintro e w2 ⟨rfl, F2, ⟨z1, z2, z3⟩, m2, _⟩
               have c2 : w2.cell? ⟨w.heap.size, 0, none⟩ = some (.int .i64 (T.length : Nat)) := (by rw [cell_of_blk z1]; rfl)
               have B2 := Lib.hid (HA.out.trans (m2.belowLo (fun j hj => (by have hj : j = w.heap.size := hj; rw [hj]; exact Nat.le_refl _)) HA.out.size))
               clear z1 z2 z3 m2)
  go_ret
  exact ⟨rfl, B2.out⟩
/-! List. -/
/-- what List's callback holds -/
structure SLs (lo bl : Nat) (F : Nat → Prop) (L : PL) (w : World) (v : Value) (es : EL) (bo : Option Nat) : Prop where
  var : w.heap[bl]? = some (.cells [v].toArray 33 (0, 0))
  own : OwnS 2 apT w v L.length (flat es) bo
  ents : Ents w es L
  fl : F bl
  fo : ∀ g, bo = some g → F g ∧ g ≠ bl
  fe : ∀ i (h : i < es.length) (p : Addr) n c, (es[i]).1 = .slice (some p) n c → F p.block ∧ p.block ≠ bl ∧ bo ≠ some p.block
  low : ∀ j, F j → lo ≤ j
  high : ∀ j, F j → j < w.heap.size
def SLst (lo bl : Nat) (F : Nat → Prop) (L : PL) (w : World) : Prop := ∃ v es bo, SLs lo bl F L w v es bo
theorem sls_cb (lo bl : Nat) : CbT (SLst lo bl) lo := by
  refine ⟨fun F L w w' ⟨v, es, bo, h⟩ hk => ?_, fun F L w ⟨v, es, bo, h⟩ j hj => h.low j hj, fun F L w ⟨v, es, bo, h⟩ j hj => h.high j hj⟩
  refine ⟨v, es, bo, (hk bl h.fl).trans h.var, h.own.keep fun g e => hk g (h.fo g e).1, ⟨h.ents.1, fun i h1 h2 => ?_⟩, h.fl, h.fo, h.fe, h.low, fun j hj => ?_⟩
  · obtain ⟨⟨a, n, c, e, q⟩, r⟩ := h.ents.2 i h1 h2
    refine ⟨⟨a, n, c, e, q.len, ⟨q.at_.1, fun j hj => ?_⟩, q.cap, q.capm, q.nil⟩, r⟩
    obtain ⟨p, ep, z1, z2⟩ := q.at_.2 j hj
    subst ep
    have hF := (h.fe i h1 p n c e).1
    have e1 := hk p.block hF
    refine ⟨p, rfl, ?_, ?_⟩
    · rw [add_block] at z1 ⊢
      have : w'.heap[p.block]? = some _ := e1.trans (Array.getElem?_eq_getElem z1)
      exact (Array.getElem?_eq_some_iff.1 this).1
    · rw [← z2]
      unfold World.cell?
      rw [add_block, e1]
  · have e1 := hk j hj
    have : w'.heap[j]? = some _ := e1.trans (Array.getElem?_eq_getElem (h.high j hj))
    exact (Array.getElem?_eq_some_iff.1 this).1
/-- one more -/
theorem SLs.step {lo bl : Nat} {F : Nat → Prop} {L : PL} {w wc w1 w2 w3 : World} {v v2 : Value} {es : EL} {bo bo2 : Option Nat} (h : SLs lo bl F L w v es bo) (hlo : lo ≤ w.heap.size) {x : List Nat} {y : Int} {a6 : Option Addr} {n6 c6 : Nat}
    (hb1 : Below w.heap.size w wc) (hs : Sl wc a6 n6 c6 x) (hn : ∀ p : Addr, a6 = some p → w.heap.size ≤ p.block ∧ p.block < wc.heap.size) (hy : 0 ≤ y ∧ y < 18446744073709551616) (hb2 : Below wc.heap.size wc w1)
    (ho : OwnS 2 apT w2 v2 (L.length + 1) (flat es ++ [.slice a6 n6 c6, .int .u64 y]) bo2) (hm : Mod (fun j => bo = some j) w1 w2) (hn2 : NewOr w1 bo bo2) (h3 : w3 = w2.setCell ⟨bl, 0, none⟩ v2) :
    ∃ F', SLst lo bl F' (L ++ [(x, y)]) w3 ∧ Mod F w w3 ∧ ∀ j, F' j → F j ∨ w.heap.size ≤ j := by
  have s1 := hb1.size
  have s2 := hb2.size
  have s3 := hm.size
  have hbl := h.high bl h.fl
  have hB : Below w.heap.size w w1 := hb1.trans (hb2.mono s1)
  have hv : w2.heap[bl]? = some (.cells [v].toArray 33 (0, 0)) := (hm.same bl (by omega) (fun e => (h.fo bl e).2 rfl)).trans ((hB.block bl hbl).trans h.var)
  have hM2 : Mod F w w2 := (Mod.of_below hB).trans (hm.mono fun j _ e => (h.fo j e).1)
  have hM3 : Mod F w w3 := by rw [h3]; exact hM2.setCell ⟨bl, 0, none⟩ _ (fun _ => h.fl)
  have s4 : w3.heap.size = w2.heap.size := by rw [h3]; simp [World.setCell]
  have hbo2 : ∀ g, bo2 = some g → (F g ∨ w.heap.size ≤ g) ∧ g ≠ bl ∧ g < w2.heap.size := fun g e => by
    subst e
    refine ⟨?_, ?_, ho.lt⟩
    · rcases hn2 with e | ⟨g', e, hg⟩
      · exact Or.inl (h.fo g e.symm).1
      · cases e; exact Or.inr (by omega)
    · rcases hn2 with e | ⟨g', e, hg⟩
      · exact (h.fo g e.symm).2
      · cases e; omega
  have hneq : ∀ p : Addr, a6 = some p → bo2 ≠ some p.block := fun p e e2 => by
    have h1 := hn p e
    rcases hn2 with e3 | ⟨g', e3, hg⟩
    · rw [e3] at e2
      have := h.high _ (h.fo _ e2).1
      omega
    · rw [e3] at e2
      cases e2
      omega
  have hold : ∀ i (hi : i < es.length) (p : Addr) n c, (es[i]).1 = .slice (some p) n c → bo2 ≠ some p.block := fun i hi p n c e e2 => by
    have h1 := h.fe i hi p n c e
    rcases hn2 with e3 | ⟨g', e3, hg⟩
    · exact h1.2.2 (e3 ▸ e2)
    · rw [e3] at e2
      cases e2
      have := h.high _ h1.1
      omega
  refine ⟨fun j => F j ∨ (w.heap.size ≤ j ∧ j < w3.heap.size), ⟨v2, es ++ [(.slice a6 n6 c6, y)], bo2, ?_, ?_, ?_, Or.inl h.fl, ?_, ?_, ?_, ?_⟩, hM3, fun j hj => by rcases hj with e | e; exact Or.inl e; exact Or.inr e.1⟩
  · rw [h3, setCell_list _ _ _ _ _ _ hv, setRow_heap _ _ _ _ _ _ hv]; rfl
  · rw [flat_append, List.length_append]
    rw [h3]
    refine OwnS.keep ho fun g e => Below.heap_setCell _ _ _ _ (hbo2 g e).2.1
  · have hm3 : Mod (fun j => bo = some j ∨ j = bl) w1 w3 := by rw [h3]; exact (hm.mono (fun j _ e => Or.inl e)).setCell ⟨bl, 0, none⟩ _ (fun _ => Or.inr rfl)
    have hE : Ents w3 es L := ents_keep (h.ents.below hB) hm3 (fun i hi p n c e t => by
      have q := h.fe i hi p n c e
      rcases t with t | t
      · exact q.2.2 t
      · exact q.2.1 t)
    have hs1 := hs.below hb2
    refine hE.snoc ⟨⟨_, _, _, rfl, hs1.len, bytes_keep hs1.at_ hm3 (fun p e t => ?_), hs1.cap, hs1.capm, hs1.nil⟩, rfl, hy⟩
    have q := hn p e
    rcases t with t | t
    · have := h.high _ (h.fo _ t).1; omega
    · omega
  · intro g e
    have q := hbo2 g e
    exact ⟨by rcases q.1 with r | r; exact Or.inl r; exact Or.inr ⟨r, by omega⟩, q.2.1⟩
  · intro i hi p n c e
    by_cases hi2 : i < es.length
    · rw [List.getElem_append_left hi2] at e
      have q := h.fe i hi2 p n c e
      exact ⟨Or.inl q.1, q.2.1, hold i hi2 p n c e⟩
    · have ei : i = es.length := by simp at hi; omega
      subst ei
      have e' : (Value.slice a6 n6 c6) = .slice (some p) n c := by simpa using e
      injection e' with e'
      have q := hn p e'
      exact ⟨Or.inr ⟨q.1, by omega⟩, by omega, hneq p e'⟩
  · intro j hj
    rcases hj with e | e
    · exact h.low j e
    · omega
  · intro j hj
    rcases hj with e | e
    · have := h.high j e; omega
    · exact e.2
set_option maxHeartbeats 4000000 in
set_option maxRecDepth 100000 in
theorem list_cbt (wN : World) (bl : Nat) : CbTree (SLst wN.heap.size bl) wN (21) bl := fun F L w n bs y has leaf mm kk ka kn kc x ⟨v, es, bo, h⟩ hN hK hkn hy hy2 hb hL => by
  have hV := Lib.hid (hN.val w (Below.refl _ _))
  have hE0 : Hid (∃ F', SLst wN.heap.size bl F' L w ∧ Mod F w w ∧ ∀ j, F' j → F j ∨ w.heap.size ≤ j) := ⟨F, ⟨v, es, bo, h⟩, Mod.refl _ _, fun j hj => Or.inl hj⟩
  obtain ⟨va, vc, hv, _⟩ := h.own.len
  subst hv
  have c1 : w.cell? ⟨bl, 0, none⟩ = some (.slice va L.length vc) := by rw [cell_of_blk h.var]; rfl
  have f1 := frozen_of_blk h.var 0
  have hcl : Hid (Calls Tryd.prog 23 #[.slice ka kn kc] w.drew fun e w' => ∃ a6 c6, e = .returned (.slice a6 kn c6) ∧ Sl w' a6 kn c6 x ∧ Below w.heap.size w w' ∧ ∀ p : Addr, a6 = some p → w.heap.size ≤ p.block ∧ p.block < w'.heap.size) :=
    (clone_new (hK.below (Below.refl _ _).drew) (by omega)).mono fun e w' ⟨a6, c6, e1, e2, e3, e4⟩ => ⟨a6, c6, e1, e2, (Below.refl _ w).drew.trans e3, e4⟩
  have H := Lib.hid h
  have hvar := Lib.hid h.var
  have hbl := Lib.hid (h.high bl h.fl)
  have hlo := Lib.hid hb.size
  have hb1 : Hid (L.length + 1 ≤ maxLen) := by show _ ≤ _; unfold maxLen; omega
  have hb2 : Hid ((L.length + 1) * 32 ≤ 140737488355328) := by show _ ≤ _; omega
  have hfo : Hid (∀ g, bo = some g → g ≠ bl) := fun g e => (h.fo g e).2
  clear h hb hK hN
  cases has with
  | false =>
    go_enter Tryd.func21, Tryd.ntmps21
    go_wp2_with (go_at_call 22; refine hV.out.mono ?_; rintro e w' ⟨rfl, rfl⟩)
    go_end0
    exact ⟨rfl, hE0.out⟩
  | true =>
  clear hE0
  go_enter Tryd.func21, Tryd.ntmps21
  go_wp2_with (go_at_call 22; refine hV.out.mono ?_; rintro e w' ⟨rfl, rfl⟩)
  go_region_law (first
    | (refine step_append_s rfl (.tmp 13) (.tmp 18) 33 rfl apT _ 2 32 Tryd.underlying33 apInfo rfl (by omega) (.slice va L.length vc) rfl L.length (flat es) bo (ho1.out _) ⟨w1.heap.size, 0, none⟩ 1 1 [.slice a6 kn c6, .int .u64 y] rfl rfl (hnw.out) (h1.out) hb1.out hb2.out ?_; intro v2 w2 bo2 HO HM HN; obtain ⟨a2, c2, hv2, _⟩ := HO.out.len; subst hv2; have hh := Lib.hid ((HM.out.same bl (by rw [World.size_alloc]; have := hbl.out; have := B1.out.size; omega) (fun e => hfo.out bl e rfl)).trans ((Below.heap_alloc _ _ _ (by have := hbl.out; have := B1.out.size; omega)).trans hv1.out)); have z1 : w2.cell? ⟨bl, 0, none⟩ = some (.slice va L.length vc) := by rw [cell_of_blk hh.out]; rfl
       have z2 := frozen_of_blk hh.out 0)
    | (go_simp; go_at_call 23; refine hcl.out.mono ?_; rintro e w1 ⟨a6, c6, rfl, s6, b6, n6⟩; have S6 := Lib.hid s6; have B1 := Lib.hid b6; have N6 := Lib.hid n6; have hv1 := Lib.hid ((b6.block bl hbl.out).trans hvar.out); have d1 : w1.cell? ⟨bl, 0, none⟩ = some (.slice va L.length vc) := by rw [cell_of_blk hv1.out]; rfl
       have ho1 : Hid (∀ o, OwnS 2 apT (w1.alloc o) (.slice va L.length vc) L.length (flat es) bo) := fun o => (H.out.own.below b6).below ((Below.refl _ w1).alloc (Nat.le_refl _) o)
       have d2 : ∀ o, (w1.alloc o).cell? ⟨bl, 0, none⟩ = some (.slice va L.length vc) := fun o => (((Below.refl _ w1).alloc (Nat.le_refl _) o).cell (p := ⟨bl, 0, none⟩) (cell_lt d1)).trans d1
       have hnw := Lib.hid (pair_news w1 (.slice a6 kn c6) y apT)
       have h1 := Lib.hid (oneP (a := a6) (n := kn) (c := c6) (y := y))
       clear s6 b6 n6))
  all_goals
    have hst := Lib.hid (H.out.step hlo.out B1.out S6.out N6.out ⟨hy, hy2⟩ ((Below.refl _ w1).alloc (Nat.le_refl _) _) HO.out HM.out HN.out rfl)
    (try simp only [Exit.then, Exit.inBlock])
    go_end0
    exact ⟨rfl, hst.out⟩
set_option maxHeartbeats 1000000 in
theorem list_any {w0 w : World} {Q : List NP} {t : Tr} {p : Option Addr} (hQ : StoreP NoB w0 w Q) (hT : TreeV Q t (.pointer p)) (hO : TOk t) (hway : tway t ≤ 900000) (htot : (tl t).length ≤ 2000) : Calls Tryd.prog 8 #[.pointer p] w (prsPost (tl t) w) := by
  obtain ⟨w4, hw4⟩ : ∃ w4, w4 = w.alloc (.cells #[.slice none 0 0] 33) := ⟨_, rfl⟩
  have hb4 : Below w.heap.size w w4 := by rw [hw4]; exact (Below.refl _ w).alloc (Nat.le_refl _) _
  have hv4 : w4.heap[w.heap.size]? = some (.cells [.slice none 0 0].toArray 33 (0, 0)) := by rw [hw4]; exact heap_alloc_new w _
  have hs4 : w4.heap.size = w.heap.size + 1 := by rw [hw4, World.size_alloc]
  have hS0 : SLst w.heap.size w.heap.size (fun j => j = w.heap.size) [] w4 :=
    ⟨_, [], none, hv4, OwnS.nil _ _ _, ents_nil _, rfl, (fun g e => by cases e), (fun i h => by simp at h), (fun j hj => by rw [hj]; exact Nat.le_refl _), (fun j hj => by rw [hj, hs4]; exact Nat.lt_succ_self _)⟩
  have hEa := Lib.hid (eachTop_ls (sls_cb w.heap.size w.heap.size) (list_cbt w w.heap.size) hQ hT hO hb4 hS0 hway htot)
  obtain ⟨T, hTe⟩ : ∃ T, T = tl t := ⟨_, rfl⟩
  rw [← hTe] at hEa ⊢
  have HB4 := Lib.hid hb4
  have hfin : Hid (∀ F w5, Mod (fun j => j = w.heap.size) w4 w5 → SLst w.heap.size w.heap.size F T w5 → ∃ a c, w5.cell? ⟨w.heap.size, 0, none⟩ = some (.slice a T.length c) ∧ prsPost T w (.returned (.slice a T.length c)) w5) := fun F w5 hm ⟨v, es, bo, h⟩ => by
    obtain ⟨a, c, rfl, hp⟩ := prs_of_own h.own h.ents
    refine ⟨a, c, by rw [cell_of_blk h.var]; rfl, a, c, rfl, hp, HB4.out.trans (hm.belowLo (fun j hj => ?_) HB4.out.size)⟩
    have hj : j = w.heap.size := hj
    rw [hj]; exact Nat.le_refl _
  clear hQ hT hO hTe hb4 hS0 hv4 hs4 hway htot
  go_enter Tryd.func8, Tryd.ntmps8
  go_upto_region 2 with fail
  rw [← hw4]
  clear hw4
  go_wp2_with (go_at_call 20; refine hEa.out.mono ?_; rintro e w5 ⟨rfl, F5, z2, z1, _⟩; obtain ⟨a5, c5, y1, y2⟩ := hfin.out F5 w5 z1 z2; have Y := Lib.hid y2; clear z1 z2 y2)
  go_ret
  exact Y.out
end Go.Proofs.YtgijnjdcpipfiaaDoor
/- Any canonical tree's node laid. -/
namespace Go.Proofs.YtgijnjdcpipfiaaDoor
open Go.RowKit
/-- bytes that are under way -/
structure LayI (bo0 : Option Nat) (X : World) (zs : List Nat) (v : Value) (M : Nat) (bo : Option Nat) (wr : World) : Prop where
  own : OwnS 1 u8T wr v M (bV zs) bo
  len : M = zs.length
  mod : Mod (fun j => bo0 = some j) X wr
  new : NewOr X bo0 bo
theorem own_m {w : World} {v : Value} {M : Nat} {zs : List Nat} {bo : Option Nat} (h : OwnS 1 u8T w v M (bV zs) bo) : M = zs.length := by
  have e : (bV zs).length = zs.length := by simp [bV]
  rcases h with ⟨_, h0, h1, _⟩ | ⟨g, cap, cur, _, _, _, _, _, _, _, h1⟩
  · rw [h0, ← e, h1]; rfl
  · omega
theorem newOr_lo {X : World} {bo bo' : Option Nat} {lo : Nat} (n : NewOr X bo bo') (hb : ∀ g, bo = some g → lo ≤ g) (hs : lo ≤ X.heap.size) : ∀ g, bo' = some g → lo ≤ g := fun g e => by
  rcases n with e2 | ⟨g', e2, hg⟩
  · rw [e2] at e; exact hb g e
  · rw [e2] at e; cases e; omega
section
variable {bo0 bo bo' : Option Nat} {X wr X2 w5 : World} {zs ys : List Nat} {v v' : Value} {M m : Nat}
theorem LayI.start (h : OwnS 1 u8T X v zs.length (bV zs) bo) : LayI bo X zs v zs.length bo X := ⟨h, rfl, Mod.refl _ _, Or.inl rfl⟩
theorem LayI.app (h : LayI bo0 X zs v M bo wr) (hb : Below wr.heap.size wr X2) (hO : OwnS 1 u8T w5 v' (M + m) (bV zs ++ bV ys) bo') (hM : Mod (fun j => bo = some j) X2 w5) (hN : NewOr X2 bo bo') : LayI bo0 X (zs ++ ys) v' (M + m) bo' w5 := by
  obtain ⟨q1, q2⟩ := mod_step h.mod h.new hb hM hN
  rw [← bV_app] at hO
  exact ⟨hO, own_m hO, q1, q2⟩
theorem LayI.put (h : LayI bo0 X zs v M bo wr) (hb : Below wr.heap.size wr X2) {n : Nat} {e : Ending} (q : numPost bo X2 zs n e w5) : ∃ v' M' bo', e = .returned v' ∧ LayI bo0 X (zs ++ numL n) v' M' bo' w5 := by
  obtain ⟨v', M', bo', rfl, e1, o, hM, hN⟩ := q
  obtain ⟨q1, q2⟩ := mod_step h.mod h.new hb hM hN
  exact ⟨v', M', bo', rfl, o, own_m o, q1, q2⟩
theorem LayI.lay (h : LayI bo0 X zs v M bo wr) (hb : Below wr.heap.size wr X2) {e : Ending} (q : layPost bo X2 (zs ++ ys) e w5) : ∃ v' M' bo', e = .returned v' ∧ LayI bo0 X (zs ++ ys) v' M' bo' w5 := by
  obtain ⟨v', M', bo', rfl, o, hM, hN⟩ := q
  obtain ⟨q1, q2⟩ := mod_step h.mod h.new hb hM hN
  exact ⟨v', M', bo', rfl, o, own_m o, q1, q2⟩
theorem LayI.below (h : LayI bo0 X zs v M bo wr) (hb : Below wr.heap.size wr X2) : LayI bo0 X zs v M bo X2 :=
  ⟨h.own.below hb, h.len, ⟨hb.os.trans h.mod.os, hb.tape.trans h.mod.tape, hb.output.trans h.mod.output, Nat.le_trans h.mod.size hb.size, fun j hj hne => by rw [hb.block j (Nat.lt_of_lt_of_le hj h.mod.size)]; exact h.mod.same j hj hne⟩, h.new⟩
theorem LayI.len' (h : LayI bo0 X zs v M bo wr) : OwnS 1 u8T wr v zs.length (bV zs) bo := by rw [← h.len]; exact h.own
theorem LayI.lo (h : LayI bo0 X zs v M bo wr) {w : World} (hb : Below w.heap.size w X) (hbo : ∀ g, bo0 = some g → w.heap.size ≤ g) : Below w.heap.size w wr ∧ ∀ g, bo = some g → w.heap.size ≤ g :=
  ⟨hb.trans (mod_lo h.mod hbo hb.size), newOr_lo h.new hbo hb.size⟩
theorem LayI.done (h : LayI bo0 X zs v M bo wr) : layPost bo0 X zs (.returned v) wr := ⟨v, M, bo, rfl, h.own, h.mod, h.new⟩
end
end Go.Proofs.YtgijnjdcpipfiaaDoor
/- Any canonical tree encoded; how many bytes that is. -/
namespace Go.Proofs.YtgijnjdcpipfiaaDoor
open Go.RowKit
/-- a tree's bytes, with how many pairs it has -/
def encL (t : Tr) : List Nat := [1] ++ numL (tl t).length ++ layT t
end Go.Proofs.YtgijnjdcpipfiaaDoor
/- The statements KidsKind and KidsNobody: their walks. -/
namespace Go.Proofs.YtgijnjdcpipfiaaDoor
open Go.RowKit
theorem kindZ_facts (n : Int) : (kindZ n = 0 ∨ 4 ≤ kindZ n ∧ n ≤ kindZ n ∧ kindZ (kindZ n) = kindZ n) ∧ ∀ L : Int, L = 4 ∨ L = 16 ∨ L = 48 → n < 0 ∨ (0 ≤ n ∧ L < n) ∨ (0 ≤ n ∧ n ≤ L ∧ kindZ n ≤ L) := by
  have key : kindZ n = 0 ∧ (n < 0 ∨ 256 < n) ∨ 0 ≤ n ∧ (kindZ n = 4 ∧ n ≤ 4 ∨ kindZ n = 16 ∧ n ≤ 16 ∧ 4 < n ∨ kindZ n = 48 ∧ n ≤ 48 ∧ 16 < n ∨ kindZ n = 256 ∧ n ≤ 256 ∧ 48 < n) := by
    unfold kindZ
    by_cases h0 : n < 0
    · rw [if_pos h0]; omega
    · by_cases h1 : n ≤ 4
      · rw [if_neg h0, if_pos h1]; omega
      · by_cases h2 : n ≤ 16
        · rw [if_neg h0, if_neg h1, if_pos h2]; omega
        · by_cases h3 : n ≤ 48
          · rw [if_neg h0, if_neg h1, if_neg h2, if_pos h3]; omega
          · by_cases h4 : n ≤ 256
            · rw [if_neg h0, if_neg h1, if_neg h2, if_neg h3, if_pos h4]; omega
            · rw [if_neg h0, if_neg h1, if_neg h2, if_neg h3, if_neg h4]; omega
  constructor
  · rcases key with ⟨h, _⟩ | ⟨_, ⟨h, _⟩ | ⟨h, _⟩ | ⟨h, _⟩ | ⟨h, _⟩⟩ <;> rw [h]
    · exact Or.inl rfl
    all_goals exact Or.inr ⟨by omega, by omega, rfl⟩
  · rintro L (rfl | rfl | rfl) <;> omega
end Go.Proofs.YtgijnjdcpipfiaaDoor
/- The document's build, walked whole. -/
namespace Go.Proofs.YtgijnjdcpipfiaaDoor
open Go.RowKit
end Go.Proofs.YtgijnjdcpipfiaaDoor
/- The document's Build. -/
namespace Go.Proofs.YtgijnjdcpipfiaaDoor
open Go.RowKit
abbrev six0 : Value := .agg #[.int .i64 0, .slice none 0 0, .bool false, .int .u64 0, .slice none 0 0, .slice none 0 0]
def docPost (l : PL) (w : World) (e : Ending) (w' : World) : Prop :=
  ∃ (kd : Int) (pa : Option Addr) (pn pc : Nat) (hs : Bool) (v : Int) (ba : Option Addr) (bn bc : Nat) (ka : Option Addr) (kn kc : Nat),
    e = .returned (.agg #[.int .i64 kd, .slice pa pn pc, .bool hs, .int .u64 v, .slice ba bn bc, .slice ka kn kc]) ∧ Below w.heap.size w w' ∧
    ((l = [] ∧ kd = 0 ∧ pn = 0 ∧ hs = false ∧ kn = 0) ∨ ∃ t, IsN t ∧ TOk t ∧ Can t ∧ tl t = l ∧ RT w' (fun j => j < w'.heap.size) t none 0 [.int .i64 kd, .slice pa pn pc, .bool hs, .int .u64 v, .slice ba bn bc, .slice ka kn kc])
end Go.Proofs.YtgijnjdcpipfiaaDoor
/- The document's Steps. -/
namespace Go.Proofs.YtgijnjdcpipfiaaDoor
open Go.RowKit
theorem tstep_hit : ∀ {L : List (Nat × Tr)} {i b : Nat} {t : Tr} (r : List Nat), L[i]? = some (b, t) → (∀ (q : Nat) (x : Nat × Tr), q < i → L[q]? = some x → x.1 ≠ b) → tstep (ofL L) (b :: r) = tstep t r
  | [], i, b, t, r, h, _ => by simp at h
  | y :: L, 0, b, t, r, h, _ => by
    obtain rfl : y = (b, t) := by simpa using h
    simp [ofL, tstep]
  | y :: L, i + 1, b, t, r, h, hq => by
    have h0 := hq 0 y (by omega) rfl
    simp only [ofL, tstep, if_neg h0]
    exact tstep_hit r (by simpa using h) fun q x hqi hx => hq (q + 1) x (by omega) (by simpa using hx)
theorem tstep_miss : ∀ {L : List (Nat × Tr)} {b : Nat} (r : List Nat), (∀ (q : Nat) (x : Nat × Tr), L[q]? = some x → x.1 ≠ b) → tstep (ofL L) (b :: r) = 0
  | [], b, r, _ => rfl
  | y :: L, b, r, h => by
    have h0 := h 0 y rfl
    simp only [ofL, tstep, if_neg h0]
    exact tstep_miss r fun q x hx => h (q + 1) x (by simpa using hx)
/-- a kid's six cells -/
theorem rt_at {w : World} {G : Nat → Prop} : ∀ {L : List (Nat × Tr)} {ka : Option Addr} {i : Nat}, RT w G (ofL L) ka i [] → ∀ q x, L[q]? = some x → ∃ g c, ka = some ⟨g, 0, none⟩ ∧ G g ∧ c.length = 6 ∧ (∀ j, j < 6 → w.cell? ⟨g, (i + q) * 6 + j, none⟩ = c[j]?) ∧ RT w G x.2 none 0 c
  | [], _, _, _, q, x, h => by simp at h
  | y :: L, ka, i, ⟨⟨g, c, h1, h2, h3, h4, h5⟩, h6⟩, 0, x, h => by
    obtain rfl : y = x := by simpa using h
    exact ⟨g, c, h1, h2, h3, by simpa using h4, h5⟩
  | y :: L, ka, i, ⟨_, h6⟩, q + 1, x, h => by
    obtain ⟨g, c, h1, h2, h3, h4, h5⟩ := rt_at h6 q x (by simpa using h)
    exact ⟨g, c, h1, h2, h3, fun j hj => by rw [← h4 j hj]; congr 3; omega, h5⟩
/-- a row by its list -/
theorem rt_chain {w : World} {G : Nat → Prop} {ks : Tr} {ka : Option Addr} (h : RT w G ks ka 0 []) (h1 : IsK ks) (h2 : TOk ks) : RT w G (ofL (chain ks)) ka 0 [] := by rw [ofL_chain ks h1 h2]; exact h
end Go.Proofs.YtgijnjdcpipfiaaDoor
/- canon.Depth. -/
namespace Go.Proofs.YtgijnjdcpipfiaaDoor
open Go.RowKit
def DepthAsk (N : Nat) : Prop := ∀ (t : Tr) {w0 w : World} {Q : List NP} {v : Option Addr}, tdep t ≤ N → StoreP NoB w0 w Q → TreeV Q t (.pointer v) → TOk t → Calls Tryd.prog 15 #[.pointer v] w (belowPost (.int .i64 (tdep t : Nat)) w)
theorem depth_nil (w : World) : Calls Tryd.prog 15 #[.pointer none] w (belowPost (.int .i64 (0 : Nat)) w) := by
  have hb := Lib.hid (Below.refl w.heap.size w)
  go_enter Tryd.func15, Tryd.ntmps15
  go_wp2_with fail
  go_ret
  exact ⟨rfl, hb.out⟩
set_option maxHeartbeats 1000000 in
set_option maxRecDepth 100000 in
theorem depth_node (N : Nat) (hN : N ≤ 1000000) (IH : DepthAsk N) {w0 w : World} {Q : List NP} (hQ : StoreP NoB w0 w Q) {i : Nat} {p : NP} (hi : Q[i]? = some p) {ks : Tr} (hT : TreeIn Q 0 ks (.pointer none) (p.kk.getD [])) (hK : IsK ks) (hO : TOk ks) (hd : tdep ks ≤ N) :
    Calls Tryd.prog 15 #[.pointer (some ⟨p.n, 0, none⟩)] w (belowPost (.int .i64 ((1 + tdep ks : Nat) : Int)) w) := by
  obtain ⟨hs, hx0⟩ := kids_start hT rfl hK hO
  have HQ := Lib.hid hQ
  have hNx : Hid (∀ wr f, Below w.heap.size w wr → (0 : Int) ≤ f → f ≤ 256 → Calls Tryd.prog 35 #[.pointer (some ⟨p.n, 0, none⟩), .int .i64 f] wr fun e w' => e = .returned (stepV (knxt (p.kk.getD []) f)) ∧ Below wr.heap.size wr w') := fun wr f hb h1 h2 => by
    obtain ⟨pv, bo, kp, Sk, hn⟩ := (hQ.below hb).is hi
    exact (nd_next hn f (by omega) (by omega)).mono fun e w' ⟨e1, n, e2⟩ => ⟨e1, by rw [e2]; exact below_drewN (Below.refl _ _) n⟩
  generalize hkk : p.kk.getD [] = kk at *
  have hstart := Lib.hid hs
  have hb0 := Lib.hid (Below.refl w.heap.size w)
  have hN0 : Hid (Calls Tryd.prog 35 #[.pointer (some ⟨p.n, 0, none⟩), .int .i64 0] w fun e w' => e = .returned (.tuple #[.int .u8 (hdB kk : Nat), hdK kk]) ∧ Below w.heap.size w w') := by
    have := hNx.out w 0 (Below.refl _ _) (by omega) (by omega)
    rw [hx0, stepV_head] at this
    exact this
  clear hs hx0 hkk hT hQ hi
  go_enter Tryd.func15, Tryd.ntmps15
  go_wp2_with (go_at_call 35; refine hN0.out.mono ?_; rintro e w1 ⟨rfl, z1⟩; have B1 := Lib.hid z1; clear z1)
  go_loopw [3, 4, 5] (fun v3 v4 v5 wr => ∃ (d : Nat) (r : Tr) (A lr : KV), v3 = .int .i64 (d : Nat) ∧ v4 = .int .u8 (hdB lr : Nat) ∧ v5 = hdK lr ∧ max d (tdep r) = tdep ks ∧ Hid (Kids Q kk ks r A lr) ∧ Hid (Below w.heap.size w wr)) (fun _ v4 v5 _ => match v5 with | .pointer none => 0 | _ => 256 - (intOf v4).toNat)
  case atStart => exact ⟨0, ks, [], kk, rfl, rfl, rfl, by omega, hstart, B1⟩
  case round =>
    clear B1 hstart hN0 hb0
    obtain ⟨d, r, A, lr, rfl, rfl, rfl, hmx, hKd, hB⟩ := hrel
    by_cases hl : lr = []
    · subst hl
      obtain rfl := hKd.out.done
      have hd2 : d = tdep ks := by simp only [tdep] at hmx; omega
      have hw8 : IntKind.i64.wrap (((d : Nat) : Int) + 1) = ((1 + tdep ks : Nat) : Int) := by rw [show ((d : Nat) : Int) + 1 = ((1 + tdep ks : Nat) : Int) by omega]; exact IntWalk.i64_in _ (by omega)
      have hDe : ((1 + tdep ks : Nat) : Int) = ((tdep ks : Nat) : Int) + 1 := by omega
      rw [show hdK ([] : KV) = .pointer none from rfl]
      go_wp2_with fail
      go_ret
      exact ⟨by rw [hDe]; rfl, hB.out⟩
    · obtain ⟨b, t, r', x, lr', rfl, rfl, hb1, hx1, hb256, ⟨k, rfl⟩, hTV, hIN, hOk, hnext, hkn⟩ := hKd.out.next hl
      rw [hb1, hx1]
      simp only [tdep] at hmx
      have hD : Hid (∀ wr', Below wr.heap.size wr wr' → Calls Tryd.prog 15 #[.pointer (some ⟨k, 0, none⟩)] wr' (belowPost (.int .i64 (tdep t : Nat)) wr')) := fun wr' hb' => IH t (by omega) ((HQ.out.below hB.out).below hb') hTV hOk
      have hN2 : Hid (∀ wr', Below wr.heap.size wr wr' → Calls Tryd.prog 35 #[.pointer (some ⟨p.n, 0, none⟩), .int .i64 ((b + 1 : Nat) : Int)] wr' fun e w' => e = .returned (.tuple #[.int .u8 (hdB lr' : Nat), hdK lr']) ∧ Below wr'.heap.size wr' w') := fun wr' hb' => by
        have := hNx.out wr' ((b + 1 : Nat) : Int) (hB.out.trans (hb'.mono hB.out.size)) (by omega) (by omega)
        rw [show (((b + 1 : Nat) : Int)) = (b : Int) + 1 by omega, hkn, stepV_head] at this
        exact this
      have hK2 := Lib.hid hnext
      have hwb : IntKind.i64.wrap ((b : Int) + 1) = ((b + 1 : Nat) : Int) := by rw [show (b : Int) + 1 = ((b + 1 : Nat) : Int) by omega]; exact IntWalk.i64_in _ (by omega)
      have hwc : IntKind.i64.wrap (b : Int) = (b : Int) := IntWalk.i64_in _ (by omega)
      have hmaxi : max (d : Int) ((tdep t : Nat) : Int) = ((max d (tdep t) : Nat) : Int) := by omega
      have hm1 : Hid (max (max d (tdep t)) (tdep r') = tdep ks) := by show _ = _; omega
      have hms : Hid (∀ p ∈ lr', b < p.1 ∧ p.1 < 256) := fun q hq => by
        have h1 := hnext.lt (b, .pointer (some ⟨k, 0, none⟩)) (by simp) q hq
        refine ⟨h1, ?_⟩
        have := row_from (b := 0) hnext.tree hnext.isK hnext.ok
        cases hr : r' with
        | nil => have e : lr' = [] := by have := hnext.tree; rw [hr] at this; exact this
                 rw [e] at hq; simp at hq
        | node => have := hnext.isK; rw [hr] at this; exact this.elim
        | kid c t2 r2 =>
          by_cases hc : 0 < c
          · exact (this (by rw [hr]; exact hc) q hq).2
          · have ht := hnext.tree
            have ho := hnext.ok
            rw [hr] at ht ho
            obtain ⟨x2, l2, e2, _, h3⟩ := ht
            rw [e2] at hq
            rcases List.mem_cons.1 hq with rfl | hq
            · exact ho.1
            · exact (row_from h3 ho.2.2.2.1 ho.2.2.2.2.1 ho.2.2.2.2.2 q hq).2
      clear hTV hIN hOk hnext hkn hKd hl hb1 hx1 IH HQ hNx
      generalize tdep t = dt at *
      go_wp2_with (first
        | (go_at_call 35; refine (hN2.out _ B2.out).mono ?_; rintro e w3 ⟨rfl, z1⟩; have B3 := Lib.hid (B2.out.trans (z1.mono B2.out.size)); clear z1)
        | (go_at_call 15; refine (hD.out _ (Below.refl _ _)).mono ?_; rintro e w2 ⟨rfl, z1⟩; have B2 := Lib.hid z1; clear z1))
      go_roundw
      case rel => exact ⟨max d dt, r', A ++ [(b, .pointer (some ⟨k, 0, none⟩))], lr', (by first | rfl | (simp only [hmaxi])), rfl, rfl, hm1.out, hK2, hB.out.trans (B3.out.mono hB.out.size)⟩
      case measure =>
        cases lr' with
        | nil => simp [hdK, hdB, intOf]; omega
        | cons y l => have := hms.out y (by simp); simp [hdK, hdB, intOf]; split <;> omega
theorem depth_any : ∀ N, N ≤ 1000000 → DepthAsk N
  | 0, _ => fun t w0 w Q v hd hQ hT hO => by
    rcases hT with ⟨rfl, hv⟩ | ⟨hn, hT⟩
    · obtain rfl : v = none := by simpa using hv
      exact depth_nil w
    · cases t with
      | nil => exact hn.elim
      | kid => exact hn.elim
      | node => simp only [tdep] at hd; omega
  | N + 1, hN => fun t w0 w Q v hd hQ hT hO => by
    rcases hT with ⟨rfl, hv⟩ | ⟨hn, hT⟩
    · obtain rfl : v = none := by simpa using hv
      exact depth_nil w
    · cases t with
      | nil => exact hn.elim
      | kid => exact hn.elim
      | node bs val has leaf ks =>
        obtain ⟨i, p, h0, h1, h2, h3, h4, h5, h6, h7⟩ := hT
        obtain rfl : v = some ⟨p.n, 0, none⟩ := by simpa using h2
        simp only [tdep] at hd
        exact depth_node N (by omega) (depth_any N (by omega)) hQ h1 h7 hO.2.2.2.2.2.1 hO.2.2.2.2.2.2 (by omega)
end Go.Proofs.YtgijnjdcpipfiaaDoor
/- The law FindSteps. -/
namespace Go.Proofs.YtgijnjdcpipfiaaDoor
open Go.RowKit
theorem tdep_le : ∀ (t : Tr) (m : Nat), TOk t → Can t → (∀ p ∈ tl t, p.1.length ≤ m) → (IsN t → tdep t ≤ m + 1) ∧ (IsK t → tdep t ≤ m)
  | .nil, m, _, _, _ => ⟨fun h => h.elim, fun _ => Nat.zero_le _⟩
  | .kid b t r, m, ⟨h1, h2, h3, h4, h5, h6⟩, ⟨c1, c2⟩, h => ⟨fun h => h.elim, fun _ => by
    obtain ⟨x, hx⟩ := List.exists_mem_of_ne_nil _ (tl_ne t h2 h3 c1)
    have hm : ∀ p ∈ tl t, p.1.length + 1 ≤ m := fun p hp => by
      have := h (b :: p.1, p.2) (List.mem_append.2 (Or.inl (List.mem_map.2 ⟨p, hp, rfl⟩)))
      simpa using this
    have h0 := hm x hx
    have a1 := (tdep_le t (m - 1) h3 c1 fun p hp => by have := hm p hp; omega).1 h2
    have a2 := (tdep_le r m h5 c2 fun p hp => h p (List.mem_append.2 (Or.inr hp))).2 h4
    simp only [tdep]
    omega⟩
  | .node bs v has leaf ks, m, ⟨h1, h2, h3, h4, h5, h6, h7⟩, ⟨c1, c2⟩, h => ⟨fun _ => by
    have a := (tdep_le ks m h7 c1 fun p hp => by
      have := h (bs ++ p.1, p.2) (List.mem_append.2 (Or.inr (List.mem_map.2 ⟨p, hp, rfl⟩)))
      rw [List.length_append] at this
      omega).2 h6
    simp only [tdep]
    omega, fun h => h.elim⟩
theorem treeV_n {Q : List NP} {t : Tr} {v : Value} (h : TreeV Q t v) : t = .nil ∨ IsN t := by
  rcases h with ⟨h, _⟩ | ⟨h, _⟩
  · exact Or.inl h
  · exact Or.inr h
theorem nil_of_tl {t : Tr} (h : t = .nil ∨ IsN t) (h1 : TOk t) (h2 : Can t) (h3 : tl t = []) : t = .nil := by
  rcases h with h | h
  · exact h
  · exact absurd h3 (tl_ne t h h1 h2)
end Go.Proofs.YtgijnjdcpipfiaaDoor
/- The document's bytes of a tree. -/
namespace Go.Proofs.YtgijnjdcpipfiaaDoor
open Go.RowKit
theorem can_of_sh : ∀ (t t' : Tr), sh t = sh t' → TOk t → TOk t' → Can t → Can t' → t = t'
  | .nil, .nil, _, _, _, _, _ => rfl
  | .nil, .kid .., h, _, _, _, _ => by cases h
  | .nil, .node .., h, _, _, _, _ => by cases h
  | .kid .., .nil, h, _, _, _, _ => by cases h
  | .kid .., .node .., h, _, _, _, _ => by cases h
  | .node .., .nil, h, _, _, _, _ => by cases h
  | .node .., .kid .., h, _, _, _, _ => by cases h
  | .kid b t r, .kid b' t' r', h, ⟨_, _, o1, _, o2, _⟩, ⟨_, _, o1', _, o2', _⟩, ⟨c1, c2⟩, ⟨c1', c2'⟩ => by
    simp only [sh, Tr.kid.injEq] at h
    obtain ⟨e1, e2, e3⟩ := h
    rw [e1, can_of_sh t t' e2 o1 o1' c1 c1', can_of_sh r r' e3 o2 o2' c2 c2']
  | .node bs v has leaf ks, .node bs' v' has' leaf' ks', h, ⟨_, _, _, _, l1, _, o1⟩, ⟨_, _, _, _, l1', _, o1'⟩, ⟨c1, c2⟩, ⟨c1', c2'⟩ => by
    simp only [sh, Tr.node.injEq] at h
    obtain ⟨e1, e2, e3, _, e4⟩ := h
    have e5 := can_of_sh ks ks' e4 o1 o1' c1 c1'
    subst e1; subst e2; subst e3; subst e5
    have : leaf = leaf' := by
      cases leaf with
      | true =>
        cases leaf' with
        | true => rfl
        | false =>
          have := c2' rfl
          rw [(l1 rfl).2] at this
          cases has <;> simp [chain] at this
      | false =>
        cases leaf' with
        | false => rfl
        | true =>
          have := c2 rfl
          rw [(l1' rfl).2] at this
          cases has <;> simp [chain] at this
    rw [this]
/-- two canonical trees of the same pairs are the same -/
theorem can_eq {t t' : Tr} (h : IsN t) (h' : IsN t') (o : TOk t) (o' : TOk t') (c : Can t) (c' : Can t') (e : tl t = tl t') : t = t' :=
  can_of_sh t t' (sh_eq t t' (Or.inl ⟨h, h'⟩) o o' c c' e) o o' c c'
end Go.Proofs.YtgijnjdcpipfiaaDoor
/- Bytes behind bytes: append of any slice of bytes, also of none. -/
namespace Go.Proofs.YtgijnjdcpipfiaaDoor
open Go.RowKit
theorem run_append_no (w : World) (t ty : TypeId) (ht : Tryd.prog.underlying t = some (.slice u8T)) (b : Option Addr) (n cap c : Nat) (hle : n ≤ cap) : (Builtin.append_ #[t, t] ty #[.slice b n cap, .slice none 0 c]).run Tryd.prog w = .ok (.slice b n cap) w := by
  obtain ⟨i, hi, hz, hsize, hby⟩ := info_parts cloneB_info
  have hu : ∀ w, (underlying t).run Tryd.prog w = .ok (.slice u8T) w := fun w => by simp [underlying, go_sem, ht]
  have hs : ∀ w, (sizeOf u8T).run Tryd.prog w = .ok 1 w := fun w => by
    have hi' : Tryd.prog.info? u8T = some i := hi
    simp [sizeOf, typeInfo, go_sem, hi', hsize]
  cases b with
  | none =>
    simp only [Builtin.append_, Sem.run_bind, Result.andThen_ok, hu, hs, List.getElem?_toArray, List.getElem?_cons_zero, List.getElem?_cons_succ]
    simp [go_sem, hu, hs, hle, storeCells]
  | some p =>
    simp only [Builtin.append_, Sem.run_bind, Result.andThen_ok, hu, hs, List.getElem?_toArray, List.getElem?_cons_zero, List.getElem?_cons_succ]
    simp [go_sem, hu, hs, hle, storeCells]
theorem run_append_l {w : World} {v : Value} {n : Nat} {zs : List Nat} {bo : Option Nat} (h : OwnS 1 u8T w v n (bV zs) bo) {a : Option Addr} {m c : Nat} {ys : List Nat} (hS : Sl w a m c ys) (hn : n ≤ 1000000) (hm : m ≤ 1000000) (ty : TypeId) :
    ∃ v' w' bo', (Builtin.append_ #[24, 24] ty #[v, .slice a m c]).run Tryd.prog w = .ok v' w' ∧ OwnS 1 u8T w' v' (n + m) (bV zs ++ bV ys) bo' ∧ Mod (fun j => bo = some j) w w' ∧ NewOr w bo bo' := by
  have hl := hS.len
  cases a with
  | none =>
    obtain ⟨rfl, rfl⟩ := hS.nil rfl
    obtain rfl : ys = [] := List.eq_nil_of_length_eq_zero hl
    obtain ⟨b, cap, rfl, h1, _⟩ := h.len
    exact ⟨_, w, bo, run_append_no w 24 ty Tryd.underlying24 b n cap 0 h1, by simpa [bV] using h, Mod.refl _ _, Or.inl rfl⟩
  | some p =>
    obtain ⟨i, hi, hz, hsize, hby⟩ := info_parts cloneB_info
    exact run_append_s w 24 ty u8T i _ 1 1 Tryd.underlying24 hi hz hsize hby rfl (by omega) v n (bV zs) bo h p m c (bV ys) (by simp [bV, hl]) (sl_news hS (Below.refl _ w)) (bV_one ys) (by unfold maxLen; omega) (by omega)
theorem wpList_l {w : World} {ops : Array Oper} {rest : List Oper} {o : Oper} {a : Act} {Q : Exit → Act → World → Prop} (hgd : o.guard = none) (s x : Operand)
    (ho : o.op = .call { callee := .builtin .append, args := #[s, x], argTypes := #[24, 24] })
    {v : Value} {n : Nat} {zs : List Nat} {bo : Option Nat} (hs : a.eval s = v) (h : OwnS 1 u8T w v n (bV zs) bo) {a3 : Option Addr} {m c : Nat} {ys : List Nat} (hx : a.eval x = .slice a3 m c) (hS : Sl w a3 m c ys) (hn : n ≤ 1000000) (hm : m ≤ 1000000)
    (K : ∀ v' w' bo', Hid (OwnS 1 u8T w' v' (n + m) (bV zs ++ bV ys) bo') → Hid (Mod (fun j => bo = some j) w w') → Hid (NewOr w bo bo') → wpList Tryd.prog ops Q rest (a.put o.dst v') w') : wpList Tryd.prog ops Q (o :: rest) a w := by
  refine wpList_plain hgd fun K2 hK => ?_
  obtain ⟨v', w', bo', hr, h2, h3, h4⟩ := run_append_l h hS hn hm o.type
  unfold Oper.wp execOp
  simp only [ho, resolve, invoke, builtin, Sem.run_bind, Sem.run_pure, Result.andThen_ok, List.map_toArray, List.map_cons, List.map_nil, hs, hx, hr]
  exact hK _ _ (K v' w' bo' h2 h3 h4)
theorem step_l {w : World} {ops : Array Oper} {o : Oper} {a : Act} {K : Act → World → Prop} {Q : Exit → Act → World → Prop} {E : Prop} (hgd : o.guard = none) (s x : Operand)
    (ho : o.op = .call { callee := .builtin .append, args := #[s, x], argTypes := #[24, 24] })
    {v : Value} {n : Nat} {zs : List Nat} {bo : Option Nat} (hs : a.eval s = v) (h : OwnS 1 u8T w v n (bV zs) bo) {a3 : Option Addr} {m c : Nat} {ys : List Nat} (hx : a.eval x = .slice a3 m c) (hS : Sl w a3 m c ys) (hn : n ≤ 1000000) (hm : m ≤ 1000000)
    (h' : ∀ v' w' bo', Hid (OwnS 1 u8T w' v' (n + m) (bV zs ++ bV ys) bo') → Hid (Mod (fun j => bo = some j) w w') → Hid (NewOr w bo bo') → K (a.put o.dst v') w') :
    if Region.wanted o (yielded ops a.tmps) = true then Oper.wp Tryd.prog o a w K Q else E := by
  have hw : Region.wanted o (yielded ops a.tmps) = true := by simp [Region.wanted, hgd]
  rw [if_pos hw]
  obtain ⟨v', w', bo', hr, h2, h3, h4⟩ := run_append_l h hS hn hm o.type
  unfold Oper.wp execOp
  simp only [ho, resolve, invoke, builtin, Sem.run_bind, Sem.run_pure, Result.andThen_ok, List.map_toArray, List.map_cons, List.map_nil, hs, hx, hr]
  exact h' v' w' bo' h2 h3 h4
/-- bytes that are begun anew -/
theorem LayI.fresh {wb X w3 : World} {zs : List Nat} {v : Value} {M : Nat} {bo bo3 : Option Nat} (hb : Below wb.heap.size wb X) (hO : OwnS 1 u8T w3 v M (bV zs) bo3) (hM : Mod (fun j => bo = some j) X w3) (hN : NewOr X bo bo3) (hg : ∀ g, bo = some g → wb.heap.size ≤ g) : LayI none wb zs v M bo3 w3 := by
  have h1 : Below wb.heap.size wb w3 := hb.trans (mod_lo hM hg hb.size)
  refine ⟨hO, own_m hO, Mod.of_below h1, ?_⟩
  have h2 := newOr_lo hN hg hb.size
  cases bo3 with
  | none => exact Or.inl rfl
  | some g => exact Or.inr ⟨g, rfl, h2 g rfl⟩
theorem LayI.since {wb w3 : World} {zs : List Nat} {v : Value} {M : Nat} {bo3 : Option Nat} (h : LayI none wb zs v M bo3 w3) : Below wb.heap.size wb w3 ∧ ∀ g, bo3 = some g → wb.heap.size ≤ g :=
  h.lo (Below.refl _ _) (fun g e => by cases e)
theorem LayI.done0 {w wb w3 : World} {zs : List Nat} {v : Value} {M : Nat} {bo3 : Option Nat} (h : LayI none wb zs v M bo3 w3) (hb : Below w.heap.size w wb) : layPost none w zs (.returned v) w3 := by
  refine ⟨v, M, bo3, rfl, h.own, Mod.of_below (hb.trans (h.since.1.mono hb.size)), ?_⟩
  have := h.since.2
  cases bo3 with
  | none => exact Or.inl rfl
  | some g => exact Or.inr ⟨g, rfl, Nat.le_trans hb.size (this g rfl)⟩
theorem LayI.sl {wb w3 : World} {zs : List Nat} {v : Value} {M : Nat} {bo bo3 : Option Nat} (h : LayI bo wb zs v M bo3 w3) (h8 : ∀ x ∈ zs, x < 256) : ∃ a c, v = .slice a M c ∧ Sl w3 a M c zs := sl_of_own h.own h8
/-- a slice that stands below what is written stays -/
theorem Sl.modNew {w X w' : World} {a : Option Addr} {n c : Nat} {bs : List Nat} {bo : Option Nat} (h : Sl w a n c bs) (hb : Below w.heap.size w X) (hM : Mod (fun j => bo = some j) X w') (hg : ∀ g, bo = some g → w.heap.size ≤ g) : Sl w' a n c bs :=
  h.below (hb.trans (mod_lo hM hg hb.size))
end Go.Proofs.YtgijnjdcpipfiaaDoor
/- keys.Text. -/
namespace Go.Proofs.YtgijnjdcpipfiaaDoor
open Go.RowKit
abbrev hexS : ByteArray := ⟨#[48, 49, 50, 51, 52, 53, 54, 55, 56, 57, 97, 98, 99, 100, 101, 102]⟩
theorem idx16_0 (w : World) : (Instr.index 9 (.string hexS) (.int .u8 ((0 : Nat) : Int))).run Tryd.prog w = .ok (.int .u8 ((hexN 0 : Nat) : Int)) w := by kernel_rfl

theorem idx16_1 (w : World) : (Instr.index 9 (.string hexS) (.int .u8 ((1 : Nat) : Int))).run Tryd.prog w = .ok (.int .u8 ((hexN 1 : Nat) : Int)) w := by kernel_rfl

theorem idx16_2 (w : World) : (Instr.index 9 (.string hexS) (.int .u8 ((2 : Nat) : Int))).run Tryd.prog w = .ok (.int .u8 ((hexN 2 : Nat) : Int)) w := by kernel_rfl

theorem idx16_3 (w : World) : (Instr.index 9 (.string hexS) (.int .u8 ((3 : Nat) : Int))).run Tryd.prog w = .ok (.int .u8 ((hexN 3 : Nat) : Int)) w := by kernel_rfl

theorem idx16_4 (w : World) : (Instr.index 9 (.string hexS) (.int .u8 ((4 : Nat) : Int))).run Tryd.prog w = .ok (.int .u8 ((hexN 4 : Nat) : Int)) w := by kernel_rfl

theorem idx16_5 (w : World) : (Instr.index 9 (.string hexS) (.int .u8 ((5 : Nat) : Int))).run Tryd.prog w = .ok (.int .u8 ((hexN 5 : Nat) : Int)) w := by kernel_rfl

theorem idx16_6 (w : World) : (Instr.index 9 (.string hexS) (.int .u8 ((6 : Nat) : Int))).run Tryd.prog w = .ok (.int .u8 ((hexN 6 : Nat) : Int)) w := by kernel_rfl

theorem idx16_7 (w : World) : (Instr.index 9 (.string hexS) (.int .u8 ((7 : Nat) : Int))).run Tryd.prog w = .ok (.int .u8 ((hexN 7 : Nat) : Int)) w := by kernel_rfl

theorem idx16_8 (w : World) : (Instr.index 9 (.string hexS) (.int .u8 ((8 : Nat) : Int))).run Tryd.prog w = .ok (.int .u8 ((hexN 8 : Nat) : Int)) w := by kernel_rfl

theorem idx16_9 (w : World) : (Instr.index 9 (.string hexS) (.int .u8 ((9 : Nat) : Int))).run Tryd.prog w = .ok (.int .u8 ((hexN 9 : Nat) : Int)) w := by kernel_rfl

theorem idx16_10 (w : World) : (Instr.index 9 (.string hexS) (.int .u8 ((10 : Nat) : Int))).run Tryd.prog w = .ok (.int .u8 ((hexN 10 : Nat) : Int)) w := by kernel_rfl

theorem idx16_11 (w : World) : (Instr.index 9 (.string hexS) (.int .u8 ((11 : Nat) : Int))).run Tryd.prog w = .ok (.int .u8 ((hexN 11 : Nat) : Int)) w := by kernel_rfl

theorem idx16_12 (w : World) : (Instr.index 9 (.string hexS) (.int .u8 ((12 : Nat) : Int))).run Tryd.prog w = .ok (.int .u8 ((hexN 12 : Nat) : Int)) w := by kernel_rfl

theorem idx16_13 (w : World) : (Instr.index 9 (.string hexS) (.int .u8 ((13 : Nat) : Int))).run Tryd.prog w = .ok (.int .u8 ((hexN 13 : Nat) : Int)) w := by kernel_rfl

theorem idx16_14 (w : World) : (Instr.index 9 (.string hexS) (.int .u8 ((14 : Nat) : Int))).run Tryd.prog w = .ok (.int .u8 ((hexN 14 : Nat) : Int)) w := by kernel_rfl

theorem idx16_15 (w : World) : (Instr.index 9 (.string hexS) (.int .u8 ((15 : Nat) : Int))).run Tryd.prog w = .ok (.int .u8 ((hexN 15 : Nat) : Int)) w := by kernel_rfl
theorem idx16 (d : Nat) (h : d < 16) (w : World) : (Instr.index 9 (.string hexS) (.int .u8 (d : Nat))).run Tryd.prog w = .ok (.int .u8 (hexN d : Nat)) w := by
  have : d = 0 ∨ d = 1 ∨ d = 2 ∨ d = 3 ∨ d = 4 ∨ d = 5 ∨ d = 6 ∨ d = 7 ∨ d = 8 ∨ d = 9 ∨ d = 10 ∨ d = 11 ∨ d = 12 ∨ d = 13 ∨ d = 14 ∨ d = 15 := by omega
  rcases this with h | h | h | h | h | h | h | h | h | h | h | h | h | h | h | h <;> subst h
  · exact idx16_0 w
  · exact idx16_1 w
  · exact idx16_2 w
  · exact idx16_3 w
  · exact idx16_4 w
  · exact idx16_5 w
  · exact idx16_6 w
  · exact idx16_7 w
  · exact idx16_8 w
  · exact idx16_9 w
  · exact idx16_10 w
  · exact idx16_11 w
  · exact idx16_12 w
  · exact idx16_13 w
  · exact idx16_14 w
  · exact idx16_15 w
theorem and15_fin : ∀ x : Fin 256, bits .and .u8 ((x.val : Nat) : Int) 15 = ((x.val % 16 : Nat) : Int) := by decide +kernel
theorem and15 {x : Nat} (h : x < 256) : bits .and .u8 (x : Int) 15 = ((x % 16 : Nat) : Int) := and15_fin ⟨x, h⟩
/-- bytes that stand in a row of one's own, as a text -/
theorem own_text {w : World} {a : Option Addr} {n c : Nat} {zs : List Nat} {bo : Option Nat} (h : OwnS 1 u8T w (.slice a n c) n (bV zs) bo) (ha : ∃ p, a = some p) (hl : zs.length = n) (h8 : ∀ x ∈ zs, x < 256) : (convert 24 9 (.slice a n c)).run Tryd.prog w = .ok (.string ⟨(u8s zs).toArray⟩) w := by
  obtain ⟨p, rfl⟩ := ha
  have hl2 : (u8s zs).length = n := by simp [u8s, hl]
  have := run_convert_bytes_back (P := Tryd.prog) w 24 9 5 p c (u8s zs) (by kernel_rfl) (by kernel_rfl) (by kernel_rfl) fun j hj => by
    have hj2 : j < zs.length := by rw [hl, ← hl2]; exact hj
    obtain ⟨g, cap, e1, e2, e3, _⟩ := h.at_ (j := j) (by omega)
    have e4 : p = ⟨g, 0, none⟩ := by have := (Value.slice.inj e2).1; simpa using this
    subst e4
    rw [add0, e3, bV_get]
    have h1 := h8 _ (List.getElem_mem hj2)
    simp only [u8s, List.getElem_map]
    simp [List.getD, hj2]
    omega
  rw [hl2] at this
  exact this
set_option maxHeartbeats 4000000 in
set_option maxRecDepth 100000 in
theorem keys_text {w : World} {a : Option Addr} {n c : Nat} {bs : List Nat} (h : Sl w a n c bs) (hn : n ≤ 400000) : Calls Tryd.prog 48 #[.slice a n c] w (belowPost (.string ⟨(u8s (hexL bs)).toArray⟩) w) := by
  have hl := h.len
  have h8 := h.at_.1
  have H := Lib.hid h
  obtain ⟨m, hm⟩ : ∃ m, m = 2 * n := ⟨_, rfl⟩
  have wm : IntKind.i64.wrap (2 * (n : Int)) = (m : Int) := by rw [show 2 * (n : Int) = ((m : Nat) : Int) by omega]; exact IntWalk.i64_in _ (by omega)
  have hmk : ∀ w, (Instr.makeSlice 24 (.int .i64 0) (.int .i64 (m : Nat))).run Tryd.prog w = .ok (.slice (some ⟨w.heap.size, 0, none⟩) 0 m) (w.alloc (.cells (List.replicate m (.int .u8 0)).toArray 5)) := fun w => by
    obtain ⟨i, h1, h2, h3, h4⟩ := u8_info
    have := run_make (P := Tryd.prog) w _ _ i _ cloneB_under h1 h2 .i64 .i64 0 (m : Nat) (by omega) (by omega) (by rw [h4]; omega) (by omega)
    rw [this, h3]
    simp only [Int.toNat_natCast, Int.toNat_zero]
    rw [made_cells m _ rfl]
  have h0 : Hid (LayI none w [] (.slice (some ⟨w.heap.size, 0, none⟩) 0 m) 0 (some w.heap.size) (w.alloc (.cells (List.replicate m (.int .u8 0)).toArray 5))) :=
    ⟨Or.inr ⟨w.heap.size, m, (List.replicate m (.int .u8 0)).toArray, rfl, rfl, heap_alloc_new _ _, Nat.zero_le _, by unfold maxLen; omega, by simp, by simp [bV], rfl⟩, rfl, Mod.of_below ((Below.refl _ w).alloc (Nat.le_refl _) _), Or.inr ⟨w.heap.size, rfl, Nat.le_refl _⟩⟩
  have hn2 : Hid (n ≤ 400000) := hn
  have HL := Lib.hid hl
  have H8 := Lib.hid h8
  clear h hl h8 hn hm
  go_enter Tryd.func48, Tryd.ntmps48
  go_wp2_with fail
  simp only [List.toArray_replicate] at h0
  go_loopw [3, 12] (fun v3 v12 wr => ∃ (i M : Nat) (p : Addr) (cc : Nat) (bo : Option Nat), v3 = .slice (some p) M cc ∧ v12 = .int .i64 (i : Nat) ∧ i ≤ n ∧ Hid (M = 2 * i) ∧ Hid (LayI none w (hexL (bs.take i)) v3 M bo wr)) (fun _ v12 _ => (n - intOf v12).toNat)
  case atStart => exact ⟨0, 0, _, _, _, rfl, rfl, Nat.zero_le _, rfl, h0⟩
  case round =>
    clear h0
    obtain ⟨i, M, p, cc, bo, rfl, rfl, hi, hMi, hI⟩ := hrel
    by_cases hlt : i < n
    · have l1 : (i : Int) < (n : Int) := by omega
      have l0 : (0 : Int) ≤ (i : Int) := by omega
      have hiL : i < bs.length := by rw [HL.out]; exact hlt
      obtain ⟨pa, rfl, r1, r2⟩ := (H.out.below hI.out.since.1).at_.2 i hiL
      obtain ⟨x, hx⟩ : ∃ x, x = bs.getD i 0 := ⟨_, rfl⟩
      have hx8 : x < 256 := by
        rw [hx, List.getD_eq_getElem?_getD, List.getElem?_eq_getElem hiL]
        exact H8.out _ (List.getElem_mem _)
      rw [← hx] at r2
      have hzs : Hid (hexL (bs.take i) ++ [hexN (x / 16), hexN (x % 16)] = hexL (bs.take (i + 1))) := by
        show _ = _
        rw [List.take_succ_eq_append_getElem hiL, hexL_snoc, hx, List.getD_eq_getElem?_getD, List.getElem?_eq_getElem hiL]
        rfl
      obtain ⟨y1, ey1⟩ : ∃ y, y = x / 16 := ⟨_, rfl⟩
      obtain ⟨y2, ey2⟩ : ∃ y, y = x % 16 := ⟨_, rfl⟩
      have hdiv : (x : Int) / 16 = (y1 : Nat) := by rw [ey1]; omega
      have hand : bits .and .u8 (x : Int) 15 = (y2 : Nat) := by rw [ey2]; exact and15 hx8
      have i1 := idx16 y1 (by omega)
      have i2 := idx16 y2 (by omega)
      rw [← ey1, ← ey2] at hzs
      have hk1 : hexN y1 < 256 := hexN_lt (by omega)
      have hk2 : hexN y2 < 256 := hexN_lt (by omega)
      generalize hexN y1 = k1 at *
      generalize hexN y2 = k2 at *
      have hl0 : (0 : Int) ≤ (y1 : Int) := by omega
      have hl00 : (0 : Int) ≤ (y2 : Int) := by omega
      have hM : Hid (M ≤ 1000000) := by have := hMi.out; have := hn2.out; show _ ≤ _; omega
      have h2m : Hid (2 ≤ 1000000) := by show _ ≤ _; omega
      have hw9 : IntKind.i64.wrap (((i : Nat) : Int) + 1) = ((i + 1 : Nat) : Int) := by rw [show ((i : Nat) : Int) + 1 = ((i + 1 : Nat) : Int) by omega]; exact IntWalk.i64_in _ (by have := hn2.out; omega)
      have hAl : Hid (Below wr.heap.size wr (wr.drew.alloc (.cells #[.int .u8 (k1 : Nat), .int .u8 (k2 : Nat)] 5))) := (Below.refl _ wr).drew.alloc (Nat.le_refl _) _
      have hob := Lib.hid (hI.out.own.below hAl.out)
      have hTwo : Hid (Sl (wr.drew.alloc (.cells #[.int .u8 (k1 : Nat), .int .u8 (k2 : Nat)] 5)) (some ⟨wr.heap.size, 0, none⟩) 2 2 [k1, k2]) := sl_two wr.drew k1 k2 5 hk1 hk2
      clear hx hx8 ey1 ey2 r1 hiL hk1 hk2
      go_upto_region 5 with fail
      have hMi2 : Hid (M + 2 = 2 * (i + 1)) := by have := hMi.out; show _ = _; omega
      go_region_law (first
        | (refine step_l (v := .slice (some p) M cc) (a3 := some ⟨wr.heap.size, 0, none⟩) (m := 2) (c := 2) (by rfl) (.tmp 16) (.tmp 23) (by rfl) (by rfl) hob.out (by rfl) hTwo.out hM.out h2m.out ?_; intro v7 w7 bo7 HO HM HN
           have i7 := hI.out.app hAl.out HO.out HM.out HN.out
           obtain ⟨a7, c7, hv7, _, _, hn7⟩ := i7.own.len
           obtain ⟨p7, hp7⟩ : ∃ p7, a7 = some p7 := (by
             cases a7 with
             | none => exact absurd (hn7 rfl).1 (by omega)
             | some p7 => exact ⟨p7, rfl⟩)
           subst hp7
           subst hv7
           rw [hzs.out] at i7
           have I7 := Lib.hid i7
           clear HO HM HN i7 hn7))
      all_goals
        (try simp only [Exit.then, Exit.inBlock])
        go_wp2_with fail
        go_roundw
        case rel => exact ⟨i + 1, M + 2, _, _, _, rfl, (by first | rfl | go_num), by omega, hMi2, I7⟩
        case measure => (simp [intOf]) <;> omega
    · have l1 : ¬ (i : Int) < (n : Int) := by omega
      obtain rfl : i = n := by omega
      have hT : hexL (bs.take i) = hexL bs := by rw [List.take_of_length_le (by rw [HL.out]; exact Nat.le_refl _)]
      have hcv : (convert 24 9 (.slice (some p) M cc)).run Tryd.prog wr = .ok (.string ⟨(u8s (hexL bs)).toArray⟩) wr := by
        have := own_text hI.out.own ⟨p, rfl⟩ hI.out.len.symm (by rw [hT]; exact hexL_lt H8.out)
        rw [hT] at this; exact this
      have hB := Lib.hid hI.out.since.1
      clear hT
      go_wp2_with fail
      go_ret
      exact ⟨rfl, hB.out⟩
end Go.Proofs.YtgijnjdcpipfiaaDoor
/- strconv.FormatUint at base 10, strconv.Itoa, over a table that is laid. -/
namespace Go.Proofs.YtgijnjdcpipfiaaDoor
open Go.RowKit Go.Sort
/-- strconv's table of powers of ten stands in this world -/
def PTab (w : World) : Prop := Lib.TabIs Tryd.prog w "internal/strconv.uint64pow10" .u64 Lib.pow10Tab
theorem PTab.below {w w' : World} (h : PTab w) (hb : Below w.heap.size w w') : PTab w' := by
  unfold PTab Lib.TabIs World.var? at *
  cases hg : Tryd.prog.globalNamed "internal/strconv.uint64pow10" with
  | none => simp [hg] at h
  | some g =>
    simp only [hg, Option.bind_some] at h ⊢
    have hlt : g < w.heap.size := by
      rcases Nat.lt_or_ge g w.heap.size with h' | h'
      · exact h'
      · rw [Array.getElem?_eq_none h'] at h; simp at h
    rw [hb.block g hlt]
    exact h
theorem zeros_at0 (w : World) (T : TypeId) (nd : Nat) (hs : nd ≤ 24) : Holds (fun (b : UInt8) => Value.int .u8 (b.toNat : Int)) (w.alloc (.cells Lib.zeros24 T)) w.heap.size 0 (Array.replicate nd (0 : UInt8)) := fun j hj => by
  have hj' : j < nd := by simpa using hj
  refine ⟨?_, World.frozen?_alloc_new _ _ _ _⟩
  rw [World.cell?_alloc_new, Nat.zero_add, Lib.zeros24_at _ (by omega), getElem!_pos _ j hj]
  simp
theorem fin0 (w : World) (o : Obj) (dk : Array UInt8) (k : Nat) : ∃ os, (putRow (fun (b : UInt8) => Value.int .u8 (b.toNat : Int)) (w.alloc o) w.heap.size 0 dk).drewN k = grow (w.drewN k) os := by
  rw [alloc_eq_grow]
  obtain ⟨os', _, e⟩ := putRow_grow_new (fun (b : UInt8) => Value.int .u8 (b.toNat : Int)) w #[o] w.heap.size 0 dk (Nat.le_refl _)
  exact ⟨os', by rw [e]; rfl⟩
set_option maxHeartbeats 4000000 in
set_option maxRecDepth 100000 in
theorem iformat_uint (u : Nat) (hu : u < 18446744073709551616) (w : World) (htab : PTab w) : Calls Tryd.prog 65 #[.int .u64 (u : Nat), .int .i64 10] w (belowPost (.string ⟨(decU u).toArray⟩) w) := by
  by_cases hs : u < 100
  · have j1 : (u : Int) < 100 := by omega
    have hwr : IntKind.i64.wrap (u : Int) = (u : Int) := IntWalk.i64_in _ (by omega)
    have hB : Hid (Below w.heap.size w w) := Below.refl _ _
    have hSm := Lib.hid (Tryd.internal_strconv_small u hs w)
    clear hs hu
    go_enter Tryd.func65, Tryd.ntmps65
    go_wp2_with (go_at_call 80; refine hSm.out.mono ?_; rintro e w' ⟨rfl, rfl⟩)
    go_ret
    exact ⟨rfl, hB.out⟩
  · have j1 : ¬ (u : Int) < 100 := by omega
    have hu1 : 1 ≤ u := by omega
    have hnd20 : Lib.nDigits u ≤ 20 := by have := Lib.numDigits_eq u hu1 hu; split at this <;> omega
    have hal : Tryd.prog.arrayLen 130 = 24 := by kernel_rfl
    have hH0 := zeros_at0 w 130 (Lib.nDigits u) (by omega)
    have hfmt := Tryd.internal_strconv_formatBase10 w.heap.size 0 24 u (Array.replicate (Lib.nDigits u) 0) (w.alloc (.cells Lib.zeros24 130)) hH0 (by rw [Array.size_replicate]; exact Lib.lt_pow_nDigits u) hu (by rw [Array.size_replicate]; omega)
    rw [Array.size_replicate] at hfmt
    have hndc := Lib.hid (Tryd.internal_strconv_numDigits u hu1 hu (w.alloc (.cells Lib.zeros24 130)) (Lib.tabIs_alloc htab _))
    have HH0 := Lib.hid hH0
    have Hf := Lib.hid hfmt
    obtain ⟨nd, hnd⟩ : ∃ nd, nd = Lib.nDigits u := ⟨_, rfl⟩
    have hsl2 : ∀ W, (Instr.sliceAt 130 (.pointer (some ⟨w.heap.size, 0, none⟩)) none (some (.int .i64 (nd : Nat))) none).run Tryd.prog W = .ok (.slice (some ⟨w.heap.size, 0, none⟩) nd 24) W := fun W => by
      rw [run_sliceAt_array_h W 130 ⟨w.heap.size, 0, none⟩ (by kernel_rfl) .i64 (nd : Nat) (by omega) (by rw [hal]; omega)]
      rw [hal, show Tryd.prog.elem 130 = 5 by kernel_rfl]
      have hz := Tryd.sizeOf5 W
      rw [hz]
      simp [slicedAt, add0]
      (try rfl)
    have hdl : Hid ((decU u).length = nd) := by show _ = _; unfold decU; rw [Lib.decDigits_length, hnd]
    rw [← hnd] at hndc Hf HH0
    have Hnd := Lib.hid (fun (_ : Unit) => hnd)
    clear hH0 hal hfmt htab hs hu hu1 hnd20 hnd
    go_enter Tryd.func65, Tryd.ntmps65
    go_wp2_with (first
      | (go_at_call 82; refine Hf.out.mono ?_; rintro e w' ⟨rfl, k, v', dk, rfl, hF⟩
         have hcv : (convert 24 9 (.slice (some ⟨w.heap.size, 0, none⟩) nd 24)).run Tryd.prog ((putRow (fun (b : UInt8) => Value.int .u8 (b.toNat : Int)) (w.alloc (.cells Lib.zeros24 130)) w.heap.size 0 dk).drewN k) = .ok (.string ⟨(decU u).toArray⟩) ((putRow (fun (b : UInt8) => Value.int .u8 (b.toNat : Int)) (w.alloc (.cells Lib.zeros24 130)) w.heap.size 0 dk).drewN k) := (by
           have h := run_convert_bytes_back (P := Tryd.prog) ((putRow (fun (b : UInt8) => Value.int .u8 (b.toNat : Int)) (w.alloc (.cells Lib.zeros24 130)) w.heap.size 0 dk).drewN k) 24 9 5 ⟨w.heap.size, 0, none⟩ 24 (decU u) (by kernel_rfl) (by kernel_rfl) (by kernel_rfl) (fun j hj => by
             rw [Hnd.out ()] at hF
             have hjn : j < Lib.nDigits u := by rw [← Hnd.out (), ← hdl.out]; exact hj
             rw [show (decU u)[j] = dk[j]! from Lib.row_is_numeral hF j hj, Lib.add_plain, World.cell?_drewN]
             have hz := HH0.out
             rw [Hnd.out ()] at hz
             exact cell?_putRow (fun (b : UInt8) => Value.int .u8 (b.toNat : Int)) _ w.heap.size 0 _ dk hz (by rw [hF.size, Array.size_replicate]) j (by rw [hF.size]; exact hjn))
           rw [hdl.out] at h
           exact h)
         clear hF)
      | (go_at_call 81; refine hndc.out.mono ?_; rintro e w' ⟨rfl, rfl⟩))
    go_ret
    obtain ⟨os, eo⟩ := fin0 w (.cells Lib.zeros24 130) dk k
    exact ⟨rfl, by rw [eo]; exact Lib.below_grow _ w (Nat.le_refl _) k os⟩
theorem format_uint (u : Nat) (hu : u < 18446744073709551616) (w : World) (htab : PTab w) : Calls Tryd.prog 49 #[.int .u64 (u : Nat), .int .i64 10] w (belowPost (.string ⟨(decU u).toArray⟩) w) := by
  have H := Lib.hid (iformat_uint u hu w htab)
  clear htab hu
  go_enter Tryd.func49, Tryd.ntmps49
  go_wp2_with (go_at_call 65; refine H.out.mono ?_; rintro e w' ⟨rfl, z⟩; have B := Lib.hid z)
  go_ret
  exact ⟨rfl, B.out⟩
theorem itoa_nat (n : Nat) (hn : n ≤ 9223372036854775807) (w : World) (htab : PTab w) : Calls Tryd.prog 47 #[.int .i64 (n : Nat)] w (belowPost (.string ⟨(decU n).toArray⟩) w) :=
  (Tryd.strconv_Itoa (n : Nat) (by omega) (by omega) w htab).mono fun e w' ⟨q, k, os, e2⟩ => ⟨by rw [q, Lib.itoa_nonneg]; rfl, by rw [e2]; exact Lib.below_grow _ w (Nat.le_refl _) k os⟩
end Go.Proofs.YtgijnjdcpipfiaaDoor
/- strings.Builder's WriteString and String over this program (the library's contracts, laid by hand where the tool had none). -/
namespace Go.Proofs
open Go.Shelf
def Tryd.lays166_ren : Go.Shelf.Ren := ⟨fun | 166 => 46 | 240 => 63 | 276 => 78 | n => n, fun | 0 => 0 | 3 => 3 | 4 => 4 | 5 => 5 | 9 => 9 | 20 => 20 | 37 => 24 | 70 => 62 | 72 => 64 | 75 => 82 | 80 => 66 | 164 => 127 | n => n, fun | n => n⟩
theorem Tryd.lays166 : Go.Proofs.Lays.n166 Tryd.prog Tryd.lays166_ren := {
  mixed := by kernel_rfl
  f166 := Tryd.func46.trans (congrArg some (by kernel_rfl))
  f240 := Tryd.func63.trans (congrArg some (by kernel_rfl))
  f276 := Tryd.func78.trans (congrArg some (by kernel_rfl))
  t0 := Tryd.underlying0
  a0 := Tryd.isAgg0
  z0 := Tryd.sizeOf0
  v0 := Tryd.zeroValue0
  t3 := Tryd.underlying3
  a3 := Tryd.isAgg3
  z3 := Tryd.sizeOf3
  v3 := Tryd.zeroValue3
  t4 := Tryd.underlying4
  a4 := Tryd.isAgg4
  z4 := Tryd.sizeOf4
  v4 := Tryd.zeroValue4
  t9 := Tryd.underlying9
  a9 := Tryd.isAgg9
  z9 := Tryd.sizeOf9
  v9 := Tryd.zeroValue9
  t20 := Tryd.underlying20
  a20 := Tryd.isAgg20
  z20 := Tryd.sizeOf20
  v20 := Tryd.zeroValue20
  t37 := Tryd.underlying24
  a37 := Tryd.isAgg24
  z37 := Tryd.sizeOf24
  v37 := Tryd.zeroValue24
  t70 := Tryd.underlying62
  a70 := Tryd.isAgg62
  z70 := Tryd.sizeOf62
  v70 := Tryd.zeroValue62
  t72 := Tryd.underlying64
  a72 := Tryd.isAgg64
  z72 := Tryd.sizeOf64
  v72 := Tryd.zeroValue64
  t75 := Tryd.underlying82
  a75 := Tryd.isAgg82
  z75 := Tryd.sizeOf82
  v75 := Tryd.zeroValue82
  t164 := Tryd.underlying127
  a164 := Tryd.isAgg127
  z164 := Tryd.sizeOf127
  v164 := Tryd.zeroValue127
}
theorem Tryd.Builder_Extra_166 : Builder.Extra Tryd.prog Tryd.lays166_ren := {
  sizeBuilder := by kernel_rfl
  liesBuilder := by kernel_rfl
  t5 := Tryd.underlying5
  a5 := Tryd.isAgg5
  z5 := Tryd.sizeOf5
  v5 := Tryd.zeroValue5
  infoByte := by kernel_rfl
  cellsByte := by kernel_rfl
  sizeByte := by kernel_rfl
  neB5 := by decide }
end Go.Proofs
namespace Go.Proofs.YtgijnjdcpipfiaaDoor
open Go.RowKit
abbrev sbT : TypeId := 64
/-- a builder that holds bytes, at block b, of those from B on -/
def SB (B b : Nat) (l : List UInt8) (w : World) : Prop := Lib.IsBuilderF sbT u8T B b (Lib.byteCells l) w
theorem SB.below {B b : Nat} {l : List UInt8} {w w' : World} (h : SB B b l w) (hb : Below w.heap.size w w') : SB B b l w' := by
  have key : ∀ {p : Value}, Lib.BuilderAtF sbT u8T B b p (Lib.byteCells l) w → Lib.BuilderAtF sbT u8T B b p (Lib.byteCells l) w' := fun {p} ⟨hB, v, hbk, ⟨hn, hown⟩, hne⟩ => by
    have hlt := (Array.getElem?_eq_some_iff.1 hbk).1
    refine ⟨hB, v, (hb.block b hlt).trans hbk, ⟨hn, ?_⟩, hne⟩
    rcases hown with h | ⟨g, cap, cur, fz, h1, h2, h3, h4⟩
    · exact Or.inl h
    · exact Or.inr ⟨g, cap, cur, fz, h1, h2, (hb.block g (Array.getElem?_eq_some_iff.1 h3).1).trans h3, h4⟩
  rcases h with h | h
  · exact Or.inl (key h)
  · exact Or.inr (key h)
theorem SB.new (w : World) : SB w.heap.size w.heap.size [] (w.alloc (.cells #[.pointer none, .slice none 0 0] sbT)) := Lib.IsBuilderF.of (Lib.fresh_isBuilder sbT u8T w)
theorem strCells_u8 (s : List UInt8) : Lib.strCells ⟨s.toArray⟩ = Lib.byteCells s := by
  simp [Lib.strCells, Lib.byteCells]
theorem byteCells_app (a b : List UInt8) : Lib.byteCells (a ++ b) = Lib.byteCells a ++ Lib.byteCells b := by simp [Lib.byteCells]
def sbPost (B b : Nat) (l : List UInt8) (w : World) (e : Ending) (w' : World) : Prop := (∃ v, e = .returned v) ∧ SB B b l w' ∧ Below B w w'
theorem sb_write {B b : Nat} {l : List UInt8} {w : World} (h : SB B b l w) (s : List UInt8) (hl : l.length + s.length ≤ 100000000) (hB : B ≤ w.heap.size) : Calls Tryd.prog 46 #[.pointer (some ⟨b, 0, none⟩), .string ⟨s.toArray⟩] w fun e w' => (∃ x, e = .returned (.tuple #[.int .i64 x, .nilIface])) ∧ SB B b (l ++ s) w' ∧ Below B w w' := by
  have hsz : (⟨s.toArray⟩ : ByteArray).size = s.length := by simp [ByteArray.size]
  have hk := Any.Builder_WriteString_k Tryd.lays166 Tryd.Builder_Extra_166 B b (Lib.byteCells l) ⟨s.toArray⟩ w h (by rw [hsz]; simp [Lib.byteCells]; omega) hB
  refine Calls.mono (show Calls Tryd.prog 46 _ w _ from hk) fun e w' ⟨q1, q2, q3, _⟩ => ⟨⟨_, q1⟩, ?_, q3⟩
  rw [strCells_u8, ← byteCells_app] at q2
  exact Or.inr q2
theorem sb_string {B b : Nat} {l : List UInt8} {w : World} (h : SB B b l w) (hB : B ≤ w.heap.size) : Calls Tryd.prog 29 #[.pointer (some ⟨b, 0, none⟩)] w fun e w' => e = .returned (.string ⟨l.toArray⟩) ∧ Below B w w' :=
  (Tryd.Builder_String_any_k B b l w h hB).mono fun e w' ⟨q1, _, q3, _⟩ => ⟨q1, q3⟩
end Go.Proofs.YtgijnjdcpipfiaaDoor
