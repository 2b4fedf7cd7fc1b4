/- Plain trees: pairs that rise, trees of parts; what is looked for in a tree is what its pairs have. No program; Slices of pairs that came in, or were made; whether they are too many or too long; keys.Common, Cmp, Sorted, May, canon's check; bytes.Compare, bytes.HasPrefix; keys.Sorted, canon's check: pairs that rise, none too long; Cuts of slices, under one name: bytes and pairs; Trees in memory: among nodes that stand side by side; canon's maker.tree: the canonical tree of pairs that rise. -/
import Derived.Test.YtkonbldjmcccmaaKSame
import Derived.Test.YtkonbldjmcccmaaNFrz
import Derived.Lib.BytesEntry
import Derived.Shelf.Bytes.SlSmallAll
import Derived.Ground.NamesProg
import Derived.StillTailTactics
import Derived.Deep.RegionHeld3
set_option linter.unusedVariables false
set_option linter.unusedSimpArgs false
/- Plain trees: pairs that rise, trees of parts; what is looked for in a tree is what its pairs have. No program. -/
namespace Go.Proofs.Ytkonbldjmcccmaa
/-! The order of bytes. -/
theorem bcmp_nn : bcmp [] [] = 0 := rfl
theorem bcmp_nc (y : Nat) (ys : List Nat) : bcmp [] (y :: ys) = -1 := by simp [bcmp, lcp]
theorem bcmp_cn (x : Nat) (xs : List Nat) : bcmp (x :: xs) [] = 1 := by simp [bcmp, lcp]
theorem bcmp_same (x : Nat) (xs ys : List Nat) : bcmp (x :: xs) (x :: ys) = bcmp xs ys := by
  simp [bcmp, lcp]
theorem bcmp_lt {x y : Nat} (h : x < y) (xs ys : List Nat) : bcmp (x :: xs) (y :: ys) = -1 := by
  have : x ≠ y := by omega
  simp [bcmp, lcp, this, h]
theorem bcmp_gt {x y : Nat} (h : y < x) (xs ys : List Nat) : bcmp (x :: xs) (y :: ys) = 1 := by
  have h1 : x ≠ y := by omega
  have h2 : ¬ x < y := by omega
  simp [bcmp, lcp, h1, h2]
theorem bcmp_pre (p xs ys : List Nat) : bcmp (p ++ xs) (p ++ ys) = bcmp xs ys := by
  induction p with
  | nil => rfl
  | cons x p ih => simp only [List.cons_append, bcmp_same, ih]
/-- stands ahead -/
def slt (s t : List Nat) : Prop := bcmp s t = -1
theorem slt_nc (y : Nat) (ys : List Nat) : slt [] (y :: ys) := bcmp_nc y ys
theorem not_slt_nil (s : List Nat) : ¬ slt s [] := by
  cases s with
  | nil => simp [slt, bcmp_nn]
  | cons x s => simp [slt, bcmp_cn]
theorem slt_cons (x : Nat) (s t : List Nat) : slt (x :: s) (x :: t) ↔ slt s t := by simp [slt, bcmp_same]
theorem slt_pre (p s t : List Nat) : slt (p ++ s) (p ++ t) ↔ slt s t := by simp [slt, bcmp_pre]
theorem slt_lt {x y : Nat} (h : x < y) (s t : List Nat) : slt (x :: s) (y :: t) := bcmp_lt h s t
theorem slt_cc {x y : Nat} {s t : List Nat} : slt (x :: s) (y :: t) ↔ x < y ∨ x = y ∧ slt s t := by
  rcases Nat.lt_trichotomy x y with h | h | h
  · simp [slt_lt h, h]
  · subst h; simp [slt_cons]
  · have h1 : ¬ x < y := by omega
    have h2 : x ≠ y := by omega
    simp [slt, bcmp_gt h, h1, h2]
theorem slt_irrefl (s : List Nat) : ¬ slt s s := by
  have := (bcmp_zero s s).2 rfl
  simp [slt, this]
theorem slt_trans : ∀ {s t u : List Nat}, slt s t → slt t u → slt s u
  | [], _, [], _, h => absurd h (not_slt_nil _)
  | [], _, _ :: _, _, _ => slt_nc _ _
  | _ :: _, [], _, h, _ => absurd h (not_slt_nil _)
  | _ :: _, _ :: _, [], _, h => absurd h (not_slt_nil _)
  | x :: s, y :: t, z :: u, h1, h2 => by
    rw [slt_cc] at h1 h2 ⊢
    rcases h1 with h1 | ⟨rfl, h1⟩
    · rcases h2 with h2 | ⟨rfl, h2⟩
      · exact Or.inl (by omega)
      · exact Or.inl h1
    · rcases h2 with h2 | ⟨rfl, h2⟩
      · exact Or.inl h2
      · exact Or.inr ⟨rfl, slt_trans h1 h2⟩
theorem slt_tri : ∀ (s t : List Nat), slt s t ∨ s = t ∨ slt t s
  | [], [] => Or.inr (Or.inl rfl)
  | [], _ :: _ => Or.inl (slt_nc _ _)
  | _ :: _, [] => Or.inr (Or.inr (slt_nc _ _))
  | x :: s, y :: t => by
    simp only [slt_cc, List.cons.injEq]
    rcases Nat.lt_trichotomy x y with h | rfl | h
    · exact Or.inl (Or.inl h)
    · rcases slt_tri s t with h | rfl | h
      · exact Or.inl (Or.inr ⟨rfl, h⟩)
      · exact Or.inr (Or.inl ⟨rfl, rfl⟩)
      · exact Or.inr (Or.inr (Or.inr ⟨rfl, h⟩))
    · exact Or.inr (Or.inr (Or.inl h))
theorem bcmp_three (s t : List Nat) : (slt s t ∧ bcmp s t = -1) ∨ (s = t ∧ bcmp s t = 0) ∨ (slt t s ∧ bcmp s t = 1) := by
  have key : ∀ s t : List Nat, slt t s → bcmp s t = 1 := by
    intro s t h
    induction s generalizing t with
    | nil => exact absurd h (not_slt_nil _)
    | cons x s ih =>
      cases t with
      | nil => exact bcmp_cn _ _
      | cons y t =>
        rcases slt_cc.1 h with h2 | ⟨e, h2⟩
        · exact bcmp_gt h2 _ _
        · subst e; rw [bcmp_same]; exact ih t h2
  rcases slt_tri s t with h | h | h
  · exact Or.inl ⟨h, h⟩
  · exact Or.inr (Or.inl ⟨h, (bcmp_zero _ _).2 h⟩)
  · exact Or.inr (Or.inr ⟨h, key s t h⟩)
theorem lcp_pre (p s t : List Nat) : lcp (p ++ s) (p ++ t) = p.length + lcp s t := by
  induction p with
  | nil => simp
  | cons x p ih => simp [lcp, ih]; omega
theorem lcp_isPrefix (k p : List Nat) : (lcp k p = p.length) ↔ p <+: k := by
  induction p generalizing k with
  | nil => cases k <;> simp [lcp]
  | cons x p ih =>
    cases k with
    | nil => simp [lcp]
    | cons y k =>
      unfold lcp
      by_cases e : y = x
      · subst e; simp [ih, List.cons_prefix_cons]
      · have e' : ¬ x = y := fun h => e h.symm
        simp [e, e', List.cons_prefix_cons]
/-- both begin with the first lcp bytes -/
theorem lcp_take (s t : List Nat) : s.take (lcp s t) = t.take (lcp s t) := by
  induction s generalizing t with
  | nil => simp [lcp]
  | cons x s ih =>
    cases t with
    | nil => simp [lcp]
    | cons y t =>
      unfold lcp
      split
      · rename_i h; subst h; simp [ih]
      · simp
/-! Pairs. -/
abbrev PL := List (List Nat × Int)
def PSrt (l : PL) : Prop := (l.map (·.1)).Pairwise slt
def plook (l : PL) (k : List Nat) : Option Int := (l.find? (fun p => p.1 == k)).map (·.2)
/-- bytes put ahead of every key -/
def pre (p : List Nat) (l : PL) : PL := l.map fun x => (p ++ x.1, x.2)
@[simp] theorem pre_nil (p : List Nat) : pre p [] = [] := rfl
theorem pre_append (p : List Nat) (l m : PL) : pre p (l ++ m) = pre p l ++ pre p m := by simp [pre]
theorem pre_pre (p q : List Nat) (l : PL) : pre p (pre q l) = pre (p ++ q) l := by simp [pre, Function.comp_def]
@[simp] theorem pre_none (l : PL) : pre [] l = l := by simp [pre]
@[simp] theorem pre_length (p : List Nat) (l : PL) : (pre p l).length = l.length := by simp [pre]
theorem plook_append (l m : PL) (k : List Nat) : plook (l ++ m) k = (plook l k).or (plook m k) := by
  unfold plook
  rw [List.find?_append]
  cases List.find? (fun p => p.1 == k) l <;> simp
theorem plook_none {l : PL} {k : List Nat} (h : ∀ p ∈ l, p.1 ≠ k) : plook l k = none := by
  unfold plook
  have : l.find? (fun p => p.1 == k) = none := by
    rw [List.find?_eq_none]
    intro p hp
    simpa using h p hp
  rw [this]; rfl
theorem plook_pre (p : List Nat) (l : PL) (k : List Nat) : plook (pre p l) k = if p <+: k then plook l (k.drop p.length) else none := by
  split
  · rename_i h
    obtain ⟨r, rfl⟩ := h
    unfold plook pre
    rw [List.find?_map]
    have : ((fun x : List Nat × Int => x.1 == p ++ r) ∘ fun x : List Nat × Int => (p ++ x.1, x.2)) = fun x => x.1 == r := by
      funext x
      rw [Bool.eq_iff_iff]
      simp
    simp [this, Function.comp_def]
  · rename_i h
    refine plook_none fun x hx => ?_
    obtain ⟨y, hy, rfl⟩ := List.mem_map.1 hx
    rintro rfl
    exact h ⟨_, rfl⟩
theorem psrt_pre {p : List Nat} {l : PL} : PSrt (pre p l) ↔ PSrt l := by
  unfold PSrt pre
  rw [List.map_map, List.pairwise_map, List.pairwise_map]
  simp only [Function.comp_def, slt_pre]
theorem psrt_append {l m : PL} : PSrt (l ++ m) ↔ PSrt l ∧ PSrt m ∧ ∀ a ∈ l, ∀ b ∈ m, slt a.1 b.1 := by
  unfold PSrt
  rw [List.map_append, List.pairwise_append]
  simp only [List.mem_map, forall_exists_index, and_imp, forall_apply_eq_imp_iff₂]
/-! Trees: the kids of a node hang behind it in a row. -/
inductive Tr where
  | nil : Tr
  | kid (b : Nat) (t r : Tr) : Tr
  | node (bs : List Nat) (val : Int) (has leaf : Bool) (ks : Tr) : Tr
def IsN : Tr → Prop
  | .node .. => True
  | _ => False
def IsK : Tr → Prop
  | .node .. => False
  | _ => True
/-- a row of kids begins behind a byte -/
def From (b : Nat) : Tr → Prop
  | .kid c _ _ => b < c
  | _ => True
def TOk : Tr → Prop
  | .nil => True
  | .kid b t r => b < 256 ∧ IsN t ∧ TOk t ∧ IsK r ∧ TOk r ∧ From b r
  | .node bs v has leaf ks => (∀ x ∈ bs, x < 256) ∧ 0 ≤ v ∧ v < 18446744073709551616 ∧ (has = false → v = 0) ∧ (leaf = true → has = true ∧ ks = .nil) ∧ IsK ks ∧ TOk ks
def tl : Tr → PL
  | .nil => []
  | .kid b t r => pre [b] (tl t) ++ tl r
  | .node bs v has _ ks => (if has then [(bs, v)] else []) ++ pre bs (tl ks)
def tget : Tr → List Nat → Option Int
  | .nil, _ => none
  | .kid b t r, k => match k with
    | [] => none
    | c :: k' => if b = c then tget t k' else tget r k
  | .node bs v has _ ks, k => if bs <+: k then (if k.drop bs.length = [] then (if has then some v else none) else tget ks (k.drop bs.length)) else none
theorem tl_from : ∀ (r : Tr) (b : Nat), IsK r → TOk r → From b r → ∀ p ∈ tl r, ∃ c s, p.1 = c :: s ∧ b < c
  | .nil, _, _, _, _, p, hp => by simp [tl] at hp
  | .node .., _, h, _, _, _, _ => h.elim
  | .kid c t r, b, _, ⟨_, _, _, h4, h5, h6⟩, hb, p, hp => by
    have hb : b < c := hb
    rcases List.mem_append.1 hp with hp | hp
    · obtain ⟨q, hq, rfl⟩ := List.mem_map.1 hp
      exact ⟨c, q.1, rfl, hb⟩
    · obtain ⟨d, s, h1, h2⟩ := tl_from r c h4 h5 h6 p hp
      exact ⟨d, s, h1, by omega⟩
theorem tl_heads : ∀ (r : Tr), IsK r → TOk r → ∀ p ∈ tl r, ∃ c s, p.1 = c :: s ∧ c < 256
  | .nil, _, _, p, hp => by simp [tl] at hp
  | .node .., h, _, _, _ => h.elim
  | .kid c t r, _, ⟨h1, _, _, h4, h5, h6⟩, p, hp => by
    rcases List.mem_append.1 hp with hp | hp
    · obtain ⟨q, hq, rfl⟩ := List.mem_map.1 hp
      exact ⟨c, q.1, rfl, h1⟩
    · exact tl_heads r h4 h5 p hp
theorem tget_look : ∀ (t : Tr) (k : List Nat), TOk t → tget t k = plook (tl t) k
  | .nil, k, _ => rfl
  | .kid b t r, k, ⟨h1, h2, h3, h4, h5, h6⟩ => by
    have hf := tl_from r b h4 h5 h6
    unfold tget tl
    rw [plook_append, plook_pre]
    cases k with
    | nil =>
      have : plook (tl r) [] = none := plook_none fun p hp => by
        obtain ⟨c, s, e, _⟩ := hf p hp
        rw [e]; simp
      simp [this]
    | cons c k =>
      by_cases e : b = c
      · subst e
        have : plook (tl r) (b :: k) = none := plook_none fun p hp => by
          obtain ⟨c, s, e, hc⟩ := hf p hp
          rw [e]
          intro q
          have := (List.cons.inj q).1
          omega
        simp [this, tget_look t k h3]
      · simp [e, tget_look r (c :: k) h5, List.cons_prefix_cons]
  | .node bs v has leaf ks, k, ⟨h1, h2, h3, h4, h5, h6, h7⟩ => by
    unfold tget tl
    rw [plook_append, plook_pre]
    by_cases e : bs <+: k
    · obtain ⟨r, rfl⟩ := e
      have hh := tl_heads ks h6 h7
      simp only [List.prefix_append, if_true, List.drop_left]
      by_cases er : r = []
      · subst er
        have : plook (tl ks) [] = none := plook_none fun p hp => by
          obtain ⟨c, s, e, _⟩ := hh p hp
          rw [e]; simp
        simp only [if_true, this]
        cases has <;> simp [plook]
      · have : plook (if has = true then [(bs, v)] else []) (bs ++ r) = none := plook_none fun p hp => by
          cases has
          · simp at hp
          · simp at hp; subst hp; simpa using er
        simp [er, this, tget_look ks r h7]
    · have : plook (if has = true then [(bs, v)] else []) k = none := plook_none fun p hp => by
        cases has
        · simp at hp
        · simp at hp; subst hp; rintro rfl; exact e (List.prefix_refl _)
      simp [e, this]
theorem tl_srt : ∀ (t : Tr), TOk t → PSrt (tl t)
  | .nil, _ => List.Pairwise.nil
  | .kid b t r, ⟨h1, h2, h3, h4, h5, h6⟩ => by
    have hf := tl_from r b h4 h5 h6
    unfold tl
    refine psrt_append.2 ⟨psrt_pre.2 (tl_srt t h3), tl_srt r h5, fun a ha c hc => ?_⟩
    obtain ⟨q, hq, rfl⟩ := List.mem_map.1 ha
    obtain ⟨d, s, e, hd⟩ := hf c hc
    rw [e]
    exact slt_lt hd _ _
  | .node bs v has leaf ks, ⟨h1, h2, h3, h4, h5, h6, h7⟩ => by
    have hh := tl_heads ks h6 h7
    unfold tl
    refine psrt_append.2 ⟨?_, psrt_pre.2 (tl_srt ks h7), fun a ha c hc => ?_⟩
    · cases has
      · exact List.Pairwise.nil
      · exact List.pairwise_singleton _ _
    · cases has
      · simp at ha
      · simp at ha
        subst ha
        obtain ⟨q, hq, rfl⟩ := List.mem_map.1 hc
        obtain ⟨d, s, e, _⟩ := hh q hq
        have := (slt_pre bs [] (d :: s)).2 (slt_nc _ _)
        rw [e]
        simpa using this
/-- rows of kids, one by one -/
def ofL : List (Nat × Tr) → Tr
  | [] => .nil
  | x :: r => .kid x.1 x.2 (ofL r)
def chain : Tr → List (Nat × Tr)
  | .kid b t r => (b, t) :: chain r
  | _ => []
@[simp] theorem chain_ofL (L : List (Nat × Tr)) : chain (ofL L) = L := by
  induction L with
  | nil => rfl
  | cons x r ih => simp [ofL, chain, ih]
theorem ofL_chain : ∀ (t : Tr), IsK t → TOk t → ofL (chain t) = t
  | .nil, _, _ => rfl
  | .kid b t r, _, ⟨_, _, _, h4, h5, _⟩ => by simp [chain, ofL, ofL_chain r h4 h5]
  | .node .., h, _ => h.elim
theorem isK_ofL (L : List (Nat × Tr)) : IsK (ofL L) := by cases L <;> trivial
theorem tl_ofL (L : List (Nat × Tr)) : tl (ofL L) = L.flatMap fun x => pre [x.1] (tl x.2) := by
  induction L with
  | nil => rfl
  | cons x r ih => simp [ofL, tl, ih]
theorem tok_ofL (L : List (Nat × Tr)) : TOk (ofL L) ↔ (∀ x ∈ L, x.1 < 256 ∧ IsN x.2 ∧ TOk x.2) ∧ (L.map (·.1)).Pairwise (· < ·) := by
  induction L with
  | nil => simp [ofL, TOk]
  | cons x r ih =>
    simp only [ofL, TOk, ih, isK_ofL, true_and, List.mem_cons, forall_eq_or_imp, List.map_cons, List.pairwise_cons]
    constructor
    · rintro ⟨h1, h2, h3, ⟨h4, h5⟩, h6⟩
      refine ⟨⟨⟨h1, h2, h3⟩, h4⟩, ?_, h5⟩
      intro c hc
      cases r with
      | nil => simp at hc
      | cons y r =>
        have h6 : x.1 < y.1 := h6
        simp only [List.map_cons, List.mem_cons] at hc
        rcases hc with rfl | hc
        · exact h6
        · exact Nat.lt_trans h6 ((List.pairwise_cons.1 h5).1 c hc)
    · rintro ⟨⟨⟨h1, h2, h3⟩, h4⟩, h5, h6⟩
      refine ⟨h1, h2, h3, ⟨h4, h6⟩, ?_⟩
      cases r with
      | nil => trivial
      | cons y r => exact h5 y.1 (by simp)
end Go.Proofs.Ytkonbldjmcccmaa
/- Slices of pairs that came in, or were made; whether they are too many or too long. -/
namespace Go.Proofs.Ytkonbldjmcccmaa
open Go.RowKit
/-- a slice of bytes, with what is known of its room -/
structure Sl (w : World) (a : Option Addr) (n c : Nat) (bs : List Nat) : Prop where
  len : bs.length = n
  at_ : BytesAt w a bs
  cap : n ≤ c
  capm : c ≤ maxLen
  nil : a = none → n = 0 ∧ c = 0
section
variable {w w' : World} {a : Option Addr} {n c : Nat} {bs : List Nat}
theorem Sl.below (h : Sl w a n c bs) (hb : Below w.heap.size w w') : Sl w' a n c bs := ⟨h.len, h.at_.below hb, h.cap, h.capm, h.nil⟩
theorem Sl.drewN (h : Sl w a n c bs) (k : Nat) : Sl (w.drewN k) a n c bs := ⟨h.len, h.at_.drewN k, h.cap, h.capm, h.nil⟩
theorem sl_nil (w : World) : Sl w none 0 0 [] := ⟨rfl, ⟨by simp, fun i hi => by simp at hi⟩, Nat.le_refl _, Nat.zero_le _, fun _ => ⟨rfl, rfl⟩⟩
end
/-- a pair at a place -/
def PrC (w : World) (p : Addr) (i : Nat) (x : List Nat × Int) : Prop :=
  (p.add (i * 2)).block < w.heap.size ∧ ∃ a n c, w.cell? (p.add (i * 2)) = some (.slice a n c) ∧ w.cell? ⟨(p.add (i * 2)).block, (p.add (i * 2)).off + 1, none⟩ = some (.int .u64 x.2) ∧ Sl w a n c x.1
/-- a slice of pairs -/
structure Prs (w : World) (a : Option Addr) (n c : Nat) (l : PL) : Prop where
  len : l.length = n
  cap : n ≤ c
  capm : c ≤ maxLen
  nil : a = none → n = 0 ∧ c = 0
  val : ∀ x ∈ l, 0 ≤ x.2 ∧ x.2 < 18446744073709551616
  at_ : ∀ i, i < l.length → ∃ p, a = some p ∧ PrC w p i (l.getD i ([], 0))
theorem add_block (a : Addr) (n : Nat) : (a.add n).block = a.block := by unfold Addr.add; split <;> rfl
section
variable {w w' : World} {a : Option Addr} {n c i : Nat} {l : PL} {p : Addr} {x : List Nat × Int}
theorem PrC.below (h : PrC w p i x) (hb : Below w.heap.size w w') : PrC w' p i x := by
  obtain ⟨h0, a, n, c, h1, h2, h3⟩ := h
  refine ⟨Nat.lt_of_lt_of_le h0 hb.size, a, n, c, (hb.cell h0).trans h1, (hb.cell (p := ⟨(p.add (i * 2)).block, _, none⟩) h0).trans h2, h3.below hb⟩
theorem Prs.below (h : Prs w a n c l) (hb : Below w.heap.size w w') : Prs w' a n c l :=
  ⟨h.len, h.cap, h.capm, h.nil, h.val, fun i hi => by obtain ⟨p, e, q⟩ := h.at_ i hi; exact ⟨p, e, q.below hb⟩⟩
theorem Prs.drewN (h : Prs w a n c l) (k : Nat) : Prs (w.drewN k) a n c l := h.below (below_drewN (Below.refl _ w) k)
theorem Prs.alloc (h : Prs w a n c l) (o : Obj) : Prs (w.alloc o) a n c l := h.below ((Below.refl _ w).alloc (Nat.le_refl _) o)
theorem prs_nil (w : World) : Prs w none 0 0 [] := ⟨rfl, Nat.le_refl _, Nat.zero_le _, fun _ => ⟨rfl, rfl⟩, by simp, fun i hi => by simp at hi⟩
end
theorem PrC.cells {w : World} {p : Addr} {i : Nat} {x : List Nat × Int} (h : PrC w p i x) : ∃ a n c, w.cell? (p.add (i * 2)) = some (.slice a n c) ∧ w.cell? ⟨(p.add (i * 2)).block, (p.add (i * 2)).off + 1, none⟩ = some (.int .u64 x.2) ∧ Sl w a n c x.1 := h.2
def farL (m : Nat) (l : PL) : Bool := l.any fun x => decide (m < x.1.length)
theorem farL_at {m : Nat} {l : PL} {i : Nat} (hi : i < l.length) (h : m < (l.getD i ([], 0)).1.length) : farL m l = true := by
  unfold farL
  rw [List.any_eq_true]
  refine ⟨l.getD i ([], 0), ?_, by simpa using h⟩
  rw [List.getD, List.getElem?_eq_getElem hi]
  exact List.getElem_mem _
theorem farL_no {m : Nat} {l : PL} (h : ∀ i, i < l.length → (l.getD i ([], 0)).1.length ≤ m) : farL m l = false := by
  unfold farL
  rw [List.any_eq_false]
  intro x hx
  obtain ⟨i, hi, rfl⟩ := List.getElem_of_mem hx
  have := h i hi
  rw [List.getD, List.getElem?_eq_getElem hi] at this
  simp at this ⊢
  omega
def farPost (b : Bool) (w : World) (e : Ending) (w' : World) : Prop := e = .returned (.bool b) ∧ Below w.heap.size w w'
set_option maxHeartbeats 1000000 in
theorem far_any (w : World) (a : Option Addr) (n c : Nat) (l : PL) (h : Prs w a n c l) (a2 : Option Addr) (n2 c2 : Nat) : Calls Try.prog 35 #[.slice a n c, .slice a2 n2 c2] w (farPost (decide (300 < n) || decide (600 < n2) || farL 300 l) w) := by
  have hB0 : Hid (Below w.heap.size w w) := Below.refl _ _
  by_cases h1 : 300 < n
  · have e : (decide (300 < n) || decide (600 < n2) || farL 300 l) = true := by simp [h1]
    have h2 : (300 : Int) < (n : Int) := by omega
    rw [e]
    clear h e
    go_enter Try.func35, Try.ntmps35
    go_wp2_with fail
    go_ret
    exact ⟨rfl, hB0.out⟩
  · have h2 : ¬ (300 : Int) < (n : Int) := by omega
    by_cases h3 : 600 < n2
    · have e : (decide (300 < n) || decide (600 < n2) || farL 300 l) = true := by simp [h3]
      have h4 : (600 : Int) < (n2 : Int) := by omega
      rw [e]
      clear h e
      go_enter Try.func35, Try.ntmps35
      go_wp2_with fail
      go_ret
      exact ⟨rfl, hB0.out⟩
    · have h4 : ¬ (600 : Int) < (n2 : Int) := by omega
      have e : (decide (300 < n) || decide (600 < n2) || farL 300 l) = farL 300 l := by simp [h1, h3]
      rw [e]
      have H := Lib.hid h
      obtain ⟨V, hV⟩ : ∃ V, V = farL 300 l := ⟨_, rfl⟩
      have HV := Lib.hid hV
      have hl := Lib.hid h.len
      have hn : n ≤ 300 := by omega
      rw [← hV]
      clear h e hV h1 h3
      go_enter Try.func35, Try.ntmps35
      go_wp2_with fail
      go_loopw [17] (fun vi wr => ∃ i : Nat, vi = .int .i64 (i : Nat) ∧ i ≤ n ∧ Hid (∀ j, j < i → (l.getD j ([], 0)).1.length ≤ 300) ∧ Hid (Below w.heap.size w wr)) (fun vi _ => (n - intOf vi).toNat)
      case atStart => exact ⟨0, rfl, by omega, fun j hj => absurd hj (by omega), hB0⟩
      case round =>
        clear hB0
        obtain ⟨i, rfl, hi, hA, hB⟩ := hrel
        by_cases hlt : i < n
        · have hlt2 : (i : Int) < (n : Int) := by omega
          obtain ⟨p, rfl, q⟩ := (H.out.below hB.out).at_ i (by rw [hl.out]; exact hlt)
          obtain ⟨a3, n3, c3, q1, q2, q3⟩ := q.cells
          have hl3 := Lib.hid q3.len
          generalize (l.getD i ([], 0)).2 = v at *
          clear q q3
          by_cases hx : 300 < n3
          · have hx2 : (300 : Int) < (n3 : Int) := by omega
            have hR : Hid (true = V) := by show _ = _; rw [HV.out, farL_at (i := i) (by rw [hl.out]; exact hlt) (by rw [hl3.out]; exact hx)]
            clear hl3 hx
            go_wp2_with fail
            go_ret
            rw [← hR.out]
            exact ⟨rfl, (hB.out.alloc hB.out.size _)⟩
          · have hx2 : ¬ (300 : Int) < (n3 : Int) := by omega
            have hA2 : Hid (∀ j, j < i + 1 → (l.getD j ([], 0)).1.length ≤ 300) := fun j hj => by
              by_cases e : j = i
              · rw [e, hl3.out]; omega
              · exact hA.out j (by omega)
            clear hl3 hx hA
            go_wp2_with fail
            go_roundw
            case rel => exact ⟨i + 1, (by first | rfl | go_num), by omega, hA2, hB.out.alloc hB.out.size _⟩
            case measure => (simp [intOf]) <;> omega
        · have hlt2 : ¬ (i : Int) < (n : Int) := by omega
          obtain rfl : i = n := by omega
          have hR : Hid (false = V) := by show _ = _; rw [HV.out, farL_no (fun j hj => hA.out j (by rw [← hl.out]; exact hj))]
          clear hA
          go_wp2_with fail
          go_ret
          rw [← hR.out]
          exact ⟨rfl, hB.out⟩
end Go.Proofs.Ytkonbldjmcccmaa
/- keys.Common, Cmp, Sorted, May, canon's check; bytes.Compare, bytes.HasPrefix. -/
namespace Go.Proofs
def Try.layPre_ren : Go.Shelf.Ren := ⟨fun | 115 => 203 | 116 => 171 | n => n, fun | 37 => 27 | 3 => 3 | 4 => 4 | 5 => 5 | 9 => 9 | n => n, fun | n => n⟩
theorem Try.layPre : Go.Proofs.Lays.nb116 Try.prog Try.layPre_ren := {
  mixed := by kernel_rfl
  f115 := Try.func203.trans (congrArg some (by kernel_rfl))
  f116 := Try.func171.trans (congrArg some (by kernel_rfl))
  t3 := Try.underlying3
  a3 := Try.isAgg3
  z3 := Try.sizeOf3
  v3 := Try.zeroValue3
  t4 := Try.underlying4
  a4 := Try.isAgg4
  z4 := Try.sizeOf4
  v4 := Try.zeroValue4
  t5 := Try.underlying5
  a5 := Try.isAgg5
  z5 := Try.sizeOf5
  v5 := Try.zeroValue5
  t9 := Try.underlying9
  a9 := Try.isAgg9
  z9 := Try.sizeOf9
  v9 := Try.zeroValue9
  t37 := Try.underlying27
  a37 := Try.isAgg27
  z37 := Try.sizeOf27
  v37 := Try.zeroValue27 }
namespace Ytkonbldjmcccmaa
open Go.RowKit
/-! Bytes told by natural numbers, as the library tells them. -/
def Zs (s : List Nat) : List Int := s.map fun b => ((b : Nat) : Int)
def U8 (s : List Nat) : List UInt8 := s.map UInt8.ofNat
theorem bytesOf_nat (s : List Nat) : Lib.bytesOf (Zs s) = U8 s := by
  unfold Lib.bytesOf Zs U8
  rw [List.map_map]
  rfl
theorem getD_nat (s : List Nat) (i : Nat) : (Zs s).getD i 0 = ((s.getD i 0 : Nat) : Int) := by
  unfold Zs
  simp only [List.getD, List.getElem?_map]
  cases s[i]? <;> rfl
theorem zs_len (s : List Nat) : (Zs s).length = s.length := by simp [Zs]
theorem BytesAt.ints {w : World} {p : Addr} {s : List Nat} (h : BytesAt w (some p) s) : ∀ i, i < s.length → w.cell? (p.add i) = some (.int .u8 ((Zs s).getD i 0)) := fun i hi => by
  obtain ⟨q, hq, _, h2⟩ := h.2 i hi
  obtain rfl : p = q := by simpa using hq
  rw [h2, getD_nat]
theorem Sl.in_ {w : World} {a : Option Addr} {n c : Nat} {s : List Nat} (h : Sl w a n c s) : Lib.BytesIn w a n (Zs s) := by
  cases a with
  | none => obtain ⟨rfl, rfl⟩ := h.nil rfl; exact Lib.BytesIn.nil _ _ _
  | some p => exact Lib.BytesIn.of_cells fun i hi => h.at_.ints i (by rw [h.len]; exact hi)
theorem u8_lt {x y : Nat} (hx : x < 256) (hy : y < 256) : UInt8.ofNat x < UInt8.ofNat y ↔ x < y := by
  rw [UInt8.lt_iff_toNat_lt, UInt8.toNat_ofNat', UInt8.toNat_ofNat', Nat.mod_eq_of_lt hx, Nat.mod_eq_of_lt hy]
theorem u8_eq {x y : Nat} (hx : x < 256) (hy : y < 256) : UInt8.ofNat x = UInt8.ofNat y ↔ x = y := by
  rw [← UInt8.toNat_inj, UInt8.toNat_ofNat', UInt8.toNat_ofNat', Nat.mod_eq_of_lt hx, Nat.mod_eq_of_lt hy]
theorem compare_nat : ∀ (s t : List Nat), (∀ x ∈ s, x < 256) → (∀ x ∈ t, x < 256) → Lib.compareBytes (U8 s) (U8 t) = bcmp s t
  | [], [], _, _ => rfl
  | [], y :: t, _, _ => by rw [bcmp_nc]; rfl
  | x :: s, [], _, _ => by rw [bcmp_cn]; rfl
  | x :: s, y :: t, hs, ht => by
    have hx : x < 256 := hs x (by simp)
    have hy : y < 256 := ht y (by simp)
    have ih := compare_nat s t (fun z hz => hs z (by simp [hz])) (fun z hz => ht z (by simp [hz]))
    show (if UInt8.ofNat x < UInt8.ofNat y then (-1 : Int) else if UInt8.ofNat y < UInt8.ofNat x then 1 else Lib.compareBytes (U8 s) (U8 t)) = _
    rw [ih]
    simp only [u8_lt hx hy, u8_lt hy hx]
    rcases Nat.lt_trichotomy x y with h | h | h
    · rw [if_pos h, bcmp_lt h]
    · subst h; simp [bcmp_same]
    · rw [if_neg (by omega), if_pos h, bcmp_gt h]
theorem prefix_nat : ∀ (s t : List Nat), (∀ x ∈ s, x < 256) → (∀ x ∈ t, x < 256) → Lib.hasPrefix (U8 s) (U8 t) = decide (t <+: s)
  | s, [], _, _ => by simp [U8, Lib.hasPrefix]
  | [], y :: t, _, _ => by simp [U8, Lib.hasPrefix]
  | x :: s, y :: t, hs, ht => by
    have hx : x < 256 := hs x (by simp)
    have hy : y < 256 := ht y (by simp)
    have ih := prefix_nat s t (fun z hz => hs z (by simp [hz])) (fun z hz => ht z (by simp [hz]))
    show (UInt8.ofNat y == UInt8.ofNat x && Lib.hasPrefix (U8 s) (U8 t)) = _
    rw [ih, Bool.eq_iff_iff]
    simp [u8_eq hy hx, List.cons_prefix_cons]
theorem run_bytesOf {w : World} {a : Option Addr} {n c : Nat} {s : List Nat} (h : Sl w a n c s) : (Extern.Bytes.bytesOf (.slice a n c)).run Try.prog w = .ok ⟨(U8 s).toArray⟩ w := by
  cases a with
  | none =>
    obtain ⟨rfl, rfl⟩ := h.nil rfl
    obtain rfl : s = [] := List.eq_nil_of_length_eq_zero h.len
    rfl
  | some p =>
    have := Lib.run_loadBytesX (P := Try.prog) w (Zs s) p .empty (fun j x hj => by
      have hjl : j < s.length := by have := (List.getElem?_eq_some_iff.1 hj).1; rwa [zs_len] at this
      rw [h.at_.ints j hjl, List.getD, hj]; rfl)
    rw [zs_len, h.len, bytesOf_nat] at this
    show (Extern.Bytes.loadBytes p n .empty).run Try.prog w = _
    rw [this]
    congr 1
    apply ByteArray.ext
    show (#[] : Array UInt8) ++ (U8 s).toArray = (U8 s).toArray
    simp
theorem run_compare {w : World} {a b : Option Addr} {n c m d : Nat} {s t : List Nat} (h : Sl w a n c s) (k : Sl w b m d t) : (Extern.BytealgCompare.compare #[.slice a n c, .slice b m d]).run Try.prog w = .ok (.int .i64 (bcmp s t)) w := by
  change Sem.run Try.prog (do pure (goInt (Extern.BytealgCompare.cmp (← Extern.Bytes.bytesOf (.slice a n c)) (← Extern.Bytes.bytesOf (.slice b m d))))) w = _
  simp only [Sem.run_bind, run_bytesOf h, run_bytesOf k, Sem.run_pure, Result.andThen]
  rw [Lib.cmp_eq]
  show Result.ok (goInt (Lib.compareBytes (U8 s) (U8 t))) w = _
  rw [compare_nat s t h.at_.1 k.at_.1]
  rfl
theorem lib_prefix {w : World} {a b : Option Addr} {n c m d : Nat} {s t : List Nat} (h : Sl w a n c s) (k : Sl w b m d t) : Calls Try.prog 171 #[.slice a n c, .slice b m d] w fun e w' => e = .returned (.bool (decide (t <+: s))) ∧ w = w' :=
  (Any.bytes_HasPrefix_all Try.layPre a b n c m d (Zs s) (Zs t) w (by rw [zs_len, h.len]) (by rw [zs_len, k.len]) h.cap h.in_ k.in_).mono fun e w' ⟨h1, h2⟩ => ⟨by rw [h1, bytesOf_nat, bytesOf_nat, prefix_nat s t h.at_.1 k.at_.1], h2.symm⟩
theorem lib_compare {w : World} {a b : Option Addr} {n c m d : Nat} {s t : List Nat} (h : Sl w a n c s) (k : Sl w b m d t) : Calls Try.prog 213 #[.slice a n c, .slice b m d] w fun e w' => e = .returned (.int .i64 (bcmp s t)) ∧ w = w' := by
  have hx : (callFunc 215 #[.slice a n c, .slice b m d]).run Try.prog w = .ok (.value (.int .i64 (bcmp s t))) w := by
    rw [run_callFunc_extern Try.func215 (by kernel_rfl) (by kernel_rfl) (by kernel_rfl) (e := Extern.BytealgCompare.compare) (by kernel_rfl), run_compare h k]
    rfl
  generalize bcmp s t = V at *
  clear h k
  go_enter Try.func213, Try.ntmps213
  go_wp2_with fail
  go_ret
  exact ⟨rfl, rfl⟩
theorem keys_cmp {w : World} {a b : Option Addr} {n c m d : Nat} {s t : List Nat} (h : Sl w a n c s) (k : Sl w b m d t) : Calls Try.prog 209 #[.slice a n c, .slice b m d] w fun e w' => e = .returned (.int .i64 (bcmp s t)) ∧ w = w' := by
  have hC := Lib.hid (lib_compare h k)
  generalize bcmp s t = V at *
  clear h k
  go_enter Try.func209, Try.ntmps209
  go_wp2_with (go_at_call 213; refine hC.out.mono ?_; rintro e w' ⟨rfl, rfl⟩)
  go_ret
  exact ⟨rfl, rfl⟩
theorem keys_may {w : World} {a : Option Addr} {n c : Nat} : Calls Try.prog 199 #[.slice a n c] w fun e w' => e = .returned (.int .i64 (if 65535 < n then 8 else 0)) ∧ w = w' := by
  by_cases h : 65535 < n
  · rw [if_pos h]
    have h2 : (65535 : Int) < (n : Int) := by omega
    clear h
    go_enter Try.func199, Try.ntmps199
    go_wp2_with fail
    go_ret
    exact ⟨rfl, rfl⟩
  · rw [if_neg h]
    have h2 : ¬ (65535 : Int) < (n : Int) := by omega
    clear h
    go_enter Try.func199, Try.ntmps199
    go_wp2_with fail
    go_ret
    exact ⟨rfl, rfl⟩
set_option maxRecDepth 100000 in
theorem keys_common (w : World) (a1 a2 : Option Addr) (n1 c1 n2 c2 : Nat) (xs ys : List Nat) (h1 : BytesAt w a1 xs) (h2 : BytesAt w a2 ys) (l1 : xs.length = n1) (l2 : ys.length = n2) (m1 : n1 ≤ maxLen) (m2 : n2 ≤ maxLen) : Calls Try.prog 174 #[.slice a1 n1 c1, .slice a2 n2 c2] w fun e w' => e = .returned (.int .i64 (lcp xs ys : Nat)) ∧ ∃ k, w' = w.drewN k := by
  have H1 := Lib.hid h1
  have H2 := Lib.hid h2
  have L1 := Lib.hid l1
  have L2 := Lib.hid l2
  have M1 : n1 ≤ 9223372036854775807 := m1
  have M2 : n2 ≤ 9223372036854775807 := m2
  obtain ⟨V, hV⟩ : ∃ V : Nat, Hid (lcp xs ys = V) := ⟨_, rfl⟩
  rw [hV.out]
  obtain ⟨m, hm⟩ : ∃ m, m = min n1 n2 := ⟨_, rfl⟩
  have hmi : min (n1 : Int) (n2 : Int) = (m : Int) := by omega
  have hm1 : m ≤ n1 := by omega
  have hm2 : m ≤ n2 := by omega
  have hm3 : Hid (m = n1 ∨ m = n2) := by show _ ∨ _; omega
  clear h1 h2 l1 l2 m1 m2 hm
  go_enter Try.func174, Try.ntmps174
  go_wp2_with fail
  go_loopw [11] (fun vi wr => ∃ i k : Nat, vi = .int .i64 (i : Nat) ∧ i ≤ m ∧ Hid (∀ j, j < i → xs.getD j 0 = ys.getD j 0) ∧ wr = w.drewN k) (fun vi _ => (m - intOf vi).toNat)
  case atStart => exact ⟨0, 0, rfl, by omega, (fun j hj => absurd hj (Nat.not_lt_zero j)), rfl⟩
  case round =>
    obtain ⟨i, k, rfl, hi1, heq, rfl⟩ := hrel
    by_cases g1 : i < m
    · obtain ⟨p, rfl, hp⟩ := H1.out.cellN (i := i) (by rw [L1.out]; omega)
      obtain ⟨q, rfl, hq⟩ := H2.out.cellN (i := i) (by rw [L2.out]; omega)
      have j0 : (i : Int) < (m : Int) := by omega
      have j1 : (i : Int) < (n1 : Int) := by omega
      have j2 : (i : Int) < (n2 : Int) := by omega
      have hw9 : IntKind.i64.wrap (((i : Nat) : Int) + 1) = ((i : Nat) : Int) + 1 := IntWalk.i64_in _ (by omega)
      by_cases he : xs.getD i 0 = ys.getD i 0
      · have hn : Hid (∀ j, j < i + 1 → xs.getD j 0 = ys.getD j 0) := fun j hj => by
          by_cases e : j = i
          · subst e; exact he
          · exact heq.out j (by omega)
        rw [← he] at hq
        generalize xs.getD i 0 = u at *
        clear he
        go_wp2_with fail
        go_quiet (fail)
        go_wp2_with fail
        go_roundw
        case rel => exact ⟨i + 1, k + nq, (by first | rfl | go_num), by omega, hn, by simp⟩
        case measure => (simp [intOf]) <;> omega
      · have hR : Hid (i = V) := ((lcp_stop xs ys i heq.out (by rw [L1.out]; omega) (by rw [L2.out]; omega) (Or.inr (Or.inr he))).symm.trans hV.out : i = V)
        have he2 : ((xs.getD i 0 : Nat) : Int) ≠ ((ys.getD i 0 : Nat) : Int) := by omega
        have he3 : (((xs.getD i 0 : Nat) : Int) == ((ys.getD i 0 : Nat) : Int)) = false := by simpa using he2
        generalize xs.getD i 0 = u at *
        generalize ys.getD i 0 = v at *
        clear he he2
        go_wp2_with fail
        go_quiet (fail)
        go_wp2_with fail
        go_ret
        exact ⟨congrArg (fun n : Nat => Ending.returned (.int .i64 (n : Int))) hR.out, _, World.drewN_drewN _ _ _⟩
    · obtain rfl : i = m := by omega
      have hR : Hid (i = V) := ((lcp_stop xs ys i heq.out (by rw [L1.out]; omega) (by rw [L2.out]; omega) (by rw [L1.out, L2.out]; rcases hm3.out with h | h <;> simp [h])).symm.trans hV.out : i = V)
      have j0 : ¬ (i : Int) < (i : Int) := by omega
      go_wp2_with fail
      go_ret
      exact ⟨congrArg (fun n : Nat => Ending.returned (.int .i64 (n : Int))) hR.out, _, rfl⟩
end Ytkonbldjmcccmaa
end Go.Proofs
/- keys.Sorted, canon's check: pairs that rise, none too long. -/
namespace Go.Proofs.Ytkonbldjmcccmaa
open Go.RowKit
/-- each one stands ahead of the next -/
def srtB (l : PL) : Bool := (List.range (l.length - 1)).all fun i => decide (bcmp (l.getD i ([], 0)).1 (l.getD (i + 1) ([], 0)).1 < 0)
theorem bcmp_neg {s t : List Nat} : bcmp s t < 0 ↔ slt s t := by
  rcases bcmp_three s t with ⟨h, e⟩ | ⟨h, e⟩ | ⟨h, e⟩
  · simp [h, e]
  · simp [slt, e]
  · simp [slt, e]
theorem srtB_iff {l : PL} : srtB l = true ↔ ∀ i, i + 1 < l.length → slt (l.getD i ([], 0)).1 (l.getD (i + 1) ([], 0)).1 := by
  unfold srtB
  rw [List.all_eq_true]
  simp only [List.mem_range, decide_eq_true_eq, bcmp_neg]
  constructor
  · intro h i hi; exact h i (by omega)
  · intro h i hi; exact h i (by omega)
theorem psrt_adj : ∀ (l : PL), (∀ i, i + 1 < l.length → slt (l.getD i ([], 0)).1 (l.getD (i + 1) ([], 0)).1) → PSrt l
  | [], _ => List.Pairwise.nil
  | [a], _ => List.pairwise_singleton _ _
  | a :: b :: r, h => by
    have ih := psrt_adj (b :: r) (fun i hi => by have := h (i + 1) (by simp at hi ⊢; omega); simpa using this)
    have hab : slt a.1 b.1 := by simpa using h 0 (by simp)
    refine List.pairwise_cons.2 ⟨?_, ih⟩
    intro c hc
    rw [List.map_cons] at hc
    rcases List.mem_cons.1 hc with rfl | hc
    · exact hab
    · exact slt_trans hab ((List.pairwise_cons.1 ih).1 c hc)
theorem getD_of_lt {α : Type} {l : List α} {i : Nat} {d : α} (h : i < l.length) : l.getD i d = l[i] := by
  rw [List.getD, List.getElem?_eq_getElem h]; rfl
theorem PSrt.at_ {l : PL} (h : PSrt l) {i j : Nat} (hij : i < j) (hj : j < l.length) : slt (l.getD i ([], 0)).1 (l.getD j ([], 0)).1 := by
  have := List.pairwise_iff_getElem.1 h i j (by simp; omega) (by simpa using hj) hij
  rw [getD_of_lt hj, getD_of_lt (show i < l.length by omega)]
  simpa using this
theorem srtB_srt {l : PL} : srtB l = true ↔ PSrt l := by
  rw [srtB_iff]
  exact ⟨psrt_adj l, fun h i hi => h.at_ (by omega) hi⟩
def drewPost (v : Value) (w : World) (e : Ending) (w' : World) : Prop := e = .returned v ∧ ∃ k, w' = w.drewN k
set_option maxHeartbeats 1000000 in
set_option maxRecDepth 100000 in
theorem keys_sorted (w : World) (a : Option Addr) (n c : Nat) (l : PL) (h : Prs w a n c l) : Calls Try.prog 200 #[.slice a n c] w (drewPost (.bool (srtB l)) w) := by
  have H := Lib.hid h
  obtain ⟨V, hV⟩ : ∃ V, V = srtB l := ⟨_, rfl⟩
  have HV := Lib.hid hV
  have hl := Lib.hid h.len
  have hn : n ≤ 9223372036854775807 := Nat.le_trans h.cap h.capm
  rw [← hV]
  clear h hV
  go_enter Try.func200, Try.ntmps200
  go_wp2_with fail
  go_loopw [3] (fun vi wr => ∃ i : Nat, vi = .int .i64 (i : Nat) ∧ 1 ≤ i ∧ i ≤ n + 1 ∧ Hid (∀ j, j + 1 < i → j + 1 < n → slt (l.getD j ([], 0)).1 (l.getD (j + 1) ([], 0)).1) ∧ Hid (∃ k, wr = w.drewN k)) (fun vi _ => (n + 1 - intOf vi).toNat)
  case atStart => exact ⟨1, rfl, by omega, by omega, fun j hj => absurd hj (by omega), 0, rfl⟩
  case round =>
    obtain ⟨i, rfl, hi1, hi2, hA, hw⟩ := hrel
    by_cases hlt : i < n
    · have hlt2 : (i : Int) < (n : Int) := by omega
      obtain ⟨j, rfl⟩ : ∃ j, i = j + 1 := ⟨i - 1, by omega⟩
      have HP : Hid (Prs wr a n c l) := by
        obtain ⟨k, rfl⟩ := hw.out
        exact H.out.drewN k
      obtain ⟨p, rfl, q⟩ := HP.out.at_ (j + 1) (by rw [hl.out]; exact hlt)
      obtain ⟨p', hp', q'⟩ := HP.out.at_ j (by rw [hl.out]; omega)
      obtain rfl : p = p' := by simpa using hp'
      obtain ⟨a3, n3, c3, q1, q2, q3⟩ := q.cells
      obtain ⟨a4, n4, c4, q4, q5, q6⟩ := q'.cells
      have hw0 : IntKind.i64.wrap (((j + 1 : Nat) : Int) - 1) = (j : Nat) := by rw [show ((j + 1 : Nat) : Int) - 1 = (j : Nat) by omega]; exact IntWalk.i64_in _ (by omega)
      have hw8 : (0 : Int) ≤ (j : Nat) := by omega
      have hw7 : ((j : Nat) : Int) < (n : Int) := by omega
      have hw9 : IntKind.i64.wrap (((j + 1 : Nat) : Int) + 1) = ((j + 1 + 1 : Nat) : Int) := by rw [show ((j + 1 : Nat) : Int) + 1 = ((j + 1 + 1 : Nat) : Int) by omega]; exact IntWalk.i64_in _ (by omega)
      have hC : Hid (∀ k, Calls Try.prog 209 #[.slice a4 n4 c4, .slice a3 n3 c3] (wr.drewN k) fun e w' => e = .returned (.int .i64 (bcmp (l.getD j ([], 0)).1 (l.getD (j + 1) ([], 0)).1)) ∧ w' = wr.drewN k) := fun k => (keys_cmp (q6.drewN k) (q3.drewN k)).mono fun e w' q => ⟨q.1, q.2.symm⟩
      clear q q' q2 q5 q3 q6 hp'
      by_cases hx : slt (l.getD j ([], 0)).1 (l.getD (j + 1) ([], 0)).1
      · have hA2 : Hid (∀ j', j' + 1 < j + 1 + 1 → j' + 1 < n → slt (l.getD j' ([], 0)).1 (l.getD (j' + 1) ([], 0)).1) := fun j' h1 h2 => by
          by_cases e : j' = j
          · subst e; exact hx
          · exact hA.out j' (by omega) h2
        have hx2 := bcmp_neg.2 hx
        have hx3 : ¬ 0 ≤ bcmp (l.getD j ([], 0)).1 (l.getD (j + 1) ([], 0)).1 := by omega
        generalize bcmp (l.getD j ([], 0)).1 (l.getD (j + 1) ([], 0)).1 = V' at *
        clear hx hA
        go_wp2_with fail
        go_quiet ((go_at_call 209; exact Calls.quiet_of_same (hC.out _)))
        go_wp2_with fail
        go_roundw
        case rel => exact ⟨j + 1 + 1, (by first | rfl | go_num), by omega, by omega, hA2, by obtain ⟨k, rfl⟩ := hw.out; exact ⟨k + nq, by simp⟩⟩
        case measure => (simp [intOf]) <;> omega
      · have hR : Hid (false = V) := by
          show _ = _
          rw [HV.out]
          cases e : srtB l with
          | false => rfl
          | true => exact absurd (srtB_iff.1 e j (by rw [hl.out]; exact hlt)) hx
        have hx2 : ¬ bcmp (l.getD j ([], 0)).1 (l.getD (j + 1) ([], 0)).1 < 0 := fun q => hx (bcmp_neg.1 q)
        have hx3 : 0 ≤ bcmp (l.getD j ([], 0)).1 (l.getD (j + 1) ([], 0)).1 := by omega
        generalize bcmp (l.getD j ([], 0)).1 (l.getD (j + 1) ([], 0)).1 = V' at *
        clear hx hx2 hA
        go_wp2_with fail
        go_quiet ((go_at_call 209; exact Calls.quiet_of_same (hC.out _)))
        go_wp2_with fail
        go_ret
        rw [← hR.out]
        exact ⟨rfl, by obtain ⟨k, rfl⟩ := hw.out; exact ⟨k + nq, by simp⟩⟩
    · have hlt2 : ¬ (i : Int) < (n : Int) := by omega
      have hR : Hid (true = V) := by
        show _ = _
        rw [HV.out]
        refine (srtB_iff.2 fun j hj => hA.out j ?_ ?_).symm
        · rw [hl.out] at hj; omega
        · rw [hl.out] at hj; exact hj
      clear hA
      go_wp2_with fail
      go_ret
      rw [← hR.out]
      exact ⟨rfl, hw.out⟩
def chkE (l : PL) : Int := if farL 65535 l then 8 else if srtB l then 0 else 12
def belowPost (v : Value) (w : World) (e : Ending) (w' : World) : Prop := e = .returned v ∧ Below w.heap.size w w'
set_option maxHeartbeats 1000000 in
theorem canon_check (w : World) (a : Option Addr) (n c : Nat) (l : PL) (h : Prs w a n c l) : Calls Try.prog 167 #[.slice a n c] w (belowPost (.int .i64 (chkE l)) w) := by
  have H := Lib.hid h
  obtain ⟨V, hV⟩ : ∃ V, V = chkE l := ⟨_, rfl⟩
  have HV := Lib.hid hV
  have hl := Lib.hid h.len
  have hn : n ≤ 9223372036854775807 := Nat.le_trans h.cap h.capm
  have hB0 : Hid (Below w.heap.size w w) := Below.refl _ _
  rw [← hV]
  clear h hV
  go_enter Try.func167, Try.ntmps167
  go_wp2_with fail
  go_loopw [8] (fun vi wr => ∃ i : Nat, vi = .int .i64 (i : Nat) ∧ i ≤ n ∧ Hid (∀ j, j < i → (l.getD j ([], 0)).1.length ≤ 65535) ∧ Hid (Below w.heap.size w wr)) (fun vi _ => (n - intOf vi).toNat)
  case atStart => exact ⟨0, rfl, by omega, fun j hj => absurd hj (by omega), hB0⟩
  case round =>
    clear hB0
    obtain ⟨i, rfl, hi, hA, hB⟩ := hrel
    by_cases hlt : i < n
    · have hlt2 : (i : Int) < (n : Int) := by omega
      obtain ⟨p, rfl, q⟩ := (H.out.below hB.out).at_ i (by rw [hl.out]; exact hlt)
      obtain ⟨a3, n3, c3, q1, q2, q3⟩ := q.cells
      have hl3 := Lib.hid q3.len
      generalize (l.getD i ([], 0)).2 = v at *
      have hM : Hid (∀ w', Calls Try.prog 199 #[.slice a3 n3 c3] w' fun e w'' => e = .returned (.int .i64 (if 65535 < n3 then 8 else 0)) ∧ w' = w'') := fun w' => keys_may
      clear q q3
      by_cases hx : 65535 < n3
      · have hR : Hid (8 = V) := by
          show _ = _
          rw [HV.out]
          unfold chkE
          rw [farL_at (i := i) (by rw [hl.out]; exact hlt) (by rw [hl3.out]; exact hx)]
          rfl
        simp only [if_pos hx] at hM
        clear hl3 hx
        go_wp2_with (go_at_call 199; refine (hM.out _).mono ?_; rintro e w' ⟨rfl, rfl⟩)
        go_ret
        rw [← hR.out]
        exact ⟨rfl, hB.out.alloc hB.out.size _⟩
      · have hA2 : Hid (∀ j, j < i + 1 → (l.getD j ([], 0)).1.length ≤ 65535) := fun j hj => by
          by_cases e : j = i
          · rw [e, hl3.out]; omega
          · exact hA.out j (by omega)
        simp only [if_neg hx] at hM
        clear hl3 hx hA
        go_wp2_with (go_at_call 199; refine (hM.out _).mono ?_; rintro e w' ⟨rfl, rfl⟩)
        go_roundw
        case rel => exact ⟨i + 1, (by first | rfl | go_num), by omega, hA2, hB.out.alloc hB.out.size _⟩
        case measure => (simp [intOf]) <;> omega
    · have hlt2 : ¬ (i : Int) < (n : Int) := by omega
      obtain rfl : i = n := by omega
      have hF := Lib.hid (farL_no (m := 65535) (l := l) (fun j hj => hA.out j (by rw [← hl.out]; exact hj)))
      have hS := Lib.hid (keys_sorted wr a i c l (H.out.below hB.out))
      cases e : srtB l with
      | true =>
        have hR : Hid (0 = V) := by show _ = _; rw [HV.out]; unfold chkE; rw [hF.out, e]; rfl
        rw [e] at hS
        clear hA e hF
        go_wp2_with (go_at_call 200; refine hS.out.mono ?_; rintro e w' ⟨rfl, k, rfl⟩)
        go_ret
        rw [← hR.out]
        exact ⟨rfl, below_drewN hB.out k⟩
      | false =>
        have hR : Hid (12 = V) := by show _ = _; rw [HV.out]; unfold chkE; rw [hF.out, e]; rfl
        rw [e] at hS
        clear hA e hF
        go_wp2_with (go_at_call 200; refine hS.out.mono ?_; rintro e w' ⟨rfl, k, rfl⟩)
        go_ret
        rw [← hR.out]
        exact ⟨rfl, below_drewN hB.out k⟩
end Go.Proofs.Ytkonbldjmcccmaa
/- Cuts of slices, under one name: bytes and pairs. -/
namespace Go.Proofs.Ytkonbldjmcccmaa
open Go.RowKit
theorem add_of_add (a : Addr) (i j : Nat) : (a.add i).add j = a.add (i + j) := by
  unfold Addr.add
  by_cases hi : i = 0 <;> by_cases hj : j = 0 <;> simp [hi, hj, Nat.add_assoc]
def cutA (a : Option Addr) (c lo s : Nat) : Option Addr := if c = lo then a else a.map (·.add (lo * s))
theorem elem8 : Try.prog.elem 27 = 5 := by kernel_rfl
theorem run_cut8 (w : World) (a : Option Addr) (n c lo hi : Nat) (h1 : lo ≤ hi) (h2 : hi ≤ c) :
    (Instr.slice 27 (.slice a n c) (some (.int .i64 (lo : Nat))) (some (.int .i64 (hi : Nat))) none).run Try.prog w = .ok (.slice (cutA a c lo 1) (hi - lo) (c - lo)) w := by
  have := run_slice_lh (P := Try.prog) (w := w) (t := 27) a n c (by rw [elem8]; exact Try.underlying27) .i64 .i64 (lo : Nat) (hi : Nat) (by omega) (by omega) (by omega)
  rw [this]
  have hz : (sizeOf (Try.prog.elem 27)).run Try.prog w = .ok 1 w := by rw [elem8]; exact Try.sizeOf5 w
  rw [hz]
  rfl
theorem run_from8 (w : World) (a : Option Addr) (n c lo : Nat) (h1 : lo ≤ n) :
    (Instr.slice 27 (.slice a n c) (some (.int .i64 (lo : Nat))) none none).run Try.prog w = .ok (.slice (cutA a c lo 1) (n - lo) (c - lo)) w := by
  have := run_slice_l (P := Try.prog) (w := w) (t := 27) a n c (by rw [elem8]; exact Try.underlying27) .i64 (lo : Nat) (by omega) (by omega)
  rw [this]
  have hz : (sizeOf (Try.prog.elem 27)).run Try.prog w = .ok 1 w := by rw [elem8]; exact Try.sizeOf5 w
  rw [hz]
  rfl
theorem run_to8 (w : World) (a : Option Addr) (n c hi : Nat) (h2 : hi ≤ c) :
    (Instr.slice 27 (.slice a n c) none (some (.int .i64 (hi : Nat))) none).run Try.prog w = .ok (.slice (cutA a c 0 1) hi c) w := by
  have := run_slice_h (P := Try.prog) (w := w) (t := 27) a n c (by rw [elem8]; exact Try.underlying27) .i64 (hi : Nat) (by omega) (by omega)
  rw [this]
  have hz : (sizeOf (Try.prog.elem 27)).run Try.prog w = .ok 1 w := by rw [elem8]; exact Try.sizeOf5 w
  rw [hz]
  rfl
theorem cutA_zero (a : Option Addr) (c s : Nat) : cutA a c 0 s = a := by
  unfold cutA
  split
  · rfl
  · rw [Nat.zero_mul]
    cases a with
    | none => rfl
    | some p => simp [Addr.add]
theorem Sl.cut {w : World} {a : Option Addr} {n c lo hi : Nat} {bs : List Nat} (h : Sl w a n c bs) (h1 : lo ≤ hi) (h2 : hi ≤ n) : Sl w (cutA a c lo 1) (hi - lo) (c - lo) ((bs.take hi).drop lo) := by
  have hc := h.cap
  have hcm := h.capm
  refine ⟨by rw [List.length_drop, List.length_take, h.len]; omega, ⟨fun x hx => h.at_.1 x (List.mem_of_mem_take (List.mem_of_mem_drop hx)), fun i hi' => ?_⟩, by omega, by omega, fun e => ?_⟩
  · rw [List.length_drop, List.length_take, h.len] at hi'
    obtain ⟨p, rfl, q1, q2⟩ := h.at_.2 (lo + i) (by rw [h.len]; omega)
    refine ⟨p.add lo, ?_, ?_, ?_⟩
    · unfold cutA
      rw [if_neg (by omega)]
      simp
    · rw [add_of_add]; exact q1
    · rw [add_of_add, q2]
      congr 3
      rw [List.getD, List.getD, List.getElem?_drop, List.getElem?_take, if_pos (by omega)]
  · unfold cutA at e
    split at e
    · have := h.nil e; omega
    · cases a with
      | none => have := h.nil rfl; omega
      | some p => cases e
theorem Sl.from_ {w : World} {a : Option Addr} {n c lo : Nat} {bs : List Nat} (h : Sl w a n c bs) (h1 : lo ≤ n) : Sl w (cutA a c lo 1) (n - lo) (c - lo) (bs.drop lo) := by
  have := h.cut h1 (Nat.le_refl n)
  rwa [List.take_of_length_le (Nat.le_of_eq h.len)] at this
theorem Sl.to_ {w : World} {a : Option Addr} {n c hi : Nat} {bs : List Nat} (h : Sl w a n c bs) (h1 : hi ≤ n) : Sl w (cutA a c 0 1) hi c (bs.take hi) := by
  have := h.cut (lo := 0) (Nat.zero_le _) h1
  simpa using this
theorem elemA : Try.prog.elem 68 = 71 := by kernel_rfl
theorem run_cutA (w : World) (a : Option Addr) (n c lo hi : Nat) (h1 : lo ≤ hi) (h2 : hi ≤ c) :
    (Instr.slice 68 (.slice a n c) (some (.int .i64 (lo : Nat))) (some (.int .i64 (hi : Nat))) none).run Try.prog w = .ok (.slice (cutA a c lo 2) (hi - lo) (c - lo)) w := by
  have := run_slice_lh (P := Try.prog) (w := w) (t := 68) a n c (by rw [elemA]; exact Try.underlying68) .i64 .i64 (lo : Nat) (hi : Nat) (by omega) (by omega) (by omega)
  rw [this]
  have hz : (sizeOf (Try.prog.elem 68)).run Try.prog w = .ok 2 w := by rw [elemA]; exact Try.sizeOf71 w
  rw [hz]
  rfl
theorem run_fromA (w : World) (a : Option Addr) (n c lo : Nat) (h1 : lo ≤ n) :
    (Instr.slice 68 (.slice a n c) (some (.int .i64 (lo : Nat))) none none).run Try.prog w = .ok (.slice (cutA a c lo 2) (n - lo) (c - lo)) w := by
  have := run_slice_l (P := Try.prog) (w := w) (t := 68) a n c (by rw [elemA]; exact Try.underlying68) .i64 (lo : Nat) (by omega) (by omega)
  rw [this]
  have hz : (sizeOf (Try.prog.elem 68)).run Try.prog w = .ok 2 w := by rw [elemA]; exact Try.sizeOf71 w
  rw [hz]
  rfl
theorem run_toA (w : World) (a : Option Addr) (n c hi : Nat) (h2 : hi ≤ c) :
    (Instr.slice 68 (.slice a n c) none (some (.int .i64 (hi : Nat))) none).run Try.prog w = .ok (.slice (cutA a c 0 2) hi c) w := by
  have := run_slice_h (P := Try.prog) (w := w) (t := 68) a n c (by rw [elemA]; exact Try.underlying68) .i64 (hi : Nat) (by omega) (by omega)
  rw [this]
  have hz : (sizeOf (Try.prog.elem 68)).run Try.prog w = .ok 2 w := by rw [elemA]; exact Try.sizeOf71 w
  rw [hz]
  rfl

theorem elemK : Try.prog.elem 53 = 78 := by kernel_rfl
theorem run_cutK (w : World) (a : Option Addr) (n c lo hi : Nat) (h1 : lo ≤ hi) (h2 : hi ≤ c) :
    (Instr.slice 53 (.slice a n c) (some (.int .i64 (lo : Nat))) (some (.int .i64 (hi : Nat))) none).run Try.prog w = .ok (.slice (cutA a c lo 2) (hi - lo) (c - lo)) w := by
  have := run_slice_lh (P := Try.prog) (w := w) (t := 53) a n c (by rw [elemK]; exact Try.underlying53) .i64 .i64 (lo : Nat) (hi : Nat) (by omega) (by omega) (by omega)
  rw [this]
  have hz : (sizeOf (Try.prog.elem 53)).run Try.prog w = .ok 2 w := by rw [elemK]; exact Try.sizeOf78 w
  rw [hz]
  rfl
theorem run_fromK (w : World) (a : Option Addr) (n c lo : Nat) (h1 : lo ≤ n) :
    (Instr.slice 53 (.slice a n c) (some (.int .i64 (lo : Nat))) none none).run Try.prog w = .ok (.slice (cutA a c lo 2) (n - lo) (c - lo)) w := by
  have := run_slice_l (P := Try.prog) (w := w) (t := 53) a n c (by rw [elemK]; exact Try.underlying53) .i64 (lo : Nat) (by omega) (by omega)
  rw [this]
  have hz : (sizeOf (Try.prog.elem 53)).run Try.prog w = .ok 2 w := by rw [elemK]; exact Try.sizeOf78 w
  rw [hz]
  rfl
theorem run_toK (w : World) (a : Option Addr) (n c hi : Nat) (h2 : hi ≤ c) :
    (Instr.slice 53 (.slice a n c) none (some (.int .i64 (hi : Nat))) none).run Try.prog w = .ok (.slice (cutA a c 0 2) hi c) w := by
  have := run_slice_h (P := Try.prog) (w := w) (t := 53) a n c (by rw [elemK]; exact Try.underlying53) .i64 (hi : Nat) (by omega) (by omega)
  rw [this]
  have hz : (sizeOf (Try.prog.elem 53)).run Try.prog w = .ok 2 w := by rw [elemK]; exact Try.sizeOf78 w
  rw [hz]
  rfl
theorem Prs.cut {w : World} {a : Option Addr} {n c lo hi : Nat} {l : PL} (h : Prs w a n c l) (h1 : lo ≤ hi) (h2 : hi ≤ n) : Prs w (cutA a c lo 2) (hi - lo) (c - lo) ((l.take hi).drop lo) := by
  have hc := h.cap
  have hcm := h.capm
  refine ⟨by rw [List.length_drop, List.length_take, h.len]; omega, by omega, by omega, fun e => ?_, fun x hx => h.val x (List.mem_of_mem_take (List.mem_of_mem_drop hx)), fun i hi' => ?_⟩
  · unfold cutA at e
    split at e
    · have := h.nil e; omega
    · cases a with
      | none => have := h.nil rfl; omega
      | some p => cases e
  · rw [List.length_drop, List.length_take, h.len] at hi'
    obtain ⟨p, rfl, q⟩ := h.at_ (lo + i) (by rw [h.len]; omega)
    refine ⟨p.add (lo * 2), ?_, ?_⟩
    · unfold cutA
      rw [if_neg (by omega)]
      rfl
    · have e1 : (p.add (lo * 2)).add (i * 2) = p.add ((lo + i) * 2) := by rw [add_of_add]; congr 1; omega
      have e2 : ((l.take hi).drop lo).getD i ([], 0) = l.getD (lo + i) ([], 0) := by
        rw [List.getD, List.getD, List.getElem?_drop, List.getElem?_take, if_pos (by omega)]
      unfold PrC
      rw [e1, e2]
      exact q
theorem Prs.from_ {w : World} {a : Option Addr} {n c lo : Nat} {l : PL} (h : Prs w a n c l) (h1 : lo ≤ n) : Prs w (cutA a c lo 2) (n - lo) (c - lo) (l.drop lo) := by
  have := h.cut h1 (Nat.le_refl n)
  rwa [List.take_of_length_le (Nat.le_of_eq h.len)] at this
theorem Prs.to_ {w : World} {a : Option Addr} {n c hi : Nat} {l : PL} (h : Prs w a n c l) (h1 : hi ≤ n) : Prs w (cutA a c 0 2) hi c (l.take hi) := by
  have := h.cut (lo := 0) (Nat.zero_le _) h1
  simpa using this
end Go.Proofs.Ytkonbldjmcccmaa
/- Trees in memory: among nodes that stand side by side. -/
namespace Go.Proofs.Ytkonbldjmcccmaa
open Go.RowKit
/-- the nodes of a tree stand among P, from place lo on -/
def TreeIn (P : List NP) (lo : Nat) : Tr → Value → KV → Prop
  | .nil, _, l => l = []
  | .kid b t r, v, l => ∃ x l', l = (b, x) :: l' ∧ TreeIn P lo t x [] ∧ TreeIn P lo r v l'
  | .node bs val has leaf ks, v, _ => ∃ (i : Nat) (p : NP), lo ≤ i ∧ P[i]? = some p ∧ v = .pointer (some ⟨p.n, 0, none⟩) ∧ p.bs = bs ∧ p.val = val ∧ p.has = has ∧ p.kk.isNone = leaf ∧ TreeIn P lo ks (.pointer none) (p.kk.getD [])
section
variable {P P' : List NP} {lo lo' : Nat}
theorem TreeIn.keep (hP : ∀ i p, lo' ≤ i → P[i]? = some p → P'[i]? = some p) (hlo : lo' ≤ lo) : ∀ {t : Tr} {v : Value} {l : KV}, TreeIn P lo t v l → TreeIn P' lo' t v l
  | .nil, _, _, h => h
  | .kid b t r, v, l, ⟨x, l', h1, h2, h3⟩ => ⟨x, l', h1, TreeIn.keep hP hlo h2, TreeIn.keep hP hlo h3⟩
  | .node bs val has leaf ks, v, l, ⟨i, p, h0, h1, h2, h3, h4, h5, h6, h7⟩ => ⟨i, p, Nat.le_trans hlo h0, hP i p (Nat.le_trans hlo h0) h1, h2, h3, h4, h5, h6, TreeIn.keep hP hlo h7⟩
theorem TreeIn.low {t : Tr} {v : Value} {l : KV} (h : TreeIn P lo t v l) (hlo : lo' ≤ lo) : TreeIn P lo' t v l := h.keep (fun _ _ _ h => h) hlo
theorem TreeIn.more {t : Tr} {v : Value} {l : KV} (h : TreeIn P lo t v l) (Q : List NP) : TreeIn (P ++ Q) lo t v l :=
  h.keep (fun i p _ hp => by rw [List.getElem?_append_left (List.getElem?_eq_some_iff.1 hp).1]; exact hp) (Nat.le_refl _)
theorem TreeIn.setOut {t : Tr} {v : Value} {l : KV} (h : TreeIn P lo t v l) {i : Nat} (hi : i < lo) (q : NP) : TreeIn (P.set i q) lo t v l :=
  h.keep (fun j p hj hp => by rw [List.getElem?_set_ne (by omega)]; exact hp) (Nat.le_refl _)
theorem TreeIn.keys : ∀ {L : List (Nat × Tr)} {v : Value} {l : KV}, TreeIn P lo (ofL L) v l → l.map (·.1) = L.map (·.1)
  | [], _, l, h => by have h : l = [] := h; subst h; rfl
  | x :: r, v, l, ⟨y, l', h1, h2, h3⟩ => by subst h1; simp [TreeIn.keys h3]
theorem TreeIn.snoc : ∀ {L : List (Nat × Tr)} {v : Value} {l : KV}, TreeIn P lo (ofL L) v l → ∀ {b : Nat} {t : Tr} {x : Value}, TreeIn P lo t x [] → TreeIn P lo (ofL (L ++ [(b, t)])) v (l ++ [(b, x)])
  | [], _, l, h, b, t, x, ht => by
    have h : l = [] := h
    subst h
    exact ⟨x, [], rfl, ht, rfl⟩
  | y :: r, v, l, ⟨z, l', h1, h2, h3⟩, b, t, x, ht => by
    subst h1
    exact ⟨z, l' ++ [(b, x)], rfl, h2, TreeIn.snoc h3 ht⟩
theorem TreeIn.isN {t : Tr} {v : Value} {l : KV} (h : TreeIn P lo t v l) (hn : IsN t) : ∃ k, v = .pointer (some ⟨k, 0, none⟩) := by
  cases t with
  | nil => exact hn.elim
  | kid b t r => exact hn.elim
  | node bs val has leaf ks => obtain ⟨i, p, _, _, h2, _⟩ := h; exact ⟨_, h2⟩
end
theorem kins_end {l : KV} {b : Nat} {x : Value} (h : ∀ c ∈ l.map (·.1), c < b) : kins l b x = l ++ [(b, x)] := by
  unfold kins
  have h1 : l.filter (fun p => decide (p.1 < b)) = l := by
    rw [List.filter_eq_self]
    intro p hp
    simpa using h p.1 (List.mem_map_of_mem hp)
  have h2 : l.filter (fun p => decide (b < p.1)) = [] := by
    rw [List.filter_eq_nil_iff]
    intro p hp
    have := h p.1 (List.mem_map_of_mem hp)
    simp; omega
  rw [h1, h2]
/-! Canonical trees. -/
def Can : Tr → Prop
  | .nil => True
  | .kid _ t r => Can t ∧ Can r
  | .node _ _ has leaf ks => Can ks ∧ (leaf = false → 2 ≤ (if has then 1 else 0) + (chain ks).length)
theorem can_ofL (L : List (Nat × Tr)) : Can (ofL L) ↔ ∀ x ∈ L, Can x.2 := by
  induction L with
  | nil => simp [ofL, Can]
  | cons x r ih => simp [ofL, Can, ih]
/-! Pairs by their first byte. -/
theorem psrt_tail {x : List Nat × Int} {l : PL} (h : PSrt (x :: l)) : PSrt l := (List.pairwise_cons.1 h).2
/-- the first ones that go on with a byte, and the others -/
theorem split_head (b : Nat) : ∀ (r : PL), PSrt r → (∀ x ∈ r, ∃ c s, x.1 = c :: s ∧ b ≤ c) →
    ∃ g r2, r = pre [b] g ++ r2 ∧ (∀ x ∈ r2, ∃ c s, x.1 = c :: s ∧ b < c)
  | [], _, _ => ⟨[], [], rfl, by simp⟩
  | x :: r, h, hh => by
    obtain ⟨c, s, e, hb⟩ := hh x (by simp)
    by_cases hc : c = b
    · subst hc
      obtain ⟨g, r2, h1, h2⟩ := split_head c r (psrt_tail h) (fun y hy => hh y (by simp [hy]))
      exact ⟨(s, x.2) :: g, r2, by rw [h1]; simp [pre, ← e], h2⟩
    · refine ⟨[], x :: r, rfl, fun y hy => ?_⟩
      rcases List.mem_cons.1 hy with rfl | hy
      · exact ⟨c, s, e, by omega⟩
      · obtain ⟨d, s2, e2, hd⟩ := hh y (by simp [hy])
        refine ⟨d, s2, e2, ?_⟩
        have this : slt x.1 y.1 := (List.pairwise_cons.1 h).1 y.1 (List.mem_map_of_mem hy)
        rw [e, e2, slt_cc] at this
        omega
/-- what stands between two that begin so begins so -/
theorem prefix_mid : ∀ (p : List Nat) {a m b : List Nat}, (a = m ∨ slt a m) → (m = b ∨ slt m b) → p <+: a → p <+: b → p <+: m
  | [], _, m, _, _, _, _, _ => List.nil_prefix
  | x :: p, a, m, b, h1, h2, ⟨a', ha⟩, ⟨b', hb⟩ => by
    subst ha; subst hb
    rcases h1 with rfl | h1
    · exact ⟨a', rfl⟩
    · rcases h2 with rfl | h2
      · exact ⟨b', rfl⟩
      · cases m with
        | nil => exact absurd h1 (not_slt_nil _)
        | cons y m =>
          rw [List.cons_append, slt_cc] at h1 h2
          have e : x = y := by rcases h1 with h1 | ⟨h1, _⟩ <;> rcases h2 with h2 | ⟨h2, _⟩ <;> omega
          subst e
          have h1' : slt (p ++ a') m := by rcases h1 with h1 | ⟨_, h1⟩; omega; exact h1
          have h2' : slt m (p ++ b') := by rcases h2 with h2 | ⟨_, h2⟩; omega; exact h2
          exact List.cons_prefix_cons.2 ⟨rfl, prefix_mid p (Or.inr h1') (Or.inr h2') ⟨a', rfl⟩ ⟨b', rfl⟩⟩
def strip (n : Nat) (l : PL) : PL := l.map fun x => (x.1.drop n, x.2)
theorem pre_strip {p : List Nat} {l : PL} (h : ∀ x ∈ l, p <+: x.1) : l = pre p (strip p.length l) := by
  unfold pre strip
  rw [List.map_map]
  conv => lhs; rw [← List.map_id l]
  refine List.map_congr_left fun x hx => ?_
  obtain ⟨r, e⟩ := h x hx
  obtain ⟨x1, x2⟩ := x
  simp only at e
  subst e
  simp
def NoB : Nat → Prop := fun _ => False
theorem Mod.below_ {w w' : World} (h : Mod NoB w w') : Below w.heap.size w w' := h.belowOf (Nat.le_refl _) (fun _ e => e.elim)
theorem StoreP.below_ {w w' : World} {P : List NP} (h : StoreP NoB w w' P) : Below w.heap.size w w' := h.mod.below_
/-- nodes that were made behind others -/
theorem StoreP.join {X : Nat → Prop} {w0 w w' : World} {P Q : List NP} (h : StoreP X w0 w P) (k : StoreP NoB w w' Q) : StoreP X w0 w' (P ++ Q) := by
  have hb := k.below_
  have hsz := h.size
  obtain ⟨L, rfl, h0⟩ := h
  obtain ⟨M, rfl, k⟩ := k
  have h := h0.below hb
  have hlt : ∀ (i : Nat) (d : Nd), L[i]? = some d → (∀ j, d.W j → j < w.heap.size) ∧ ∀ g, d.bo = some g → g < w.heap.size := fun i d hd => ⟨fun j hj => (h0.here i d hd).Wlt j hj, fun g hg => NdIs.Rlt (h0.here i d hd) g hg⟩
  have key : ∀ (i : Nat) (d : Nd), (L ++ M)[i]? = some d → (L[i]? = some d) ∨ (L.length ≤ i ∧ M[i - L.length]? = some d) := fun i d hd => by
    by_cases hi : i < L.length
    · rw [List.getElem?_append_left hi] at hd; exact Or.inl hd
    · rw [List.getElem?_append_right (by omega)] at hd; exact Or.inr ⟨by omega, hd⟩
  refine ⟨L ++ M, by rw [List.map_append], fun i d hd => ?_, fun i d hd => ?_, fun i d hd => ?_, fun i d hd => ?_, fun i j a b ha hb' hij => ?_, fun i j a b ha hb' g hg => ?_, h.mod⟩
  · rcases key i d hd with q | ⟨_, q⟩
    · exact h.here i d q
    · exact k.here _ d q
  · rcases key i d hd with q | ⟨_, q⟩
    · exact h.fit i d q
    · exact k.fit _ d q
  · rcases key i d hd with q | ⟨_, q⟩
    · exact h.new i d q
    · exact fun j hj => Nat.le_trans hsz (k.new _ d q j hj)
  · rcases key i d hd with q | ⟨_, q⟩
    · exact h.gen i d q
    · exact fun j hj => Nat.le_trans hsz (k.gen _ d q j hj)
  · rcases key i a ha with q | ⟨e1, q⟩ <;> rcases key j b hb' with r | ⟨e2, r⟩
    · exact h.apart i j a b q r hij
    · exact fun x hx hy => by have := (hlt i a q).1 x hx; have := k.new _ b r x hy; omega
    · exact fun x hx hy => by have := (hlt j b r).1 x hy; have := k.new _ a q x hx; omega
    · exact k.apart _ _ a b q r (by omega)
  · rcases key i a ha with q | ⟨e1, q⟩ <;> rcases key j b hb' with r | ⟨e2, r⟩
    · exact h.read i j a b q r g hg
    · exact fun hy => by have := (hlt i a q).2 g hg; have := k.new _ b r g hy; omega
    · exact fun hy => by have := (hlt j b r).1 g hy; have := k.gen _ a q g hg; omega
    · exact k.read _ _ a b q r g hg
theorem StoreP.rebase {w w1 w' : World} {P : List NP} (h : StoreP NoB w1 w' P) (hb : Below w.heap.size w w1) : StoreP NoB w w' P := by
  have hs := hb.size
  obtain ⟨L, e, h⟩ := h
  exact ⟨L, e, h.here, h.fit, fun i d hd j hj => Nat.le_trans hs (h.new i d hd j hj), fun i d hd j hj => Nat.le_trans hs (h.gen i d hd j hj), h.apart, h.read, (Mod.of_below (S := NoB) hb).trans (h.mod.mono (fun _ _ e => e.elim))⟩
theorem TreeIn.shift (Q : List NP) {P : List NP} {lo : Nat} : ∀ {t : Tr} {v : Value} {l : KV}, TreeIn P lo t v l → TreeIn (Q ++ P) (Q.length + lo) t v l
  | .nil, _, _, h => h
  | .kid b t r, v, l, ⟨x, l', h1, h2, h3⟩ => ⟨x, l', h1, TreeIn.shift Q h2, TreeIn.shift Q h3⟩
  | .node bs val has leaf ks, v, l, ⟨i, p, h0, h1, h2, h3, h4, h5, h6, h7⟩ => ⟨Q.length + i, p, by omega, by rw [List.getElem?_append_right (by omega)]; simpa using h1, h2, h3, h4, h5, h6, TreeIn.shift Q h7⟩
end Go.Proofs.Ytkonbldjmcccmaa
/- canon's maker.tree: the canonical tree of pairs that rise. -/
namespace Go.Proofs.Ytkonbldjmcccmaa
open Go.RowKit
def trePost (l : PL) (w : World) (e : Ending) (w' : World) : Prop :=
  ∃ (t : Tr) (k : Nat) (Q : List NP), e = .returned (.pointer (some ⟨k, 0, none⟩)) ∧ StoreP NoB w w' Q ∧ TreeIn Q 0 t (.pointer (some ⟨k, 0, none⟩)) [] ∧ IsN t ∧ TOk t ∧ Can t ∧ tl t = l
theorem In8.of_sl {w : World} {a : Option Addr} {n c : Nat} {bs : List Nat} (h : Sl w a n c bs) (hn : n ≤ 140737488355328) : In8 w a n c bs := ⟨h.len, h.at_, hn, fun e => (h.nil e).1⟩
theorem leaf_made {w w2 : World} {a : Option Addr} {n c : Nat} {bs : List Nat} (h : Sl w2 a n c bs) (hn : n ≤ 140737488355328) (hb : Below w.heap.size w w2) (o v : Int) (hv : 0 ≤ v ∧ v < 18446744073709551616) :
    Calls Try.prog 43 #[.pointer none, .int .u64 o, .slice a n c, .int .u64 v] w2 (trePost [(bs, v)] w) := by
  refine (sp_leaf0 (StoreP.nil NoB (Mod.refl NoB w2)) (In8.of_sl h hn) o v).mono ?_
  rintro e w' ⟨k, rfl, ⟨h1, h2⟩, h3⟩
  refine ⟨.node bs v true true .nil, k, _, rfl, h1.rebase hb, ⟨0, _, Nat.le_refl _, rfl, rfl, rfl, rfl, rfl, rfl, rfl⟩, trivial, ⟨h.at_.1, hv.1, hv.2, by simp, fun _ => ⟨rfl, rfl⟩, trivial, trivial⟩, ⟨trivial, by simp⟩, by simp [tl]⟩
abbrev mkT : Nat := 166
/-- the maker's variable -/
abbrev boxW (w : World) (o : Int) : World := w.alloc (.cells #[.pointer none, .int .u64 o] mkT)
theorem box_cells (w : World) (o : Int) : (boxW w o).cell? ⟨w.heap.size, 0, none⟩ = some (.pointer none) ∧ (boxW w o).cell? ⟨w.heap.size, 1, none⟩ = some (.int .u64 o) ∧ Below w.heap.size w (boxW w o) ∧ (boxW w o).heap.size = w.heap.size + 1 := by
  have hb : (boxW w o).heap[w.heap.size]? = some (.cells [.pointer none, .int .u64 o].toArray mkT (0, 0)) := heap_alloc_new w _
  exact ⟨by rw [cell_of_blk hb]; rfl, by rw [cell_of_blk hb]; rfl, (Below.refl _ w).alloc (Nat.le_refl _) _, World.size_alloc _ _⟩
set_option maxHeartbeats 1000000 in
set_option maxRecDepth 100000 in
theorem tree_one (o : Int) (k : List Nat) (v : Int) (pfx : List Nat) (a : Option Addr) (c : Nat) (w : World) (h : Prs w a 1 c (pre pfx [(k, v)])) (hk : (pfx ++ k).length ≤ 65535) :
    Calls Try.prog 168 #[.agg #[.pointer none, .int .u64 o], .slice a 1 c, .int .i64 (pfx.length : Nat)] w (trePost [(k, v)] w) := by
  obtain ⟨p, rfl, q⟩ := h.at_ 0 (by simp)
  obtain ⟨a3, n3, c3, q1, q2, q3⟩ := q.cells
  have hv := h.val (pfx ++ k, v) (by simp [pre])
  have q1 : w.cell? p = some (.slice a3 n3 c3) := by rw [← Addr.add_zero' p]; simpa using q1
  have q2 : w.cell? ⟨p.block, p.off + 1, none⟩ = some (.int .u64 v) := by
    simp only [Nat.zero_mul, Addr.add_zero'] at q2
    exact q2
  have q3 : Sl w a3 n3 c3 (pfx ++ k) := q3
  obtain ⟨at_, hat⟩ : ∃ m, m = pfx.length := ⟨_, rfl⟩
  have hn3 := q3.len
  rw [List.length_append] at hk hn3
  have hc3 := q3.cap
  have hs := q3.from_ (lo := at_) (by omega)
  rw [hat, List.drop_left, ← hat] at hs
  have hcut : ∀ w, (Instr.slice 27 (.slice a3 n3 c3) (some (.int .i64 (at_ : Nat))) none none).run Try.prog w = .ok (.slice (cutA a3 c3 at_ 1) (n3 - at_) (c3 - at_)) w := fun w => run_from8 w a3 n3 c3 at_ (by omega)
  rw [← hat]
  have hL : Hid (∀ w2, Below w.heap.size w w2 → Calls Try.prog 43 #[.pointer none, .int .u64 o, .slice (cutA a3 c3 at_ 1) (n3 - at_) (c3 - at_), .int .u64 v] w2 (trePost [(k, v)] w)) := fun w2 hb => leaf_made (hs.below hb) (by omega) hb o v hv
  obtain ⟨b0, b1, hb, hz⟩ := box_cells w o
  have q4 := (hb.cell (cell_lt q1)).trans q1
  have q5 := (hb.cell (p := ⟨p.block, p.off + 1, none⟩) (cell_lt q2)).trans q2
  have HB := Lib.hid hb
  have i0 : (0 : Int) ≤ (at_ : Int) := by omega
  have i1 : (at_ : Int) ≤ (n3 : Int) := by omega
  generalize cutA a3 c3 at_ 1 = a4 at *
  generalize n3 - at_ = n4 at *
  generalize c3 - at_ = c4 at *
  clear h q hv q3 hat hn3 hk hc3 hs q1 q2 hb hz
  go_enter Try.func168, Try.ntmps168
  go_wp2_with fail
  change Code.wp _ _ _ _ (boxW w o)
  generalize boxW w o = wb at *
  go_still_tail 14, (by kernel_rfl)
  change wpList _ _ _ _ _ wb.drew
  go_wp2_with (go_at_call 43; refine (hL.out _ HB.out.drew).mono ?_; rintro e w3 ⟨t, k', Q, rfl, h1⟩; have h1 := Lib.hid h1)
  go_ret
  exact ⟨t, k', Q, rfl, h1.out⟩
end Go.Proofs.Ytkonbldjmcccmaa
