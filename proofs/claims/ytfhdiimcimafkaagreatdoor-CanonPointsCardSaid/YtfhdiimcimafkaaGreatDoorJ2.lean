/- Plain trees: pairs that rise, trees of parts; what is looked for in a tree is what its pairs have. No program; Meters: what is made is counted; A nil node: what it answers; bytes.Clone of bytes that came in, or were made; Nodes: what they are in memory; the calls that only read; Nodes: Kind, Occupants, Next, Prev, may, inner; Nodes: inner, SetVal, DropVal; Nodes: SetKid, DropKid; Nodes: writes that are refused; Nodes: Leaf; Nodes: DropVal where the owner may; Nodes: SetPart where the owner may; Nodes: Copy; Nodes side by side, made since a world w0; Nodes: Part; Nodes and a meter beside them; alive (spunyarnlaw12): a leaf that is another one's kid; A node whom nobody changes: what is asked of it, told by what it answers; Slices of pairs that came in, or were made; whether they are too many or too long; keys.Common, Cmp, Sorted, May, canon's check; bytes.Compare, bytes.HasPrefix; keys.Sorted, canon's check: pairs that rise, none too long; Cuts of slices, under one name: bytes and pairs; Trees in memory: among nodes that stand side by side; canon's maker.tree: the canonical tree of pairs that rise; The plain side of maker.tree: how the pairs part; what has been built so far; canon's maker.tree, walked whole; canon.Build where no meter counts; Slices that a call made itself, of things of several cells; append to them; pairs in such a slice; The law's tree: the document's pairs made the program's, and built. -/
import Derived.Test.YtfhdiimcimafkaaGreatDoorJ1
import Derived.Laws.LoneSync
import Derived.Lib.SliceRun
import Derived.Deep.WholeRow
import Derived.Laws.MakeOwn
import Derived.Laws.CopyOwn
import Derived.Lib.SmallJoins
import Derived.LaidEqlPtr
import Derived.Lib.Builder
import Derived.Lib.BytesEntry
import Derived.Shelf.Bytes.SlSmallAll
import Derived.Ground.NamesProg
import Derived.StillTailTactics
import Derived.Deep.RegionHeld3
import Derived.Deep.Cut
set_option linter.unusedVariables false
set_option linter.unusedSimpArgs false
/- Plain trees: pairs that rise, trees of parts; what is looked for in a tree is what its pairs have. No program. -/
namespace Go.Proofs.YtfhdiimcimafkaaGreatDoor
/-! The order of bytes. -/
theorem bcmp_nn : bcmp [] [] = 0 := rfl
theorem bcmp_nc (y : Nat) (ys : List Nat) : bcmp [] (y :: ys) = -1 := by simp [bcmp, lcp]
theorem bcmp_cn (x : Nat) (xs : List Nat) : bcmp (x :: xs) [] = 1 := by simp [bcmp, lcp]
theorem bcmp_same (x : Nat) (xs ys : List Nat) : bcmp (x :: xs) (x :: ys) = bcmp xs ys := by
  simp [bcmp, lcp]
theorem bcmp_lt {x y : Nat} (h : x < y) (xs ys : List Nat) : bcmp (x :: xs) (y :: ys) = -1 := by
  have : x ≠ y := by omega
  simp [bcmp, lcp, this, h]
theorem bcmp_gt {x y : Nat} (h : y < x) (xs ys : List Nat) : bcmp (x :: xs) (y :: ys) = 1 := by
  have h1 : x ≠ y := by omega
  have h2 : ¬ x < y := by omega
  simp [bcmp, lcp, h1, h2]
theorem bcmp_pre (p xs ys : List Nat) : bcmp (p ++ xs) (p ++ ys) = bcmp xs ys := by
  induction p with
  | nil => rfl
  | cons x p ih => simp only [List.cons_append, bcmp_same, ih]
/-- stands ahead -/
def slt (s t : List Nat) : Prop := bcmp s t = -1
theorem slt_nc (y : Nat) (ys : List Nat) : slt [] (y :: ys) := bcmp_nc y ys
theorem not_slt_nil (s : List Nat) : ¬ slt s [] := by
  cases s with
  | nil => simp [slt, bcmp_nn]
  | cons x s => simp [slt, bcmp_cn]
theorem slt_cons (x : Nat) (s t : List Nat) : slt (x :: s) (x :: t) ↔ slt s t := by simp [slt, bcmp_same]
theorem slt_pre (p s t : List Nat) : slt (p ++ s) (p ++ t) ↔ slt s t := by simp [slt, bcmp_pre]
theorem slt_lt {x y : Nat} (h : x < y) (s t : List Nat) : slt (x :: s) (y :: t) := bcmp_lt h s t
theorem slt_cc {x y : Nat} {s t : List Nat} : slt (x :: s) (y :: t) ↔ x < y ∨ x = y ∧ slt s t := by
  rcases Nat.lt_trichotomy x y with h | h | h
  · simp [slt_lt h, h]
  · subst h; simp [slt_cons]
  · have h1 : ¬ x < y := by omega
    have h2 : x ≠ y := by omega
    simp [slt, bcmp_gt h, h1, h2]
theorem slt_irrefl (s : List Nat) : ¬ slt s s := by
  have := (bcmp_zero s s).2 rfl
  simp [slt, this]
theorem slt_trans : ∀ {s t u : List Nat}, slt s t → slt t u → slt s u
  | [], _, [], _, h => absurd h (not_slt_nil _)
  | [], _, _ :: _, _, _ => slt_nc _ _
  | _ :: _, [], _, h, _ => absurd h (not_slt_nil _)
  | _ :: _, _ :: _, [], _, h => absurd h (not_slt_nil _)
  | x :: s, y :: t, z :: u, h1, h2 => by
    rw [slt_cc] at h1 h2 ⊢
    rcases h1 with h1 | ⟨rfl, h1⟩
    · rcases h2 with h2 | ⟨rfl, h2⟩
      · exact Or.inl (by omega)
      · exact Or.inl h1
    · rcases h2 with h2 | ⟨rfl, h2⟩
      · exact Or.inl h2
      · exact Or.inr ⟨rfl, slt_trans h1 h2⟩
theorem slt_tri : ∀ (s t : List Nat), slt s t ∨ s = t ∨ slt t s
  | [], [] => Or.inr (Or.inl rfl)
  | [], _ :: _ => Or.inl (slt_nc _ _)
  | _ :: _, [] => Or.inr (Or.inr (slt_nc _ _))
  | x :: s, y :: t => by
    simp only [slt_cc, List.cons.injEq]
    rcases Nat.lt_trichotomy x y with h | rfl | h
    · exact Or.inl (Or.inl h)
    · rcases slt_tri s t with h | rfl | h
      · exact Or.inl (Or.inr ⟨rfl, h⟩)
      · exact Or.inr (Or.inl ⟨rfl, rfl⟩)
      · exact Or.inr (Or.inr (Or.inr ⟨rfl, h⟩))
    · exact Or.inr (Or.inr (Or.inl h))
theorem bcmp_three (s t : List Nat) : (slt s t ∧ bcmp s t = -1) ∨ (s = t ∧ bcmp s t = 0) ∨ (slt t s ∧ bcmp s t = 1) := by
  have key : ∀ s t : List Nat, slt t s → bcmp s t = 1 := by
    intro s t h
    induction s generalizing t with
    | nil => exact absurd h (not_slt_nil _)
    | cons x s ih =>
      cases t with
      | nil => exact bcmp_cn _ _
      | cons y t =>
        rcases slt_cc.1 h with h2 | ⟨e, h2⟩
        · exact bcmp_gt h2 _ _
        · subst e; rw [bcmp_same]; exact ih t h2
  rcases slt_tri s t with h | h | h
  · exact Or.inl ⟨h, h⟩
  · exact Or.inr (Or.inl ⟨h, (bcmp_zero _ _).2 h⟩)
  · exact Or.inr (Or.inr ⟨h, key s t h⟩)
theorem lcp_pre (p s t : List Nat) : lcp (p ++ s) (p ++ t) = p.length + lcp s t := by
  induction p with
  | nil => simp
  | cons x p ih => simp [lcp, ih]; omega
theorem lcp_isPrefix (k p : List Nat) : (lcp k p = p.length) ↔ p <+: k := by
  induction p generalizing k with
  | nil => cases k <;> simp [lcp]
  | cons x p ih =>
    cases k with
    | nil => simp [lcp]
    | cons y k =>
      unfold lcp
      by_cases e : y = x
      · subst e; simp [ih, List.cons_prefix_cons]
      · have e' : ¬ x = y := fun h => e h.symm
        simp [e, e', List.cons_prefix_cons]
/-- both begin with the first lcp bytes -/
theorem lcp_take (s t : List Nat) : s.take (lcp s t) = t.take (lcp s t) := by
  induction s generalizing t with
  | nil => simp [lcp]
  | cons x s ih =>
    cases t with
    | nil => simp [lcp]
    | cons y t =>
      unfold lcp
      split
      · rename_i h; subst h; simp [ih]
      · simp
/-! Pairs. -/
abbrev PL := List (List Nat × Int)
def PSrt (l : PL) : Prop := (l.map (·.1)).Pairwise slt
def plook (l : PL) (k : List Nat) : Option Int := (l.find? (fun p => p.1 == k)).map (·.2)
/-- bytes put ahead of every key -/
def pre (p : List Nat) (l : PL) : PL := l.map fun x => (p ++ x.1, x.2)
@[simp] theorem pre_nil (p : List Nat) : pre p [] = [] := rfl
theorem pre_append (p : List Nat) (l m : PL) : pre p (l ++ m) = pre p l ++ pre p m := by simp [pre]
theorem pre_pre (p q : List Nat) (l : PL) : pre p (pre q l) = pre (p ++ q) l := by simp [pre, Function.comp_def]
@[simp] theorem pre_none (l : PL) : pre [] l = l := by simp [pre]
@[simp] theorem pre_length (p : List Nat) (l : PL) : (pre p l).length = l.length := by simp [pre]
theorem plook_append (l m : PL) (k : List Nat) : plook (l ++ m) k = (plook l k).or (plook m k) := by
  unfold plook
  rw [List.find?_append]
  cases List.find? (fun p => p.1 == k) l <;> simp
theorem plook_none {l : PL} {k : List Nat} (h : ∀ p ∈ l, p.1 ≠ k) : plook l k = none := by
  unfold plook
  have : l.find? (fun p => p.1 == k) = none := by
    rw [List.find?_eq_none]
    intro p hp
    simpa using h p hp
  rw [this]; rfl
theorem plook_pre (p : List Nat) (l : PL) (k : List Nat) : plook (pre p l) k = if p <+: k then plook l (k.drop p.length) else none := by
  split
  · rename_i h
    obtain ⟨r, rfl⟩ := h
    unfold plook pre
    rw [List.find?_map]
    have : ((fun x : List Nat × Int => x.1 == p ++ r) ∘ fun x : List Nat × Int => (p ++ x.1, x.2)) = fun x => x.1 == r := by
      funext x
      rw [Bool.eq_iff_iff]
      simp
    simp [this, Function.comp_def]
  · rename_i h
    refine plook_none fun x hx => ?_
    obtain ⟨y, hy, rfl⟩ := List.mem_map.1 hx
    rintro rfl
    exact h ⟨_, rfl⟩
theorem psrt_pre {p : List Nat} {l : PL} : PSrt (pre p l) ↔ PSrt l := by
  unfold PSrt pre
  rw [List.map_map, List.pairwise_map, List.pairwise_map]
  simp only [Function.comp_def, slt_pre]
theorem psrt_append {l m : PL} : PSrt (l ++ m) ↔ PSrt l ∧ PSrt m ∧ ∀ a ∈ l, ∀ b ∈ m, slt a.1 b.1 := by
  unfold PSrt
  rw [List.map_append, List.pairwise_append]
  simp only [List.mem_map, forall_exists_index, and_imp, forall_apply_eq_imp_iff₂]
/-! Trees: the kids of a node hang behind it in a row. -/
inductive Tr where
  | nil : Tr
  | kid (b : Nat) (t r : Tr) : Tr
  | node (bs : List Nat) (val : Int) (has leaf : Bool) (ks : Tr) : Tr
def IsN : Tr → Prop
  | .node .. => True
  | _ => False
def IsK : Tr → Prop
  | .node .. => False
  | _ => True
/-- a row of kids begins behind a byte -/
def From (b : Nat) : Tr → Prop
  | .kid c _ _ => b < c
  | _ => True
def TOk : Tr → Prop
  | .nil => True
  | .kid b t r => b < 256 ∧ IsN t ∧ TOk t ∧ IsK r ∧ TOk r ∧ From b r
  | .node bs v has leaf ks => (∀ x ∈ bs, x < 256) ∧ 0 ≤ v ∧ v < 18446744073709551616 ∧ (has = false → v = 0) ∧ (leaf = true → has = true ∧ ks = .nil) ∧ IsK ks ∧ TOk ks
def tl : Tr → PL
  | .nil => []
  | .kid b t r => pre [b] (tl t) ++ tl r
  | .node bs v has _ ks => (if has then [(bs, v)] else []) ++ pre bs (tl ks)
def tget : Tr → List Nat → Option Int
  | .nil, _ => none
  | .kid b t r, k => match k with
    | [] => none
    | c :: k' => if b = c then tget t k' else tget r k
  | .node bs v has _ ks, k => if bs <+: k then (if k.drop bs.length = [] then (if has then some v else none) else tget ks (k.drop bs.length)) else none
theorem tl_from : ∀ (r : Tr) (b : Nat), IsK r → TOk r → From b r → ∀ p ∈ tl r, ∃ c s, p.1 = c :: s ∧ b < c
  | .nil, _, _, _, _, p, hp => by simp [tl] at hp
  | .node .., _, h, _, _, _, _ => h.elim
  | .kid c t r, b, _, ⟨_, _, _, h4, h5, h6⟩, hb, p, hp => by
    have hb : b < c := hb
    rcases List.mem_append.1 hp with hp | hp
    · obtain ⟨q, hq, rfl⟩ := List.mem_map.1 hp
      exact ⟨c, q.1, rfl, hb⟩
    · obtain ⟨d, s, h1, h2⟩ := tl_from r c h4 h5 h6 p hp
      exact ⟨d, s, h1, by omega⟩
theorem tl_heads : ∀ (r : Tr), IsK r → TOk r → ∀ p ∈ tl r, ∃ c s, p.1 = c :: s ∧ c < 256
  | .nil, _, _, p, hp => by simp [tl] at hp
  | .node .., h, _, _, _ => h.elim
  | .kid c t r, _, ⟨h1, _, _, h4, h5, h6⟩, p, hp => by
    rcases List.mem_append.1 hp with hp | hp
    · obtain ⟨q, hq, rfl⟩ := List.mem_map.1 hp
      exact ⟨c, q.1, rfl, h1⟩
    · exact tl_heads r h4 h5 p hp
theorem tget_look : ∀ (t : Tr) (k : List Nat), TOk t → tget t k = plook (tl t) k
  | .nil, k, _ => rfl
  | .kid b t r, k, ⟨h1, h2, h3, h4, h5, h6⟩ => by
    have hf := tl_from r b h4 h5 h6
    unfold tget tl
    rw [plook_append, plook_pre]
    cases k with
    | nil =>
      have : plook (tl r) [] = none := plook_none fun p hp => by
        obtain ⟨c, s, e, _⟩ := hf p hp
        rw [e]; simp
      simp [this]
    | cons c k =>
      by_cases e : b = c
      · subst e
        have : plook (tl r) (b :: k) = none := plook_none fun p hp => by
          obtain ⟨c, s, e, hc⟩ := hf p hp
          rw [e]
          intro q
          have := (List.cons.inj q).1
          omega
        simp [this, tget_look t k h3]
      · simp [e, tget_look r (c :: k) h5, List.cons_prefix_cons]
  | .node bs v has leaf ks, k, ⟨h1, h2, h3, h4, h5, h6, h7⟩ => by
    unfold tget tl
    rw [plook_append, plook_pre]
    by_cases e : bs <+: k
    · obtain ⟨r, rfl⟩ := e
      have hh := tl_heads ks h6 h7
      simp only [List.prefix_append, if_true, List.drop_left]
      by_cases er : r = []
      · subst er
        have : plook (tl ks) [] = none := plook_none fun p hp => by
          obtain ⟨c, s, e, _⟩ := hh p hp
          rw [e]; simp
        simp only [if_true, this]
        cases has <;> simp [plook]
      · have : plook (if has = true then [(bs, v)] else []) (bs ++ r) = none := plook_none fun p hp => by
          cases has
          · simp at hp
          · simp at hp; subst hp; simpa using er
        simp [er, this, tget_look ks r h7]
    · have : plook (if has = true then [(bs, v)] else []) k = none := plook_none fun p hp => by
        cases has
        · simp at hp
        · simp at hp; subst hp; rintro rfl; exact e (List.prefix_refl _)
      simp [e, this]
theorem tl_srt : ∀ (t : Tr), TOk t → PSrt (tl t)
  | .nil, _ => List.Pairwise.nil
  | .kid b t r, ⟨h1, h2, h3, h4, h5, h6⟩ => by
    have hf := tl_from r b h4 h5 h6
    unfold tl
    refine psrt_append.2 ⟨psrt_pre.2 (tl_srt t h3), tl_srt r h5, fun a ha c hc => ?_⟩
    obtain ⟨q, hq, rfl⟩ := List.mem_map.1 ha
    obtain ⟨d, s, e, hd⟩ := hf c hc
    rw [e]
    exact slt_lt hd _ _
  | .node bs v has leaf ks, ⟨h1, h2, h3, h4, h5, h6, h7⟩ => by
    have hh := tl_heads ks h6 h7
    unfold tl
    refine psrt_append.2 ⟨?_, psrt_pre.2 (tl_srt ks h7), fun a ha c hc => ?_⟩
    · cases has
      · exact List.Pairwise.nil
      · exact List.pairwise_singleton _ _
    · cases has
      · simp at ha
      · simp at ha
        subst ha
        obtain ⟨q, hq, rfl⟩ := List.mem_map.1 hc
        obtain ⟨d, s, e, _⟩ := hh q hq
        have := (slt_pre bs [] (d :: s)).2 (slt_nc _ _)
        rw [e]
        simpa using this
/-- rows of kids, one by one -/
def ofL : List (Nat × Tr) → Tr
  | [] => .nil
  | x :: r => .kid x.1 x.2 (ofL r)
def chain : Tr → List (Nat × Tr)
  | .kid b t r => (b, t) :: chain r
  | _ => []
@[simp] theorem chain_ofL (L : List (Nat × Tr)) : chain (ofL L) = L := by
  induction L with
  | nil => rfl
  | cons x r ih => simp [ofL, chain, ih]
theorem ofL_chain : ∀ (t : Tr), IsK t → TOk t → ofL (chain t) = t
  | .nil, _, _ => rfl
  | .kid b t r, _, ⟨_, _, _, h4, h5, _⟩ => by simp [chain, ofL, ofL_chain r h4 h5]
  | .node .., h, _ => h.elim
theorem isK_ofL (L : List (Nat × Tr)) : IsK (ofL L) := by cases L <;> trivial
theorem tl_ofL (L : List (Nat × Tr)) : tl (ofL L) = L.flatMap fun x => pre [x.1] (tl x.2) := by
  induction L with
  | nil => rfl
  | cons x r ih => simp [ofL, tl, ih]
theorem tok_ofL (L : List (Nat × Tr)) : TOk (ofL L) ↔ (∀ x ∈ L, x.1 < 256 ∧ IsN x.2 ∧ TOk x.2) ∧ (L.map (·.1)).Pairwise (· < ·) := by
  induction L with
  | nil => simp [ofL, TOk]
  | cons x r ih =>
    simp only [ofL, TOk, ih, isK_ofL, true_and, List.mem_cons, forall_eq_or_imp, List.map_cons, List.pairwise_cons]
    constructor
    · rintro ⟨h1, h2, h3, ⟨h4, h5⟩, h6⟩
      refine ⟨⟨⟨h1, h2, h3⟩, h4⟩, ?_, h5⟩
      intro c hc
      cases r with
      | nil => simp at hc
      | cons y r =>
        have h6 : x.1 < y.1 := h6
        simp only [List.map_cons, List.mem_cons] at hc
        rcases hc with rfl | hc
        · exact h6
        · exact Nat.lt_trans h6 ((List.pairwise_cons.1 h5).1 c hc)
    · rintro ⟨⟨⟨h1, h2, h3⟩, h4⟩, h5, h6⟩
      refine ⟨h1, h2, h3, ⟨h4, h6⟩, ?_⟩
      cases r with
      | nil => trivial
      | cons y r => exact h5 y.1 (by simp)
end Go.Proofs.YtfhdiimcimafkaaGreatDoor
/- Meters: what is made is counted. -/
namespace Go.Proofs.YtfhdiimcimafkaaGreatDoor
open Go.RowKit
/-- Made where the meter is nobody's -/
theorem made_nil (n : Int) (w : World) : Calls Tryz.prog 74 #[.pointer none, .int .i64 n] w fun e w' => e = .returned (.tuple #[]) ∧ w = w' := by
  go_enter Tryz.func74, Tryz.ntmps74
  go_wp2_with fail
  go_end0
  exact ⟨rfl, rfl⟩
theorem add64 (w : World) (b o : Nat) (x y : Int) (hc : w.cell? ⟨b, o, none⟩ = some (.int .i64 x)) (hz : w.frozen? ⟨b, o, none⟩ = false) (hs : IntKind.i64.wrap (x + y) = x + y) :
    Calls Tryz.prog 93 #[.pointer (some ⟨b, o, none⟩), .int .i64 y] w fun e w' => e = .returned (.int .i64 (x + y)) ∧ w' = w.setCell ⟨b, o, none⟩ (.int .i64 (x + y)) := by
  have hadd := run_call_add (P := Tryz.prog) Tryz.func111 (by kernel_rfl) (by kernel_rfl) (by kernel_rfl) .i64 (by kernel_rfl) (y := y) (s := x + y) hc hz (by simp [go_sem, hs])
  clear hs
  go_enter Tryz.func93, Tryz.ntmps93
  go_wp2_with fail
  go_ret
  exact ⟨rfl, rfl⟩
theorem load64 (w : World) (b o : Nat) (x : Int) (hc : w.cell? ⟨b, o, none⟩ = some (.int .i64 x)) :
    Calls Tryz.prog 58 #[.pointer (some ⟨b, o, none⟩)] w fun e w' => e = .returned (.int .i64 x) ∧ w = w' := by
  have hadd := run_call_load (P := Tryz.prog) Tryz.func80 (by kernel_rfl) (by kernel_rfl) (by kernel_rfl) .i64 (by kernel_rfl) hc
  go_enter Tryz.func58, Tryz.ntmps58
  go_wp2_with fail
  go_ret
  exact ⟨rfl, rfl⟩
theorem made_one (w : World) (b o : Nat) (x : Int) (hc : w.cell? ⟨b, o, none⟩ = some (.int .i64 x)) (hz : w.frozen? ⟨b, o, none⟩ = false) (hs : IntKind.i64.wrap (x + 1) = x + 1) :
    Calls Tryz.prog 74 #[.pointer (some ⟨b, o, none⟩), .int .i64 1] w fun e w' => e = .returned (.tuple #[]) ∧ w' = w.setCell ⟨b, o, none⟩ (.int .i64 (x + 1)) := by
  have ha := Lib.hid (add64 w b o x 1 hc hz hs)
  clear hc hz hs
  go_enter Tryz.func74, Tryz.ntmps74
  go_wp2_with (go_at_call 93; refine ha.out.mono ?_; rintro e w' ⟨rfl, rfl⟩)
  go_end0
  exact ⟨rfl, rfl⟩
theorem count_is (w : World) (b o : Nat) (x : Int) (hc : w.cell? ⟨b, o, none⟩ = some (.int .i64 x)) :
    Calls Tryz.prog 28 #[.pointer (some ⟨b, o, none⟩)] w fun e w' => e = .returned (.int .i64 x) ∧ w = w' := by
  have ha := Lib.hid (load64 w b o x hc)
  clear hc
  go_enter Tryz.func28, Tryz.ntmps28
  go_wp2_with (go_at_call 58; refine ha.out.mono ?_; rintro e w' ⟨rfl, rfl⟩)
  go_ret
  exact ⟨rfl, rfl⟩
end Go.Proofs.YtfhdiimcimafkaaGreatDoor
/- A nil node: what it answers. -/
namespace Go.Proofs.YtfhdiimcimafkaaGreatDoor
open Go.RowKit
theorem nn_may (o : Int) (w : World) : Calls Tryz.prog 76 #[.pointer none, .int .u64 o] w fun e w' => e = .returned (.int .i64 2) ∧ w = w' := by
  go_enter Tryz.func76, Tryz.ntmps76
  go_wp2_with fail
  go_ret
  exact ⟨rfl, rfl⟩
theorem nn_inner (o : Int) (w : World) : Calls Tryz.prog 77 #[.pointer none, .int .u64 o] w fun e w' => e = .returned (.int .i64 2) ∧ w = w' := by
  go_enter Tryz.func77, Tryz.ntmps77
  go_wp2_with (go_at_call 76; refine (nn_may _ _).mono ?_; rintro e w' ⟨rfl, rfl⟩)
  go_ret
  exact ⟨rfl, rfl⟩
theorem nn_val (w : World) : Calls Tryz.prog 37 #[.pointer none] w fun e w' => e = .returned (.tuple #[.int .u64 0, .bool false]) ∧ w = w' := by
  go_enter Tryz.func37, Tryz.ntmps37
  go_wp2_with fail
  go_ret2
  exact ⟨rfl, rfl⟩
theorem nn_part (w : World) : Calls Tryz.prog 63 #[.pointer none] w fun e w' => e = .returned (.slice none 0 0) ∧ w = w' := by
  go_enter Tryz.func63, Tryz.ntmps63
  go_wp2_with fail
  go_ret
  exact ⟨rfl, rfl⟩
theorem nn_len (w : World) : Calls Tryz.prog 72 #[.pointer none] w fun e w' => e = .returned (.int .i64 0) ∧ w = w' := by
  go_enter Tryz.func72, Tryz.ntmps72
  go_wp2_with fail
  go_ret
  exact ⟨rfl, rfl⟩
theorem nn_kind (w : World) : Calls Tryz.prog 36 #[.pointer none] w fun e w' => e = .returned (.int .i64 0) ∧ w = w' := by
  go_enter Tryz.func36, Tryz.ntmps36
  go_wp2_with fail
  go_ret
  exact ⟨rfl, rfl⟩
theorem nn_occ (w : World) : Calls Tryz.prog 45 #[.pointer none] w fun e w' => e = .returned (.int .i64 0) ∧ w = w' := by
  go_enter Tryz.func45, Tryz.ntmps45
  go_wp2_with (go_at_call 72; refine (nn_len _).mono ?_; rintro e w' ⟨rfl, rfl⟩)
  go_ret
  exact ⟨rfl, rfl⟩
theorem nn_next (f : Int) (w : World) : Calls Tryz.prog 47 #[.pointer none, .int .i64 f] w fun e w' => e = .returned (.tuple #[.int .u8 0, .pointer none]) ∧ w = w' := by
  go_enter Tryz.func47, Tryz.ntmps47
  go_wp2_with fail
  go_ret2
  exact ⟨rfl, rfl⟩
theorem nn_setval (o v : Int) (w : World) : Calls Tryz.prog 52 #[.pointer none, .int .u64 o, .int .u64 v] w fun e w' => e = .returned (.int .i64 2) ∧ w = w' := by
  go_enter Tryz.func52, Tryz.ntmps52
  go_wp2_with (go_at_call 76; refine (nn_may _ _).mono ?_; rintro e w' ⟨rfl, rfl⟩)
  go_ret
  exact ⟨rfl, rfl⟩
theorem nn_setkid (o : Int) (b : Int) (k : Option Addr) (w : World) : Calls Tryz.prog 53 #[.pointer none, .int .u64 o, .int .u8 b, .pointer k] w fun e w' => e = .returned (.int .i64 2) ∧ w = w' := by
  go_enter Tryz.func53, Tryz.ntmps53
  go_wp2_with (go_at_call 77; refine (nn_inner _ _).mono ?_; rintro e w' ⟨rfl, rfl⟩)
  go_ret
  exact ⟨rfl, rfl⟩
end Go.Proofs.YtfhdiimcimafkaaGreatDoor
/- bytes.Clone of bytes that came in, or were made. -/
namespace Go.Proofs.YtfhdiimcimafkaaGreatDoor
open Go.RowKit
def u8T : Nat := 5
def bV (bs : List Nat) : List Value := bs.map fun b => .int .u8 (b : Nat)
theorem bV_get (bs : List Nat) (j : Nat) : (bV bs)[j]? = bs[j]?.map fun b => Value.int .u8 (b : Nat) := by simp [bV]
theorem bV_one (bs : List Nat) : ∀ u ∈ bV bs, u.oneCell' = true := by
  intro u hu; simp only [bV, List.mem_map] at hu; obtain ⟨b, _, rfl⟩ := hu; rfl
theorem cloneB_under : Tryz.prog.underlying 38 = some (.slice 5) := by kernel_rfl
theorem cloneB_info : (Tryz.prog.info? 5).map (fun i => (i.zero, i.size, i.bytes)) = some (some (.int .u8 0), 1, 1) := by kernel_rfl
set_option maxRecDepth 100000 in
theorem cloneB_any (w : World) (a : Option Addr) (n c : Nat) (bs : List Nat) (hn : bs.length = n) (hb : BytesAt w a bs) (hl : n ≤ 140737488355328) (hnil : a = none → n = 0) : Calls Tryz.prog 38 #[.slice a n c] w (clonePost 5 (bV bs) w) := by
  have q1 : ∀ (w : World) (a : Option Addr) (n c n' c' : Nat), (binOp .eql 38 (.slice a n c) (.slice none n' c')).run Tryz.prog w = .ok (.bool a.isNone) w := fun w a n c n' c' => Lib.run_eql_slice_nil w _ _ a n c n' c' cloneB_under
  cases a with
  | none =>
    obtain rfl : n = 0 := hnil rfl
    obtain rfl : bs = [] := List.eq_nil_of_length_eq_zero hn
    have hR : clonePost 5 [] w (.returned (.slice none 0 0)) w := ⟨_, none, rfl, Own.nil _ _, Below.refl _ _, Or.inl rfl⟩
    clear hn hb hl hnil
    go_enter Tryz.func38, Tryz.ntmps38
    go_wp2_with fail
    go_ret
    exact hR
  | some p =>
    have Hr : Hid (∀ o, ∀ j u, (bV bs)[j]? = some u → (w.alloc o).cell? (p.add j) = some u) := fun o j u hj => by
      rw [bV_get] at hj
      have hj2 : j < bs.length := by
        by_cases h : j < bs.length
        · exact h
        · rw [List.getElem?_eq_none (by omega)] at hj; simp at hj
      rw [List.getElem?_eq_getElem hj2] at hj
      simp only [Option.map_some, Option.some.injEq] at hj
      subst hj
      obtain ⟨p', hp, h1, h2⟩ := hb.2 j hj2
      obtain rfl : p = p' := by simpa using hp
      rw [((Below.refl _ w).alloc (Nat.le_refl _) o).cell h1, h2]
      simp [List.getD, hj2]
    have H1 := Lib.hid (bV_one bs)
    have hlen : Hid ((bV bs).length = n) := by show _ = _; simp [bV, hn]
    have hb1 : Hid (([] : List Value).length + n ≤ maxLen) := by show _ ≤ _; simp only [maxLen, List.length_nil]; omega
    have hb2 : Hid ((([] : List Value).length + n) * 1 ≤ 140737488355328) := by show _ ≤ _; simp only [List.length_nil]; omega
    clear hn hb hl hnil
    go_enter Tryz.func38, Tryz.ntmps38
    go_wp2_with (at_builtin; go_loud (refine wpList_append_at rfl (.tmp 5) (.tmp 6) 38 rfl 5 (.int .u8 0) 1 cloneB_under cloneB_info rfl _ rfl [] (some w.heap.size) (Own.fresh0 _ _) p n c (bV bs) rfl hlen.out (Hr.out _) H1.out hb1.out hb2.out ?_); intro v1 w1 bo1 HO HM HN)
    go_ret
    exact clone_end HO.out HM.out HN.out
end Go.Proofs.YtfhdiimcimafkaaGreatDoor
/- Nodes: what they are in memory; the calls that only read. -/
namespace Go.Proofs.YtfhdiimcimafkaaGreatDoor
open Go.RowKit
abbrev ndT : Nat := 110
/-- a node's kids: none of a leaf -/
def KidsOf (w : World) (kp : Option Addr) (kk : Option KV) (Sk : Nat → Prop) : Prop :=
  (kp = none ∧ kk = none ∧ Sk = fun _ => False) ∨ ∃ k l, kp = some ⟨k, 0, none⟩ ∧ kk = some l ∧ N.KdAt w k (kindOf l.length) l Sk ∧ N.Vals l
/-- a node at block n: W is what it writes, R its part's array, that is read only -/
structure NdIs (w : World) (n : Nat) (o : Int) (bs : List Nat) (val : Int) (has : Bool) (kk : Option KV) (pv : Value) (bo : Option Nat) (kp : Option Addr) (Sk : Nat → Prop) : Prop where
  blk : w.heap[n]? = some (.cells [.int .u64 o, pv, .int .u64 val, .bool has, .pointer kp].toArray ndT (0, 0))
  own : Own 5 w pv (bV bs) bo
  kids : KidsOf w kp kk Sk
  nS : ¬ Sk n
  nR : ∀ g, bo = some g → g ≠ n ∧ ¬ Sk g
def klen (kk : Option KV) : Nat := (kk.getD []).length
def kkind (kk : Option KV) : Nat := match kk with | none => 0 | some l => kindOf l.length
section
variable {w : World} {n : Nat} {o : Int} {bs : List Nat} {val : Int} {has : Bool} {kk : Option KV} {pv : Value} {bo : Option Nat} {kp : Option Addr} {Sk : Nat → Prop}
theorem NdIs.c0 (h : NdIs w n o bs val has kk pv bo kp Sk) : w.cell? ⟨n, 0, none⟩ = some (.int .u64 o) := by rw [cell_of_blk h.blk]; rfl
theorem NdIs.c1 (h : NdIs w n o bs val has kk pv bo kp Sk) : w.cell? ⟨n, 1, none⟩ = some pv := by rw [cell_of_blk h.blk]; rfl
theorem NdIs.c2 (h : NdIs w n o bs val has kk pv bo kp Sk) : w.cell? ⟨n, 2, none⟩ = some (.int .u64 val) := by rw [cell_of_blk h.blk]; rfl
theorem NdIs.c3 (h : NdIs w n o bs val has kk pv bo kp Sk) : w.cell? ⟨n, 3, none⟩ = some (.bool has) := by rw [cell_of_blk h.blk]; rfl
theorem NdIs.c4 (h : NdIs w n o bs val has kk pv bo kp Sk) : w.cell? ⟨n, 4, none⟩ = some (.pointer kp) := by rw [cell_of_blk h.blk]; rfl
theorem KidsOf.keep {w' : World} (h : KidsOf w kp kk Sk) (hk : ∀ j, Sk j → w'.heap[j]? = w.heap[j]?) : KidsOf w' kp kk Sk := by
  rcases h with h | ⟨k, l, h1, h2, h3, h4⟩
  · exact Or.inl h
  · exact Or.inr ⟨k, l, h1, h2, h3.keep hk, h4⟩
theorem NdIs.keep {w' : World} (h : NdIs w n o bs val has kk pv bo kp Sk) (hn : w'.heap[n]? = w.heap[n]?) (hS : ∀ j, Sk j → w'.heap[j]? = w.heap[j]?) (hR : ∀ j, bo = some j → w'.heap[j]? = w.heap[j]?) : NdIs w' n o bs val has kk pv bo kp Sk :=
  ⟨hn.trans h.blk, h.own.keep hR, h.kids.keep hS, h.nS, h.nR⟩
theorem NdIs.drewN (h : NdIs w n o bs val has kk pv bo kp Sk) (m : Nat) : NdIs (w.drewN m) n o bs val has kk pv bo kp Sk := h.keep rfl (fun _ _ => rfl) (fun _ _ => rfl)
theorem ko_len (h : KidsOf w kp kk Sk) : Calls Tryz.prog 71 #[.pointer kp] w fun e w' => e = .returned (.int .i64 (klen kk : Nat)) ∧ w = w' := by
  rcases h with ⟨rfl, rfl, _⟩ | ⟨k, l, rfl, rfl, h3, h4⟩
  · exact N.bare_len (Or.inl rfl)
  · exact N.kd_len h3
theorem ko_kind (h : KidsOf w kp kk Sk) : Calls Tryz.prog 65 #[.pointer kp] w fun e w' => e = .returned (.int .i64 (kkind kk : Nat)) ∧ w = w' := by
  rcases h with ⟨rfl, rfl, _⟩ | ⟨k, l, rfl, rfl, h3, h4⟩
  · exact N.bare_kind (Or.inl rfl)
  · exact N.kd_kind h3
theorem ko_get (h : KidsOf w kp kk Sk) (b : Nat) (hb : b < 256) : Calls Tryz.prog 95 #[.pointer kp, .int .u8 b] w fun e w' => e = .returned (N.getV (kget (kk.getD []) b)) ∧ ∃ n, w' = w.drewN n := by
  rcases h with ⟨rfl, rfl, _⟩ | ⟨k, l, rfl, rfl, h3, h4⟩
  · refine (N.bare_get (Or.inl rfl) b).mono ?_
    rintro e w' ⟨rfl, rfl⟩
    exact ⟨rfl, 0, rfl⟩
  · exact N.kd_get h3 b hb
theorem ko_next (h : KidsOf w kp kk Sk) (f : Int) (hlo : -9223372036854775808 ≤ f) (hhi : f ≤ 9223372036854775807) : Calls Tryz.prog 73 #[.pointer kp, .int .i64 f] w fun e w' => e = .returned (N.atV (knxt (kk.getD []) f)) ∧ ∃ n, w' = w.drewN n := by
  rcases h with ⟨rfl, rfl, _⟩ | ⟨k, l, rfl, rfl, h3, h4⟩
  · refine (N.bare_next (Or.inl rfl) f).mono ?_
    rintro e w' ⟨rfl, rfl⟩
    exact ⟨rfl, 0, rfl⟩
  · exact N.kd_next h3 f hlo hhi
theorem nd_val (h : NdIs w n o bs val has kk pv bo kp Sk) : Calls Tryz.prog 37 #[.pointer (some ⟨n, 0, none⟩)] w fun e w' => e = .returned (if has then .tuple #[.int .u64 val, .bool true] else .tuple #[.int .u64 0, .bool false]) ∧ w = w' := by
  have c2 := h.c2
  have c3 := h.c3
  clear h
  cases has with
  | true =>
    go_enter Tryz.func37, Tryz.ntmps37
    go_wp2_with fail
    go_ret2
    exact ⟨rfl, rfl⟩
  | false =>
    go_enter Tryz.func37, Tryz.ntmps37
    go_wp2_with fail
    go_ret2
    exact ⟨rfl, rfl⟩
theorem nd_len (h : NdIs w n o bs val has kk pv bo kp Sk) : Calls Tryz.prog 72 #[.pointer (some ⟨n, 0, none⟩)] w fun e w' => e = .returned (.int .i64 (klen kk : Nat)) ∧ w = w' := by
  have c4 := h.c4
  have hx := Lib.hid (ko_len h.kids)
  clear h
  go_enter Tryz.func72, Tryz.ntmps72
  go_wp2_with (go_at_call 71; refine hx.out.mono ?_; rintro e w' ⟨rfl, rfl⟩)
  go_ret
  exact ⟨rfl, rfl⟩
end
end Go.Proofs.YtfhdiimcimafkaaGreatDoor
/- Nodes: Kind, Occupants, Next, Prev, may, inner. -/
namespace Go.Proofs.YtfhdiimcimafkaaGreatDoor
open Go.RowKit
section
variable {w : World} {n : Nat} {o : Int} {bs : List Nat} {val : Int} {has : Bool} {kk : Option KV} {pv : Value} {bo : Option Nat} {kp : Option Addr} {Sk : Nat → Prop}
/-- leaf or kids, as the pointer is -/
theorem KidsOf.ptr (h : KidsOf w kp kk Sk) : (kp = none ∧ kk = none) ∨ ∃ k l, kp = some ⟨k, 0, none⟩ ∧ kk = some l := by
  rcases h with ⟨h1, h2, _⟩ | ⟨k, l, h1, h2, _⟩
  · exact Or.inl ⟨h1, h2⟩
  · exact Or.inr ⟨k, l, h1, h2⟩
theorem nd_leaf (h : NdIs w n o bs val has kk pv bo kp Sk) : Calls Tryz.prog 64 #[.pointer (some ⟨n, 0, none⟩)] w fun e w' => e = .returned (.bool kk.isNone) ∧ w = w' := by
  have c4 := h.c4
  rcases h.kids.ptr with ⟨rfl, rfl⟩ | ⟨k, l, rfl, rfl⟩
  · clear h
    go_enter Tryz.func64, Tryz.ntmps64
    go_wp2_with fail
    go_ret
    exact ⟨rfl, rfl⟩
  · clear h
    go_enter Tryz.func64, Tryz.ntmps64
    go_wp2_with fail
    go_ret
    exact ⟨rfl, rfl⟩
def ndKind (kk : Option KV) : Nat := match kk with | none => 1 | some l => kindOf l.length
theorem nd_kind (h : NdIs w n o bs val has kk pv bo kp Sk) : Calls Tryz.prog 36 #[.pointer (some ⟨n, 0, none⟩)] w fun e w' => e = .returned (.int .i64 (ndKind kk : Nat)) ∧ w = w' := by
  have c4 := h.c4
  have hl := Lib.hid (nd_leaf h)
  have hk := Lib.hid (ko_kind h.kids)
  rcases h.kids.ptr with ⟨rfl, rfl⟩ | ⟨k, l, rfl, rfl⟩
  · clear h
    go_enter Tryz.func36, Tryz.ntmps36
    go_wp2_with (first | (go_at_call 64; refine hl.out.mono ?_; rintro e w' ⟨rfl, rfl⟩) | (go_at_call 65; refine hk.out.mono ?_; rintro e w' ⟨rfl, rfl⟩))
    go_ret
    exact ⟨rfl, rfl⟩
  · clear h
    go_enter Tryz.func36, Tryz.ntmps36
    go_wp2_with (first | (go_at_call 64; refine hl.out.mono ?_; rintro e w' ⟨rfl, rfl⟩) | (go_at_call 65; refine hk.out.mono ?_; rintro e w' ⟨rfl, rfl⟩))
    go_ret
    exact ⟨rfl, rfl⟩
theorem klen256 (h : KidsOf w kp kk Sk) : klen kk ≤ 256 := by
  rcases h with ⟨h1, rfl, _⟩ | ⟨k, l, h1, rfl, h3, h4⟩
  · exact Nat.zero_le _
  · exact len256 h3.srt.1 h3.srt.2.1
theorem nd_occ (h : NdIs w n o bs val has kk pv bo kp Sk) : Calls Tryz.prog 45 #[.pointer (some ⟨n, 0, none⟩)] w fun e w' => e = .returned (.int .i64 (if has then (klen kk + 1 : Nat) else (klen kk : Nat))) ∧ w = w' := by
  have c3 := h.c3
  have c4 := h.c4
  have hl := Lib.hid (nd_len h)
  have hk := Lib.hid (ko_len h.kids)
  have h256 := klen256 h.kids
  have hw : IntKind.i64.wrap ((klen kk : Nat) + 1 : Int) = (klen kk + 1 : Nat) := by rw [IntWalk.i64_in _ (by omega)]; omega
  clear h
  cases has with
  | true =>
    go_enter Tryz.func45, Tryz.ntmps45
    go_wp2_with (first | (go_at_call 71; refine hk.out.mono ?_; rintro e w' ⟨rfl, rfl⟩))
    go_ret
    exact ⟨rfl, rfl⟩
  | false =>
    go_enter Tryz.func45, Tryz.ntmps45
    go_wp2_with (first | (go_at_call 72; refine hl.out.mono ?_; rintro e w' ⟨rfl, rfl⟩))
    go_ret
    exact ⟨rfl, rfl⟩
def stepV (p : Option (Nat × Value)) : Value := match p with | none => .tuple #[.int .u8 0, .pointer none] | some p => .tuple #[.int .u8 (p.1 : Nat), p.2]
theorem nd_next (h : NdIs w n o bs val has kk pv bo kp Sk) (f : Int) (hlo : -9223372036854775808 ≤ f) (hhi : f ≤ 9223372036854775807) : Calls Tryz.prog 47 #[.pointer (some ⟨n, 0, none⟩), .int .i64 f] w fun e w' => e = .returned (stepV (knxt (kk.getD []) f)) ∧ ∃ n, w' = w.drewN n := by
  have c4 := h.c4
  have hx := Lib.hid (ko_next h.kids f hlo hhi)
  clear h hlo hhi
  have ht : ∃ a1 a2 a3, Hid (N.atV (knxt (kk.getD []) f) = .tuple #[a1, a2, a3]) ∧ Hid (stepV (knxt (kk.getD []) f) = .tuple #[a1, a2]) := by
    cases knxt (kk.getD []) f with
    | none => exact ⟨_, _, _, rfl, rfl⟩
    | some v => exact ⟨_, _, _, rfl, rfl⟩
  obtain ⟨a1, a2, a3, H1, H2⟩ := ht
  rw [H2.out]
  generalize N.atV (knxt (kk.getD []) f) = V at *
  go_enter Tryz.func47, Tryz.ntmps47
  go_wp2_with (go_at_call 73; refine hx.out.mono ?_; rintro e w' ⟨rfl, nd, rfl⟩; rw [H1.out])
  go_ret2
  exact ⟨rfl, nd, rfl⟩
/-- may: the error -/
def mayE (o x : Int) : Int := if x = 0 ∨ x ≠ o then 11 else 0
theorem nd_may (h : NdIs w n o bs val has kk pv bo kp Sk) (x : Int) : Calls Tryz.prog 76 #[.pointer (some ⟨n, 0, none⟩), .int .u64 x] w fun e w' => e = .returned (.int .i64 (mayE o x)) ∧ w = w' := by
  have c0 := h.c0
  clear h
  by_cases h0 : x = 0
  · subst h0
    have hR : Hid (mayE o 0 = 11) := by show _ = _; unfold mayE; rw [if_pos (Or.inl rfl)]
    rw [hR.out]
    go_enter Tryz.func76, Tryz.ntmps76
    go_wp2_with fail
    go_ret
    exact ⟨rfl, rfl⟩
  · by_cases h1 : x = o
    · subst h1
      have hR : Hid (mayE x x = 0) := by show _ = _; unfold mayE; rw [if_neg (by simp [h0])]
      rw [hR.out]
      go_enter Tryz.func76, Tryz.ntmps76
      go_wp2_with fail
      go_ret
      exact ⟨rfl, rfl⟩
    · have hR : Hid (mayE o x = 11) := by show _ = _; unfold mayE; rw [if_pos (Or.inr h1)]
      have h2 : (x != o) = true := by simpa using h1
      rw [hR.out]
      go_enter Tryz.func76, Tryz.ntmps76
      go_wp2_with fail
      go_ret
      exact ⟨rfl, rfl⟩
end
end Go.Proofs.YtfhdiimcimafkaaGreatDoor
/- Nodes: inner, SetVal, DropVal. -/
namespace Go.Proofs.YtfhdiimcimafkaaGreatDoor
open Go.RowKit
section
variable {w : World} {n : Nat} {o : Int} {bs : List Nat} {val : Int} {has : Bool} {kk : Option KV} {pv : Value} {bo : Option Nat} {kp : Option Addr} {Sk : Nat → Prop}
/-- inner: the error -/
def innE (o x : Int) (kk : Option KV) : Int := if x = 0 ∨ x ≠ o then 11 else if kk.isNone then 9 else 0
theorem nd_inner (h : NdIs w n o bs val has kk pv bo kp Sk) (x : Int) : Calls Tryz.prog 77 #[.pointer (some ⟨n, 0, none⟩), .int .u64 x] w fun e w' => e = .returned (.int .i64 (innE o x kk)) ∧ w = w' := by
  have hm := Lib.hid (nd_may h x)
  have hl := Lib.hid (nd_leaf h)
  clear h
  by_cases h0 : x = 0 ∨ x ≠ o
  · have hR : Hid (innE o x kk = 11) := by show _ = _; unfold innE; rw [if_pos h0]
    have hR2 : Hid (mayE o x = 11) := by show _ = _; unfold mayE; rw [if_pos h0]
    rw [hR.out]
    clear h0
    go_enter Tryz.func77, Tryz.ntmps77
    go_wp2_with (first | (go_at_call 76; refine hm.out.mono ?_; rintro e w' ⟨rfl, rfl⟩; rw [hR2.out]) | (go_at_call 64; refine hl.out.mono ?_; rintro e w' ⟨rfl, rfl⟩))
    go_ret
    exact ⟨rfl, rfl⟩
  · have hR2 : Hid (mayE o x = 0) := by show _ = _; unfold mayE; rw [if_neg h0]
    cases kk with
    | none =>
      have hR : Hid (innE o x none = 9) := by show _ = _; unfold innE; rw [if_neg h0]; rfl
      rw [hR.out]
      clear h0
      go_enter Tryz.func77, Tryz.ntmps77
      go_wp2_with (first | (go_at_call 76; refine hm.out.mono ?_; rintro e w' ⟨rfl, rfl⟩; rw [hR2.out]) | (go_at_call 64; refine hl.out.mono ?_; rintro e w' ⟨rfl, rfl⟩))
      go_ret
      exact ⟨rfl, rfl⟩
    | some l =>
      have hR : Hid (innE o x (some l) = 0) := by show _ = _; unfold innE; rw [if_neg h0]; rfl
      rw [hR.out]
      clear h0
      go_enter Tryz.func77, Tryz.ntmps77
      go_wp2_with (first | (go_at_call 76; refine hm.out.mono ?_; rintro e w' ⟨rfl, rfl⟩; rw [hR2.out]) | (go_at_call 64; refine hl.out.mono ?_; rintro e w' ⟨rfl, rfl⟩))
      go_ret
      exact ⟨rfl, rfl⟩
/-- a value is put into two cells of the node's own block -/
theorem NdIs.putVal (h : NdIs w n o bs val has kk pv bo kp Sk) (v : Int) (b : Bool) : NdIs ((w.setCell ⟨n, 2, none⟩ (.int .u64 v)).setCell ⟨n, 3, none⟩ (.bool b)) n o bs v b kk pv bo kp Sk ∧ Mod (· = n) w ((w.setCell ⟨n, 2, none⟩ (.int .u64 v)).setCell ⟨n, 3, none⟩ (.bool b)) := by
  have e1 : (w.setCell ⟨n, 2, none⟩ (.int .u64 v)).heap[n]? = some (.cells [.int .u64 o, pv, .int .u64 v, .bool has, .pointer kp].toArray ndT (0, 0)) := by
    rw [setCell_list w n 2 _ ndT _ h.blk, setRow_heap w _ _ _ _ _ h.blk]; rfl
  have e2 : ((w.setCell ⟨n, 2, none⟩ (.int .u64 v)).setCell ⟨n, 3, none⟩ (.bool b)).heap[n]? = some (.cells [.int .u64 o, pv, .int .u64 v, .bool b, .pointer kp].toArray ndT (0, 0)) := by
    rw [setCell_list (w.setCell ⟨n, 2, none⟩ (.int .u64 v)) n 3 _ ndT _ e1, setRow_heap (w.setCell ⟨n, 2, none⟩ (.int .u64 v)) _ _ _ _ _ e1]; rfl
  have e3 : ∀ j, j ≠ n → ((w.setCell ⟨n, 2, none⟩ (.int .u64 v)).setCell ⟨n, 3, none⟩ (.bool b)).heap[j]? = w.heap[j]? := fun j hj => (Below.heap_setCell _ _ _ _ hj).trans (Below.heap_setCell _ _ _ _ hj)
  exact ⟨⟨e2, h.own.keep fun g hg => e3 g (h.nR g hg).1, h.kids.keep fun j hj => e3 j (fun e => h.nS (e ▸ hj)), h.nS, h.nR⟩,
    ((Mod.refl (· = n) w).setCell ⟨n, 2, none⟩ _ (fun _ => rfl)).setCell ⟨n, 3, none⟩ _ (fun _ => rfl)⟩
theorem NdIs.fz (h : NdIs w n o bs val has kk pv bo kp Sk) : w.frozen? ⟨n, 2, none⟩ = false ∧ w.frozen? ⟨n, 3, none⟩ = false := ⟨frozen_of_blk h.blk 2, frozen_of_blk h.blk 3⟩
theorem nd_setval_no (h : NdIs w n o bs val has kk pv bo kp Sk) (x v : Int) (h0 : x = 0 ∨ x ≠ o) : Calls Tryz.prog 52 #[.pointer (some ⟨n, 0, none⟩), .int .u64 x, .int .u64 v] w fun e w' => e = .returned (.int .i64 11) ∧ w = w' := by
  have hm := Lib.hid (nd_may h x)
  have hR2 : Hid (mayE o x = 11) := by show _ = _; unfold mayE; rw [if_pos h0]
  clear h h0
  go_enter Tryz.func52, Tryz.ntmps52
  go_wp2_with (first | (go_at_call 76; refine hm.out.mono ?_; rintro e w' ⟨rfl, rfl⟩; rw [hR2.out]))
  go_ret
  exact ⟨rfl, rfl⟩
theorem nd_setval (h : NdIs w n o bs val has kk pv bo kp Sk) (x v : Int) (h0 : ¬ (x = 0 ∨ x ≠ o)) : Calls Tryz.prog 52 #[.pointer (some ⟨n, 0, none⟩), .int .u64 x, .int .u64 v] w fun e w' => e = .returned (.int .i64 0) ∧ NdIs w' n o bs v true kk pv bo kp Sk ∧ Mod (· = n) w w' := by
  have hm := Lib.hid (nd_may h x)
  have hR2 : Hid (mayE o x = 0) := by show _ = _; unfold mayE; rw [if_neg h0]
  have hp := Lib.hid (h.putVal v true)
  have c2 := h.c2
  have c3 := h.c3
  obtain ⟨z2, z3⟩ := h.fz
  clear h h0
  go_enter Tryz.func52, Tryz.ntmps52
  go_wp2_with (first | (go_at_call 76; refine hm.out.mono ?_; rintro e w' ⟨rfl, rfl⟩; rw [hR2.out]))
  go_ret
  exact ⟨rfl, hp.out⟩
end
end Go.Proofs.YtfhdiimcimafkaaGreatDoor
/- Nodes: SetKid, DropKid. -/
namespace Go.Proofs.YtfhdiimcimafkaaGreatDoor
open Go.RowKit
section
variable {w : World} {n : Nat} {o : Int} {bs : List Nat} {val : Int} {has : Bool} {kk : Option KV} {pv : Value} {bo : Option Nat} {kp : Option Addr} {Sk : Nat → Prop}
/-- the node's kids are l now -/
def kidPost (n : Nat) (o : Int) (bs : List Nat) (val : Int) (has : Bool) (l : KV) (pv : Value) (bo : Option Nat) (kp : Option Addr) (Sk : Nat → Prop) (w w' : World) : Prop :=
  ∃ Sk', NdIs w' n o bs val has (some l) pv bo kp Sk' ∧ Mod Sk w w' ∧ ∀ j, Sk' j → Sk j ∨ w.heap.size ≤ j
theorem NdIs.lt (h : NdIs w n o bs val has kk pv bo kp Sk) : n < w.heap.size := (Array.getElem?_eq_some_iff.1 h.blk).1
theorem NdIs.turn {l : KV} {w' : World} (h : NdIs w n o bs val has kk pv bo kp Sk) {Sk' : Nat → Prop} (h1 : KidsOf w' kp (some l) Sk') (h2 : Mod Sk w w') (h3 : ∀ j, Sk' j → Sk j ∨ w.heap.size ≤ j) : kidPost n o bs val has l pv bo kp Sk w w' := by
  refine ⟨Sk', ⟨(h2.same n h.lt h.nS).trans h.blk, h.own.keep fun g hg => ?_, h1, fun e => ?_, fun g hg => ⟨(h.nR g hg).1, fun e => ?_⟩⟩, h2, h3⟩
  · subst hg; exact h2.same g h.own.lt (h.nR g rfl).2
  · rcases h3 n e with e | e
    · exact h.nS e
    · have := h.lt; omega
  · rcases h3 g e with e | e
    · exact (h.nR g hg).2 e
    · subst hg; have := h.own.lt; omega
theorem ko_set {l : KV} (h : KidsOf w kp (some l) Sk) (b : Nat) (hb : b < 256) (x : Option Addr) : Calls Tryz.prog 78 #[.pointer kp, .int .u8 b, .pointer x] w fun e w' => e = .returned (.int .i64 0) ∧ ∃ Sk', KidsOf w' kp (some (kins l b (.pointer x))) Sk' ∧ Mod Sk w w' ∧ ∀ j, Sk' j → Sk j ∨ w.heap.size ≤ j := by
  rcases h with ⟨_, h, _⟩ | ⟨k, l', rfl, h2, h3, h4⟩
  · cases h
  · obtain rfl : l = l' := by simpa using h2
    refine (N.kd_set h3 h4 b hb x).mono ?_
    rintro e w' ⟨rfl, S', q1, q2, q3⟩
    exact ⟨rfl, S', Or.inr ⟨k, _, rfl, rfl, q1, N.Vals.ins h4 b x⟩, q2, q3⟩
theorem nd_setkid {l : KV} (h : NdIs w n o bs val has (some l) pv bo kp Sk) (x : Int) (h0 : ¬ (x = 0 ∨ x ≠ o)) (b : Nat) (hb : b < 256) (a : Addr) : Calls Tryz.prog 53 #[.pointer (some ⟨n, 0, none⟩), .int .u64 x, .int .u8 b, .pointer (some a)] w fun e w' => e = .returned (.int .i64 0) ∧ kidPost n o bs val has (kins l b (.pointer (some a))) pv bo kp Sk w w' := by
  have hm := Lib.hid (nd_inner h x)
  have hR2 : Hid (innE o x (some l) = 0) := by show _ = _; unfold innE; rw [if_neg h0]; rfl
  have hx := Lib.hid (ko_set h.kids b hb (some a))
  have fin : Hid (∀ w', (∃ Sk', KidsOf w' kp (some (kins l b (.pointer (some a)))) Sk' ∧ Mod Sk w w' ∧ ∀ j, Sk' j → Sk j ∨ w.heap.size ≤ j) → kidPost n o bs val has (kins l b (.pointer (some a))) pv bo kp Sk w w') := fun w' q => by
    obtain ⟨S', q1, q2, q3⟩ := q
    exact h.turn q1 q2 q3
  have c4 := h.c4
  clear h h0
  go_enter Tryz.func53, Tryz.ntmps53
  go_wp2_with (first | (go_at_call 77; refine hm.out.mono ?_; rintro e w' ⟨rfl, rfl⟩; rw [hR2.out]) | (go_at_call 78; refine hx.out.mono ?_; rintro e w' ⟨rfl, q⟩; have q := Lib.hid (fin.out _ q)))
  go_ret
  exact ⟨rfl, q.out⟩
end
end Go.Proofs.YtfhdiimcimafkaaGreatDoor
/- Nodes: writes that are refused. -/
namespace Go.Proofs.YtfhdiimcimafkaaGreatDoor
open Go.RowKit
section
variable {w : World} {n : Nat} {o : Int} {bs : List Nat} {val : Int} {has : Bool} {kk : Option KV} {pv : Value} {bo : Option Nat} {kp : Option Addr} {Sk : Nat → Prop}
theorem nd_setkid_no (h : NdIs w n o bs val has kk pv bo kp Sk) (x : Int) (b : Nat) (k : Option Addr) (h0 : x = 0 ∨ x ≠ o) : Calls Tryz.prog 53 #[.pointer (some ⟨n, 0, none⟩), .int .u64 x, .int .u8 b, .pointer k] w fun e w' => e = .returned (.int .i64 11) ∧ w = w' := by
  have hm := Lib.hid (nd_inner h x)
  have hR2 : Hid (innE o x kk = 11) := by show _ = _; unfold innE; rw [if_pos h0]
  clear h h0
  go_enter Tryz.func53, Tryz.ntmps53
  go_wp2_with (first | (go_at_call 77; refine hm.out.mono ?_; rintro e w' ⟨rfl, rfl⟩; rw [hR2.out]))
  go_ret
  exact ⟨rfl, rfl⟩
end
end Go.Proofs.YtfhdiimcimafkaaGreatDoor
/- Nodes: Leaf. -/
namespace Go.Proofs.YtfhdiimcimafkaaGreatDoor
open Go.RowKit
/-- a node that was made behind wm -/
def madePost (o : Int) (bs : List Nat) (val : Int) (has : Bool) (kk : Option KV) (wm : World) (e : Ending) (w' : World) : Prop :=
  ∃ n pv bo kp Sk, e = .returned (.pointer (some ⟨n, 0, none⟩)) ∧ NdIs w' n o bs val has kk pv bo kp Sk ∧ Below wm.heap.size wm w' ∧ wm.heap.size ≤ n ∧ (∀ g, bo = some g → wm.heap.size ≤ g) ∧ ∀ j, Sk j → wm.heap.size ≤ j
theorem nd_leaf_made (w wm : World) (mv : Option Addr) (o val : Int) (a : Option Addr) (n c : Nat) (bs : List Nat) (hm : Calls Tryz.prog 74 #[.pointer mv, .int .i64 1] w fun e w' => e = .returned (.tuple #[]) ∧ w' = wm)
    (hn : bs.length = n) (hb : BytesAt wm a bs) (hl : n ≤ 140737488355328) (hnil : a = none → n = 0) : Calls Tryz.prog 51 #[.pointer mv, .int .u64 o, .slice a n c, .int .u64 val] w (madePost o bs val true none wm) := by
  have Hm := Lib.hid hm
  have hc := Lib.hid (cloneB_any wm a n c bs hn hb hl hnil)
  have fin : Hid (∀ w1 pv bo, Own 5 w1 pv (bV bs) bo → Below wm.heap.size wm w1 → (bo = none ∨ ∃ g, bo = some g ∧ wm.heap.size ≤ g) → madePost o bs val true none wm (.returned (.pointer (some ⟨w1.heap.size, 0, none⟩))) (w1.alloc (.cells #[.int .u64 o, pv, .int .u64 val, .bool true, .pointer none] ndT))) := fun w1 pv bo h1 h2 h3 => by
    refine ⟨w1.heap.size, pv, bo, none, fun _ => False, rfl, ⟨heap_alloc_new _ _, h1.keep fun g hg => ?_, Or.inl ⟨rfl, rfl, rfl⟩, fun e => e, fun g hg => ⟨?_, fun e => e⟩⟩, h2.alloc h2.size _, h2.size, fun g hg => ?_, fun j e => e.elim⟩
    · subst hg; exact Below.heap_alloc _ _ _ h1.lt
    · subst hg; exact Nat.ne_of_lt h1.lt
    · rcases h3 with e | ⟨g', e, h⟩
      · rw [hg] at e; cases e
      · rw [hg] at e; cases e; exact h
  clear hm hn hb hl hnil
  go_enter Tryz.func51, Tryz.ntmps51
  go_wp2_with (first | (go_at_call 74; refine Hm.out.mono ?_; rintro e w' ⟨rfl, rfl⟩) | (go_at_call 38; refine hc.out.mono ?_; rintro e w1 ⟨v1, bo1, rfl, HO, HB, HN⟩; have q := Lib.hid (fin.out _ _ _ HO HB HN); obtain ⟨a1, c1, rfl⟩ := HO.len; clear HO HB HN))
  go_ret
  exact q.out
theorem nd_inner_made (w wm : World) (mv : Option Addr) (o : Int) (a : Option Addr) (n c : Nat) (bs : List Nat) (hm : Calls Tryz.prog 74 #[.pointer mv, .int .i64 1] w fun e w' => e = .returned (.tuple #[]) ∧ w' = wm)
    (hn : bs.length = n) (hb : BytesAt wm a bs) (hl : n ≤ 140737488355328) (hnil : a = none → n = 0) : Calls Tryz.prog 50 #[.pointer mv, .int .u64 o, .slice a n c] w (madePost o bs 0 false (some []) wm) := by
  have Hm := Lib.hid hm
  have hc := Lib.hid (cloneB_any wm a n c bs hn hb hl hnil)
  have hk := Lib.hid (fun w => N.kd_new w)
  have fin : Hid (∀ w1 w2 pv bo, Own 5 w1 pv (bV bs) bo → Below wm.heap.size wm w1 → (bo = none ∨ ∃ g, bo = some g ∧ wm.heap.size ≤ g) → (∃ S, N.KdAt w2 w1.heap.size 4 [] S ∧ Below w1.heap.size w1 w2 ∧ ∀ j, S j → w1.heap.size ≤ j) → madePost o bs 0 false (some []) wm (.returned (.pointer (some ⟨w2.heap.size, 0, none⟩))) (w2.alloc (.cells #[.int .u64 o, pv, .int .u64 0, .bool false, .pointer (some ⟨w1.heap.size, 0, none⟩)] ndT))) := fun w1 w2 pv bo h1 h2 h3 h4 => by
    obtain ⟨S, k1, k2, k3⟩ := h4
    have h9 := h2.size
    have h8 := k2.size
    refine ⟨w2.heap.size, pv, bo, _, S, rfl, ⟨heap_alloc_new _ _, (h1.keep fun g hg => ?_), Or.inr ⟨w1.heap.size, [], rfl, rfl, k1.keep (fun j hj => Below.heap_alloc _ _ _ (k1.lt j hj)), fun p hp => by simp at hp⟩, fun e => by have := k1.lt _ e; omega, fun g hg => ⟨?_, fun e => ?_⟩⟩, (h2.trans (k2.mono h9)).alloc (Nat.le_trans h9 h8) _, Nat.le_trans h9 h8, fun g hg => ?_, fun j e => Nat.le_trans h9 (k3 j e)⟩
    · subst hg; have := h1.lt; exact (Below.heap_alloc _ _ _ (by omega)).trans (k2.block g this)
    · subst hg; have := h1.lt; omega
    · subst hg; have := h1.lt; have := k3 g e; omega
    · rcases h3 with e | ⟨g', e, h⟩
      · rw [hg] at e; cases e
      · rw [hg] at e; cases e; exact h
  clear hm hn hb hl hnil
  go_enter Tryz.func50, Tryz.ntmps50
  go_wp2_with (first | (go_at_call 74; refine Hm.out.mono ?_; rintro e w' ⟨rfl, rfl⟩) | (go_at_call 38; refine hc.out.mono ?_; rintro e w1 ⟨v1, bo1, rfl, HO, HB, HN⟩; have F := Lib.hid (fun w2 => fin.out _ w2 _ _ HO HB HN); obtain ⟨a1, c1, rfl⟩ := HO.len; clear HO HB HN) | (go_at_call 75; refine (hk.out _).mono ?_; rintro e w2 ⟨rfl, q⟩; have q := Lib.hid (F.out _ q)))
  go_ret
  exact q.out
end Go.Proofs.YtfhdiimcimafkaaGreatDoor
/- Nodes: DropVal where the owner may. -/
namespace Go.Proofs.YtfhdiimcimafkaaGreatDoor
open Go.RowKit
section
variable {w : World} {n : Nat} {o : Int} {bs : List Nat} {val : Int} {has : Bool} {kk : Option KV} {pv : Value} {bo : Option Nat} {kp : Option Addr} {Sk : Nat → Prop}
end
end Go.Proofs.YtfhdiimcimafkaaGreatDoor
/- Nodes: SetPart where the owner may. -/
namespace Go.Proofs.YtfhdiimcimafkaaGreatDoor
open Go.RowKit
section
variable {w : World} {n : Nat} {o : Int} {bs : List Nat} {val : Int} {has : Bool} {kk : Option KV} {pv : Value} {bo : Option Nat} {kp : Option Addr} {Sk : Nat → Prop}
def partPost (n : Nat) (o : Int) (bs : List Nat) (val : Int) (has : Bool) (kk : Option KV) (kp : Option Addr) (Sk : Nat → Prop) (w w' : World) : Prop :=
  ∃ pv bo, NdIs w' n o bs val has kk pv bo kp Sk ∧ Mod (· = n) w w' ∧ ∀ g, bo = some g → w.heap.size ≤ g
end
end Go.Proofs.YtfhdiimcimafkaaGreatDoor
/- Nodes: Copy. -/
namespace Go.Proofs.YtfhdiimcimafkaaGreatDoor
open Go.RowKit
section
variable {w wm : World} {n : Nat} {o : Int} {bs : List Nat} {val : Int} {has : Bool} {kk : Option KV} {pv : Value} {bo : Option Nat} {kp : Option Addr} {Sk : Nat → Prop}
/-- a copy of a node: the part's array is shared, all else is new -/
def copiedPost (x : Int) (bs : List Nat) (val : Int) (has : Bool) (kk : Option KV) (pv : Value) (bo : Option Nat) (wm : World) (e : Ending) (w' : World) : Prop :=
  ∃ n kp Sk, e = .returned (.pointer (some ⟨n, 0, none⟩)) ∧ NdIs w' n x bs val has kk pv bo kp Sk ∧ Below wm.heap.size wm w' ∧ wm.heap.size ≤ n ∧ ∀ j, Sk j → wm.heap.size ≤ j
end
end Go.Proofs.YtfhdiimcimafkaaGreatDoor
/- Nodes side by side, made since a world w0. -/
namespace Go.Proofs.YtfhdiimcimafkaaGreatDoor
open Go.RowKit
/-- what a node is -/
structure NP where
  n : Nat
  o : Int
  bs : List Nat
  val : Int
  has : Bool
  kk : Option KV
/-- a node, with where it lies -/
structure Nd extends NP where
  pv : Value
  bo : Option Nat
  kp : Option Addr
  Sk : Nat → Prop
def Nd.is (d : Nd) (w : World) : Prop := NdIs w d.n d.o d.bs d.val d.has d.kk d.pv d.bo d.kp d.Sk
def Nd.W (d : Nd) (j : Nat) : Prop := j = d.n ∨ d.Sk j
def NP.fit (p : NP) : Prop := (∀ b ∈ p.bs, b < 256) ∧ p.bs.length ≤ 140737488355328
structure Store (X : Nat → Prop) (w0 w : World) (L : List Nd) : Prop where
  here : ∀ (i : Nat) (d : Nd), L[i]? = some d → d.is w
  fit : ∀ (i : Nat) (d : Nd), L[i]? = some d → d.toNP.fit
  new : ∀ (i : Nat) (d : Nd), L[i]? = some d → ∀ j, d.W j → w0.heap.size ≤ j
  gen : ∀ (i : Nat) (d : Nd), L[i]? = some d → ∀ g, d.bo = some g → w0.heap.size ≤ g
  apart : ∀ (i j : Nat) (a b : Nd), L[i]? = some a → L[j]? = some b → i ≠ j → ∀ x, a.W x → ¬ b.W x
  read : ∀ (i j : Nat) (a b : Nd), L[i]? = some a → L[j]? = some b → ∀ g, a.bo = some g → ¬ b.W g
  mod : Mod X w0 w
theorem NdIs.Slt {w : World} {n : Nat} {o : Int} {bs : List Nat} {val : Int} {has : Bool} {kk : Option KV} {pv : Value} {bo : Option Nat} {kp : Option Addr} {Sk : Nat → Prop} (h : NdIs w n o bs val has kk pv bo kp Sk) : ∀ j, Sk j → j < w.heap.size := fun j hj => by
  rcases h.kids with ⟨_, _, e⟩ | ⟨k, l, _, _, h3, _⟩
  · rw [e] at hj; exact hj.elim
  · exact h3.lt j hj
theorem NdIs.Rlt {w : World} {n : Nat} {o : Int} {bs : List Nat} {val : Int} {has : Bool} {kk : Option KV} {pv : Value} {bo : Option Nat} {kp : Option Addr} {Sk : Nat → Prop} (h : NdIs w n o bs val has kk pv bo kp Sk) : ∀ j, bo = some j → j < w.heap.size := fun j hj => by
  subst hj; exact h.own.lt
theorem Nd.is.Wlt {d : Nd} {w : World} (h : d.is w) : ∀ j, d.W j → j < w.heap.size := fun j hj => by
  rcases hj with rfl | e
  · exact NdIs.lt h
  · exact NdIs.Slt h j e
theorem Nd.is.keep {d : Nd} {w w' : World} (h : d.is w) (hW : ∀ j, d.W j → w'.heap[j]? = w.heap[j]?) (hR : ∀ j, d.bo = some j → w'.heap[j]? = w.heap[j]?) : d.is w' :=
  NdIs.keep h (hW _ (Or.inl rfl)) (fun j hj => hW j (Or.inr hj)) hR
section
variable {X : Nat → Prop} {w0 w w' : World} {L : List Nd}
/-- what is changed elsewhere -/
theorem Store.other {T : Nat → Prop} (h : Store X w0 w L) (hm : Mod T w w') (hT : ∀ (i : Nat) (d : Nd), L[i]? = some d → ∀ j, T j → ¬ d.W j ∧ d.bo ≠ some j) (hX : ∀ j, j < w0.heap.size → T j → X j) : Store X w0 w' L :=
  ⟨fun i d hd => (h.here i d hd).keep (fun j hj => hm.same j ((h.here i d hd).Wlt j hj) (fun t => (hT i d hd j t).1 hj)) (fun j hj => hm.same j (NdIs.Rlt (h.here i d hd) j hj) (fun t => (hT i d hd j t).2 hj)),
    h.fit, h.new, h.gen, h.apart, h.read, h.mod.then hm hX⟩
theorem Store.below (h : Store X w0 w L) (hm : Below w.heap.size w w') : Store X w0 w' L :=
  h.other (T := fun _ => False) (Mod.of_below hm) (fun _ _ _ _ t => t.elim) (fun _ _ t => t.elim)
/-- what is changed in old blocks -/
theorem Store.old {T : Nat → Prop} (h : Store X w0 w L) (hm : Mod T w w') (hT : ∀ j, T j → j < w0.heap.size) (hX : ∀ j, T j → X j) : Store X w0 w' L :=
  h.other hm (fun i d hd j t => ⟨fun e => by have := h.new i d hd j e; have := hT j t; omega, fun e => by have := h.gen i d hd j e; have := hT j t; omega⟩) (fun j _ t => hX j t)
theorem Store.drewN (h : Store X w0 w L) (m : Nat) : Store X w0 (w.drewN m) L :=
  ⟨fun i d hd => (h.here i d hd).keep (fun _ _ => rfl) (fun _ _ => rfl), h.fit, h.new, h.gen, h.apart, h.read, h.mod.drewN m⟩
/-- one node is written to -/
theorem Store.write {i : Nat} {d d' : Nd} (h : Store X w0 w L) (hd : L[i]? = some d) (h' : d'.is w') (hf : d'.toNP.fit) (hm : Mod d.W w w') (hW : ∀ j, d'.W j → d.W j ∨ w.heap.size ≤ j) (hR : ∀ g, d'.bo = some g → d.bo = some g ∨ w.heap.size ≤ g) : Store X w0 w' (L.set i d') := by
  have hsz := h.mod.size
  have hi : i < L.length := (List.getElem?_eq_some_iff.1 hd).1
  have key : ∀ j b, (L.set i d')[j]? = some b → (j = i ∧ b = d') ∨ (j ≠ i ∧ L[j]? = some b) := fun j b hb => by
    rw [List.getElem?_set] at hb
    by_cases e : i = j
    · subst e; simp [hi] at hb; exact Or.inl ⟨rfl, hb.symm⟩
    · simp [e] at hb; exact Or.inr ⟨fun q => e q.symm, hb⟩
  have dis : ∀ j b, j ≠ i → L[j]? = some b → ∀ x, b.W x → ¬ d'.W x := fun j b hj hb x hx hx' => by
    rcases hW x hx' with e | e
    · exact h.apart j i b d hb hd hj x hx e
    · have := (h.here j b hb).Wlt x hx; omega
  refine ⟨fun j b hb => ?_, fun j b hb => ?_, fun j b hb x hx => ?_, fun j b hb g hg => ?_, fun j k a b ha hb hjk x hx hx' => ?_, fun j k a b ha hb g hg hx => ?_, h.mod.then hm (fun j hj t => ?_)⟩
  · rcases key j b hb with ⟨rfl, rfl⟩ | ⟨e, hb⟩
    · exact h'
    · exact (h.here j b hb).keep (fun x hx => hm.same x ((h.here j b hb).Wlt x hx) (h.apart j i b d hb hd e x hx)) (fun g hg => hm.same g (NdIs.Rlt (h.here j b hb) g hg) (h.read j i b d hb hd g hg))
  · rcases key j b hb with ⟨rfl, rfl⟩ | ⟨e, hb⟩
    · exact hf
    · exact h.fit j b hb
  · rcases key j b hb with ⟨rfl, rfl⟩ | ⟨e, hb⟩
    · rcases hW x hx with q | q
      · exact h.new j d hd x q
      · omega
    · exact h.new j b hb x hx
  · rcases key j b hb with ⟨rfl, rfl⟩ | ⟨e, hb⟩
    · rcases hR g hg with q | q
      · exact h.gen j d hd g q
      · omega
    · exact h.gen j b hb g hg
  · rcases key j a ha with ⟨e1, e2⟩ | ⟨e, qa⟩
    · rcases key k b hb with ⟨e3, e4⟩ | ⟨e, qb⟩
      · exact hjk (e1.trans e3.symm)
      · exact dis k b e qb x hx' (e2 ▸ hx)
    · rcases key k b hb with ⟨e3, e4⟩ | ⟨e2, qb⟩
      · exact dis j a e qa x hx (e4 ▸ hx')
      · exact h.apart j k a b qa qb hjk x hx hx'
  · rcases key j a ha with ⟨e1, e2⟩ | ⟨e, qa⟩
    · have hg' : d'.bo = some g := e2 ▸ hg
      rcases key k b hb with ⟨e3, e4⟩ | ⟨e, qb⟩
      · have hx2 : d'.W g := e4 ▸ hx
        rcases hx2 with hx2 | hx2
        · exact (NdIs.nR h' g hg').1 hx2
        · exact (NdIs.nR h' g hg').2 hx2
      · rcases hR g hg' with q | q
        · exact h.read i k d b hd qb g q hx
        · have := (h.here k b qb).Wlt g hx; omega
    · rcases key k b hb with ⟨e3, e4⟩ | ⟨e2, qb⟩
      · have hx2 : d'.W g := e4 ▸ hx
        rcases hW g hx2 with q | q
        · exact h.read j i a d qa hd g hg q
        · have := NdIs.Rlt (h.here j a qa) g hg; omega
      · exact h.read j k a b qa qb g hg hx
  · have := h.new i d hd j t; omega
/-- one node more -/
theorem Store.add {d : Nd} (h : Store X w0 w L) (h' : d.is w') (hf : d.toNP.fit) (hm : Below w.heap.size w w') (hW : ∀ j, d.W j → w.heap.size ≤ j) (hR : ∀ g, d.bo = some g → w.heap.size ≤ g ∨ ∃ (i : Nat) (a : Nd), L[i]? = some a ∧ a.bo = some g) : Store X w0 w' (L ++ [d]) := by
  have hsz := h.mod.size
  have key : ∀ j b, (L ++ [d])[j]? = some b → (j = L.length ∧ b = d) ∨ (j < L.length ∧ L[j]? = some b) := fun j b hb => by
    rw [List.getElem?_append] at hb
    by_cases e : j < L.length
    · simp [e] at hb; exact Or.inr ⟨e, by rw [List.getElem?_eq_getElem e, hb]⟩
    · simp only [e, if_false] at hb
      have : j - L.length = 0 := by
        by_cases q : j - L.length = 0
        · exact q
        · rw [List.getElem?_eq_none (by simp; omega)] at hb; cases hb
      rw [this] at hb; simp at hb
      exact Or.inl ⟨by omega, hb.symm⟩
  have hb := h.below hm
  refine ⟨fun j b hb' => ?_, fun j b hb' => ?_, fun j b hb' x hx => ?_, fun j b hb' g hg => ?_, fun j k a b ha hb' hjk x hx hx' => ?_, fun j k a b ha hb' g hg hx => ?_, hb.mod⟩
  · rcases key j b hb' with ⟨rfl, rfl⟩ | ⟨e, q⟩
    · exact h'
    · exact hb.here j b q
  · rcases key j b hb' with ⟨rfl, rfl⟩ | ⟨e, q⟩
    · exact hf
    · exact h.fit j b q
  · rcases key j b hb' with ⟨rfl, rfl⟩ | ⟨e, q⟩
    · have := hW x hx; omega
    · exact h.new j b q x hx
  · rcases key j b hb' with ⟨rfl, rfl⟩ | ⟨e, q⟩
    · rcases hR g hg with q | ⟨i, a, q1, q2⟩
      · omega
      · exact h.gen i a q1 g q2
    · exact h.gen j b q g hg
  · rcases key j a ha with ⟨rfl, rfl⟩ | ⟨e, qa⟩
    · rcases key k b hb' with ⟨rfl, rfl⟩ | ⟨e, q⟩
      · exact hjk rfl
      · have := (h.here k b q).Wlt x hx'; have := hW x hx; omega
    · rcases key k b hb' with ⟨rfl, rfl⟩ | ⟨e2, q⟩
      · have := (h.here j a qa).Wlt x hx; have := hW x hx'; omega
      · exact h.apart j k a b qa q hjk x hx hx'
  · rcases key j a ha with ⟨rfl, rfl⟩ | ⟨e, qa⟩
    · rcases key k b hb' with ⟨rfl, rfl⟩ | ⟨e, q⟩
      · rcases hx with e' | hx
        · exact (NdIs.nR h' g hg).1 e'
        · exact (NdIs.nR h' g hg).2 hx
      · rcases hR g hg with q' | ⟨i, a', q1, q2⟩
        · have := (h.here k b q).Wlt g hx; omega
        · exact h.read i k a' b q1 q g q2 hx
    · rcases key k b hb' with ⟨rfl, rfl⟩ | ⟨e2, q⟩
      · have := NdIs.Rlt (h.here j a qa) g hg; have := hW g hx; omega
      · exact h.read j k a b qa q g hg hx
end
/-- nodes, without where they lie -/
def StoreP (X : Nat → Prop) (w0 w : World) (P : List NP) : Prop := ∃ L : List Nd, L.map (·.toNP) = P ∧ Store X w0 w L
section
variable {X : Nat → Prop} {w0 w w' : World} {P : List NP} {i : Nat} {p : NP}
theorem StoreP.nil (X : Nat → Prop) {w0 w : World} (h : Mod X w0 w) : StoreP X w0 w [] :=
  ⟨[], rfl, by simp, by simp, by simp, by simp, by simp, by simp, h⟩
theorem StoreP.get (h : StoreP X w0 w P) (hi : P[i]? = some p) : ∃ L d, L.map Nd.toNP = P ∧ Store X w0 w L ∧ L[i]? = some d ∧ d.toNP = p := by
  obtain ⟨L, rfl, h⟩ := h
  rw [List.getElem?_map] at hi
  cases hd : L[i]? with
  | none => rw [hd] at hi; cases hi
  | some d => rw [hd] at hi; exact ⟨L, d, rfl, h, hd, by simpa using hi⟩
theorem StoreP.is (h : StoreP X w0 w P) (hi : P[i]? = some p) : ∃ pv bo kp Sk, NdIs w p.n p.o p.bs p.val p.has p.kk pv bo kp Sk := by
  obtain ⟨L, d, _, h, hd, rfl⟩ := h.get hi
  exact ⟨_, _, _, _, h.here i d hd⟩
theorem StoreP.fit (h : StoreP X w0 w P) (hi : P[i]? = some p) : p.fit := by
  obtain ⟨L, d, _, h, hd, rfl⟩ := h.get hi
  exact h.fit i d hd
theorem StoreP.drewN (h : StoreP X w0 w P) (m : Nat) : StoreP X w0 (w.drewN m) P := by
  obtain ⟨L, e, h⟩ := h; exact ⟨L, e, h.drewN m⟩
theorem StoreP.below (h : StoreP X w0 w P) (hm : Below w.heap.size w w') : StoreP X w0 w' P := by
  obtain ⟨L, e, h⟩ := h; exact ⟨L, e, h.below hm⟩
theorem StoreP.old {T : Nat → Prop} (h : StoreP X w0 w P) (hm : Mod T w w') (hT : ∀ j, T j → j < w0.heap.size) (hX : ∀ j, T j → X j) : StoreP X w0 w' P := by
  obtain ⟨L, e, h⟩ := h; exact ⟨L, e, h.old hm hT hX⟩
theorem StoreP.mod (h : StoreP X w0 w P) : Mod X w0 w := by
  obtain ⟨L, e, h⟩ := h; exact h.mod
theorem StoreP.size (h : StoreP X w0 w P) : w0.heap.size ≤ w.heap.size := h.mod.size
theorem StoreP.inj (h : StoreP X w0 w P) {j : Nat} {q : NP} (hi : P[i]? = some p) (hj : P[j]? = some q) (hij : i ≠ j) : p.n ≠ q.n := by
  obtain ⟨L, rfl, h⟩ := h
  rw [List.getElem?_map] at hi hj
  cases hd : L[i]? with
  | none => rw [hd] at hi; cases hi
  | some d =>
    cases hd2 : L[j]? with
    | none => rw [hd2] at hj; cases hj
    | some d2 =>
      rw [hd] at hi; rw [hd2] at hj
      obtain rfl : d.toNP = p := by simpa using hi
      obtain rfl : d2.toNP = q := by simpa using hj
      exact fun e => h.apart i j d d2 hd hd2 hij d.n (Or.inl rfl) (Or.inl e)
/-- the nodes are P now, and what was there ahead of w0 is as it was -/
def TurnsP (X : Nat → Prop) (w0 w : World) (P : List NP) (w' : World) : Prop := StoreP X w0 w' P ∧ Below w0.heap.size w w'
theorem Mod.belowOf {S : Nat → Prop} {w0 w w' : World} (h : Mod S w w') (hw : w0.heap.size ≤ w.heap.size) (hS : ∀ j, S j → w0.heap.size ≤ j) : Below w0.heap.size w w' :=
  ⟨h.os, h.tape, h.output, h.size, fun j hj => h.same j (by omega) (fun e => by have := hS j e; omega)⟩
theorem Store.turn {L : List Nd} {d : Nd} (h : Store X w0 w L) (hd : L[i]? = some d) (d' : Nd) (h' : d'.is w') (hf : d'.toNP.fit) (hm : Mod d.W w w') (hW : ∀ j, d'.W j → d.W j ∨ w.heap.size ≤ j) (hR : ∀ g, d'.bo = some g → d.bo = some g ∨ w.heap.size ≤ g) : TurnsP X w0 w ((L.map Nd.toNP).set i d'.toNP) w' :=
  ⟨⟨L.set i d', by rw [List.map_set], h.write hd h' hf hm hW hR⟩, hm.belowOf h.mod.size (h.new i d hd)⟩
theorem sp_setval (h : StoreP X w0 w P) (hi : P[i]? = some p) (x v : Int) (h0 : ¬ (x = 0 ∨ x ≠ p.o)) : Calls Tryz.prog 52 #[.pointer (some ⟨p.n, 0, none⟩), .int .u64 x, .int .u64 v] w fun e w' => e = .returned (.int .i64 0) ∧ TurnsP X w0 w (P.set i { p with val := v, has := true }) w' := by
  obtain ⟨L, d, rfl, h, hd, rfl⟩ := h.get hi
  refine (nd_setval (h.here i d hd) x v h0).mono ?_
  rintro e w' ⟨rfl, q1, q2⟩
  exact ⟨rfl, h.turn hd { d with val := v, has := true } q1 (h.fit i d hd) (q2.mono fun j _ e => Or.inl e) (fun j e => Or.inl e) (fun g e => Or.inl e)⟩
theorem sp_setkid (h : StoreP X w0 w P) (hi : P[i]? = some p) {l : KV} (hk : p.kk = some l) (x : Int) (h0 : ¬ (x = 0 ∨ x ≠ p.o)) (b : Nat) (hb : b < 256) (a : Addr) : Calls Tryz.prog 53 #[.pointer (some ⟨p.n, 0, none⟩), .int .u64 x, .int .u8 b, .pointer (some a)] w fun e w' => e = .returned (.int .i64 0) ∧ TurnsP X w0 w (P.set i { p with kk := some (kins l b (.pointer (some a))) }) w' := by
  obtain ⟨L, d, rfl, h, hd, rfl⟩ := h.get hi
  have H : NdIs w d.n d.o d.bs d.val d.has (some l) d.pv d.bo d.kp d.Sk := by have := h.here i d hd; unfold Nd.is at this; rw [hk] at this; exact this
  refine (nd_setkid H x h0 b hb a).mono ?_
  rintro e w' ⟨rfl, S', q1, q2, q3⟩
  exact ⟨rfl, h.turn hd { d with kk := some (kins l b (.pointer (some a))), Sk := S' } q1 (h.fit i d hd) (q2.mono fun j _ e => Or.inr e) (fun j e => by
    rcases e with e | e
    · exact Or.inl (Or.inl e)
    · rcases q3 j e with e | e
      · exact Or.inl (Or.inr e)
      · exact Or.inr e) (fun g e => Or.inl e)⟩
/-- one node more, that was made behind wm -/
theorem StoreP.made {wm : World} {o : Int} {bs : List Nat} {val : Int} {has : Bool} {kk : Option KV} {e : Ending} (h : StoreP X w0 wm P) (hf : (∀ b ∈ bs, b < 256) ∧ bs.length ≤ 140737488355328) (q : madePost o bs val has kk wm e w') : ∃ n, e = .returned (.pointer (some ⟨n, 0, none⟩)) ∧ wm.heap.size ≤ n ∧ TurnsP X w0 wm (P ++ [⟨n, o, bs, val, has, kk⟩]) w' := by
  obtain ⟨L, rfl, h⟩ := h
  obtain ⟨n, pv, bo, kp, Sk, rfl, q1, q2, q3, q4, q5⟩ := q
  refine ⟨n, rfl, q3, ⟨L ++ [⟨⟨n, o, bs, val, has, kk⟩, pv, bo, kp, Sk⟩], by simp, h.add (d := ⟨⟨n, o, bs, val, has, kk⟩, pv, bo, kp, Sk⟩) q1 hf q2 ?_ (fun g hg => Or.inl (q4 g hg))⟩, q2.mono h.mod.size⟩
  rintro j (rfl | e)
  · exact q3
  · exact q5 j e
end
end Go.Proofs.YtfhdiimcimafkaaGreatDoor
/- Nodes: Part. -/
namespace Go.Proofs.YtfhdiimcimafkaaGreatDoor
open Go.RowKit
theorem add0 (g j : Nat) : (⟨g, 0, none⟩ : Addr).add j = ⟨g, j, none⟩ := by
  simp [Addr.add]; omega
theorem made_cells (n : Nat) (z : Value) (hz : z.cells = #[z]) : madeCells z.cells (n * 1) = (List.replicate n z).toArray := by
  rw [hz]
  unfold madeCells
  apply Array.ext
  · simp
  · intro i h1 h2; simp [Nat.mod_one]
theorem u8_info : ∃ i, Tryz.prog.info? 5 = some i ∧ i.zero = some (.int .u8 0) ∧ i.size = 1 ∧ i.bytes = 1 := by
  have h := cloneB_info
  cases hi : Tryz.prog.info? 5 with
  | none => rw [hi] at h; simp at h
  | some i => rw [hi] at h; simp at h; exact ⟨i, rfl, h.1, h.2.1, h.2.2⟩
/-- make([]byte, n) -/
theorem make_u8 (w : World) (n : Nat) (hn : n ≤ 140737488355328) : (Instr.makeSlice 38 (.int .i64 (n : Nat)) (.int .i64 (n : Nat))).run Tryz.prog w = .ok (.slice (some ⟨w.heap.size, 0, none⟩) n n) (w.alloc (.cells (List.replicate n (.int .u8 0)).toArray 5)) := by
  obtain ⟨i, h1, h2, h3, h4⟩ := u8_info
  have := run_make (P := Tryz.prog) w _ _ i _ cloneB_under h1 h2 .i64 .i64 (n : Nat) (n : Nat) (by omega) (by omega) (by rw [h4]; omega) (by omega)
  rw [this, h3]
  simp only [Int.toNat_natCast]
  rw [made_cells n _ rfl]
/-- bytes that were made -/
def gotPost (bs : List Nat) (w : World) (e : Ending) (w' : World) : Prop := ∃ a c, e = .returned (.slice a bs.length c) ∧ BytesAt w' a bs ∧ Below w.heap.size w w'
section
variable {w : World} {n : Nat} {o : Int} {bs : List Nat} {val : Int} {has : Bool} {kk : Option KV} {pv : Value} {bo : Option Nat} {kp : Option Addr} {Sk : Nat → Prop}
set_option maxRecDepth 100000 in
theorem nd_part (h : NdIs w n o bs val has kk pv bo kp Sk) (h8 : ∀ x ∈ bs, x < 256) (hn : bs.length ≤ 140737488355328) : Calls Tryz.prog 63 #[.pointer (some ⟨n, 0, none⟩)] w (gotPost bs w) := by
  have c1 := h.c1
  obtain ⟨pa, pc, hpv⟩ := h.own.len
  subst hpv
  have hl : (bV bs).length = bs.length := by simp [bV]
  rw [hl] at c1
  have hmk : ∀ w, (Instr.makeSlice 38 (.int .i64 (bs.length : Nat)) (.int .i64 (bs.length : Nat))).run Tryz.prog w = .ok (.slice (some ⟨w.heap.size, 0, none⟩) bs.length bs.length) (w.alloc (.cells (List.replicate bs.length (.int .u8 0)).toArray 5)) := fun w => make_u8 w _ hn
  have c1' : ∀ o, (w.alloc o).cell? ⟨n, 1, none⟩ = some (.slice pa bs.length pc) := fun o => (((Below.refl _ w).alloc (Nat.le_refl _) o).cell (p := ⟨n, 1, none⟩) h.lt).trans c1
  have hsz : (Tryz.prog.info? 5).map (·.size) = some 1 := by kernel_rfl
  have hg : Hid (∀ t, (w.alloc (.cells (Array.replicate bs.length (.int .u8 0)) t)).heap[w.heap.size]? = some (.cells (List.replicate bs.length (Value.int .u8 0)).toArray t (0, 0))) := fun t => by
    rw [heap_alloc_new]; simp
  have hcs : Hid ((bV bs).length = Nat.min bs.length bs.length) := by
    have : Nat.min bs.length bs.length = bs.length := Nat.min_self _
    show _ = _
    rw [hl, this]
  have hpos : Hid (∀ o, 0 < (bV bs).length → (some ⟨w.heap.size, 0, none⟩ : Option Addr) = some ⟨w.heap.size, 0, none⟩ ∧ ∃ ad, pa = some ad ∧ ∀ j v, (bV bs)[j]? = some v → (w.alloc o).cell? (ad.add j) = some v) := fun o hp => by
    obtain ⟨g, cap, e1, e2, _⟩ := h.own.at_ hp
    have e3 : pa = some ⟨g, 0, none⟩ := by simpa using (Value.slice.inj e2).1
    refine ⟨rfl, ⟨g, 0, none⟩, e3, fun j v hj => ?_⟩
    have hjl : j < (bV bs).length := (List.getElem?_eq_some_iff.1 hj).1
    have hv : (bV bs)[j] = v := (List.getElem?_eq_some_iff.1 hj).2
    obtain ⟨g', cap', q1, q2, q3, _⟩ := h.own.at_ hjl
    obtain rfl : g = g' := by rw [e1] at q1; simpa using q1
    have hlt := h.own
    rw [e1] at hlt
    have h2 : (⟨g, 0, none⟩ : Addr).add j = ⟨g, j, none⟩ := add0 g j
    rw [h2, ((Below.refl _ w).alloc (Nat.le_refl _) o).cell (p := ⟨g, j, none⟩) hlt.lt, q3, hv]
  have hfit : Hid (0 + (bV bs).length ≤ (List.replicate bs.length (Value.int .u8 0)).length) := by show _ ≤ _; simp [hl]
  have hone := Lib.hid (bV_one bs)
  have hB : Hid (∀ o, Below w.heap.size w (w.alloc o)) := fun o => (Below.refl _ w).alloc (Nat.le_refl _) o
  have hend : Hid (∀ w' t, w'.heap[w.heap.size]? = some (.cells (splice (List.replicate bs.length (Value.int .u8 0)) 0 (bV bs)).toArray t (0, 0)) → BytesAt w' (some ⟨w.heap.size, 0, none⟩) bs) := fun w' t q => by
    refine ⟨h8, fun i hi => ⟨_, rfl, ?_, ?_⟩⟩
    · rw [add0]
      exact (Array.getElem?_eq_some_iff.1 q).1
    · rw [add0, cell_of_blk q]
      simp [splice, hl, bV, List.getD, hi]
  clear h hn h8
  go_enter Tryz.func63, Tryz.ntmps63
  go_wp2_with (with_reducible show wpList _ _ _ (⟨some 17, _, _, _, _, _⟩ :: _) _ _; refine wpList_copy_splice (o := ⟨some 17, _, _, _, _, _⟩) rfl (.tmp 12) (.tmp 16) 38 38 rfl 5 cloneB_under hsz _ _ _ _ _ _ rfl rfl w.heap.size 0 _ _ (hg.out _) (bV bs) hcs.out (hpos.out _) hfit.out hone.out w.heap.size w (hB.out _) (Nat.le_refl _) ?_; intro w' hg2 hb2; have q := Lib.hid (hend.out _ _ hg2.out))
  go_ret
  exact ⟨_, _, rfl, q.out, hb2⟩
end
end Go.Proofs.YtfhdiimcimafkaaGreatDoor
/- Nodes and a meter beside them; alive (spunyarnlaw12): a leaf that is another one's kid. -/
namespace Go.Proofs.YtfhdiimcimafkaaGreatDoor
open Go.RowKit
/-- a meter that has counted x -/
def Met (w : World) (b : Nat) (x : Int) : Prop := w.heap[b]? = some (.cells #[.int .i64 x] 67 (0, 0))
theorem Met.cell {w : World} {b : Nat} {x : Int} (h : Met w b x) : w.cell? ⟨b, 0, none⟩ = some (.int .i64 x) := by
  have := cell_of_blk (c := [.int .i64 x]) h 0
  rw [this]; rfl
theorem Met.fz {w : World} {b : Nat} {x : Int} (h : Met w b x) : w.frozen? ⟨b, 0, none⟩ = false := frozen_of_blk h 0
theorem Met.set {w : World} {b : Nat} {x : Int} (h : Met w b x) (y : Int) : Met (w.setCell ⟨b, 0, none⟩ (.int .i64 y)) b y := by
  have h' : w.heap[b]? = some (.cells [.int .i64 x].toArray 67 (0, 0)) := h
  unfold Met
  rw [setCell_list w b 0 _ _ _ h', setRow_heap w _ _ _ _ _ h']; rfl
/-- nodes, made since w0, and a meter of before -/
def NM (mb : Nat) (w0 w : World) (P : List NP) (x : Int) : Prop := mb < w0.heap.size ∧ StoreP (· = mb) w0 w P ∧ Met w mb x
section
variable {mb : Nat} {w0 w w' : World} {P : List NP} {x : Int}
theorem NM.turn {P' : List NP} (h : NM mb w0 w P x) (t : TurnsP (· = mb) w0 w P' w') : NM mb w0 w' P' x :=
  ⟨h.1, t.1, (t.2.block mb h.1).trans h.2.2⟩
theorem NM.below (h : NM mb w0 w P x) (t : Below w.heap.size w w') : NM mb w0 w' P x :=
  ⟨h.1, h.2.1.below t, (t.block mb (Nat.lt_of_lt_of_le h.1 h.2.1.size)).trans h.2.2⟩
theorem NM.alloc (h : NM mb w0 w P x) (o : Obj) : NM mb w0 (w.alloc o) P x := h.below ((Below.refl _ w).alloc (Nat.le_refl _) o)
theorem NM.drewN (h : NM mb w0 w P x) (n : Nat) : NM mb w0 (w.drewN n) P x := ⟨h.1, h.2.1.drewN n, h.2.2⟩
theorem NM.count (h : NM mb w0 w P x) (y : Int) : NM mb w0 (w.setCell ⟨mb, 0, none⟩ (.int .i64 y)) P y :=
  ⟨h.1, h.2.1.old (T := (· = mb)) ((Mod.refl _ w).setCell ⟨mb, 0, none⟩ _ (fun _ => rfl)) (fun j e => by rw [e]; exact h.1) (fun j e => e), h.2.2.set y⟩
theorem NM.start (w : World) (m : Nat) (h : Met w m 0) (hm : m < w.heap.size) : NM m w w [] 0 := ⟨hm, StoreP.nil _ (Mod.refl _ _), h⟩
/-- bytes over the meter's turn -/
theorem bytes_keep {a : Option Addr} {bs : List Nat} (h : BytesAt w a bs) {T : Nat → Prop} (hm : Mod T w w') (hT : ∀ p : Addr, a = some p → ¬ T p.block) : BytesAt w' a bs :=
  ⟨h.1, fun i hi => by
    obtain ⟨p, rfl, h1, h2⟩ := h.2 i hi
    have hb : (p.add i).block = p.block := by unfold Addr.add; split <;> rfl
    have := hm.same p.block (by rw [← hb]; exact h1) (hT p rfl)
    refine ⟨p, rfl, Nat.lt_of_lt_of_le h1 hm.size, ?_⟩
    rw [← h2]
    unfold World.cell?
    rw [hb, this]⟩
theorem nm_inner (h : NM mb w0 w P x) (hx : IntKind.i64.wrap (x + 1) = x + 1) (o : Int) (a : Option Addr) (n c : Nat) (bs : List Nat) (hn : bs.length = n) (hb : BytesAt w a bs) (hT : ∀ p : Addr, a = some p → p.block ≠ mb) (hl : n ≤ 140737488355328) (hnil : a = none → n = 0) : Calls Tryz.prog 50 #[.pointer (some ⟨mb, 0, none⟩), .int .u64 o, .slice a n c] w fun e w' => ∃ k, e = .returned (.pointer (some ⟨k, 0, none⟩)) ∧ w.heap.size ≤ k ∧ NM mb w0 w' (P ++ [⟨k, o, bs, 0, false, some []⟩]) (x + 1) := by
  have hq := h.count (x + 1)
  have hb' := bytes_keep hb ((Mod.refl (· = mb) w).setCell ⟨mb, 0, none⟩ (.int .i64 (x + 1)) (fun _ => rfl)) hT
  refine (nd_inner_made w _ _ o a n c bs (made_one w mb 0 x h.2.2.cell h.2.2.fz hx) hn hb' hl hnil).mono ?_
  intro e w' q
  obtain ⟨k, rfl, h1, h2⟩ := hq.2.1.made ⟨hb.1, by rw [hn]; exact hl⟩ q
  exact ⟨k, rfl, by simpa [World.setCell] using h1, hq.turn h2⟩
theorem nm_leaf (h : NM mb w0 w P x) (hx : IntKind.i64.wrap (x + 1) = x + 1) (o v : Int) (a : Option Addr) (n c : Nat) (bs : List Nat) (hn : bs.length = n) (hb : BytesAt w a bs) (hT : ∀ p : Addr, a = some p → p.block ≠ mb) (hl : n ≤ 140737488355328) (hnil : a = none → n = 0) : Calls Tryz.prog 51 #[.pointer (some ⟨mb, 0, none⟩), .int .u64 o, .slice a n c, .int .u64 v] w fun e w' => ∃ k, e = .returned (.pointer (some ⟨k, 0, none⟩)) ∧ w.heap.size ≤ k ∧ NM mb w0 w' (P ++ [⟨k, o, bs, v, true, none⟩]) (x + 1) := by
  have hq := h.count (x + 1)
  have hb' := bytes_keep hb ((Mod.refl (· = mb) w).setCell ⟨mb, 0, none⟩ (.int .i64 (x + 1)) (fun _ => rfl)) hT
  refine (nd_leaf_made w _ _ o v a n c bs (made_one w mb 0 x h.2.2.cell h.2.2.fz hx) hn hb' hl hnil).mono ?_
  intro e w' q
  obtain ⟨k, rfl, h1, h2⟩ := hq.2.1.made ⟨hb.1, by rw [hn]; exact hl⟩ q
  exact ⟨k, rfl, by simpa [World.setCell] using h1, hq.turn h2⟩
end
/-- one byte that the walk has just laid -/
theorem byte_new (w : World) (b : Nat) (hb : b < 256) (t : TypeId) (fr : Nat × Nat) : BytesAt (w.alloc (.cells #[.int .u8 (b : Nat)] t fr)) (some ⟨w.heap.size, 0, none⟩) [b] := by
  refine ⟨by simp; exact hb, fun i hi => ⟨_, rfl, ?_, ?_⟩⟩
  · rw [add0]; simp
  · obtain rfl : i = 0 := by simpa using hi
    rw [add0]
    have := Joins.cell_of_block (heap_alloc_new w (.cells #[.int .u8 (b : Nat)] t fr)) 0
    rw [this]; rfl
section
variable {w0 w : World} {P : List NP} {i : Nat} {p : NP} {X : Nat → Prop}
theorem sp_val (h : StoreP X w0 w P) (hi : P[i]? = some p) : Calls Tryz.prog 37 #[.pointer (some ⟨p.n, 0, none⟩)] w fun e w' => e = .returned (if p.has then .tuple #[.int .u64 p.val, .bool true] else .tuple #[.int .u64 0, .bool false]) ∧ w = w' := by
  obtain ⟨pv, bo, kp, Sk, q⟩ := h.is hi
  exact nd_val q
theorem sp_kind (h : StoreP X w0 w P) (hi : P[i]? = some p) : Calls Tryz.prog 36 #[.pointer (some ⟨p.n, 0, none⟩)] w fun e w' => e = .returned (.int .i64 (ndKind p.kk : Nat)) ∧ w = w' := by
  obtain ⟨pv, bo, kp, Sk, q⟩ := h.is hi
  exact nd_kind q
theorem sp_occ (h : StoreP X w0 w P) (hi : P[i]? = some p) : Calls Tryz.prog 45 #[.pointer (some ⟨p.n, 0, none⟩)] w fun e w' => e = .returned (.int .i64 (if p.has then (klen p.kk + 1 : Nat) else (klen p.kk : Nat))) ∧ w = w' := by
  obtain ⟨pv, bo, kp, Sk, q⟩ := h.is hi
  exact nd_occ q
theorem sp_len (h : StoreP X w0 w P) (hi : P[i]? = some p) : Calls Tryz.prog 72 #[.pointer (some ⟨p.n, 0, none⟩)] w fun e w' => e = .returned (.int .i64 (klen p.kk : Nat)) ∧ w = w' := by
  obtain ⟨pv, bo, kp, Sk, q⟩ := h.is hi
  exact nd_len q
theorem sp_part (h : StoreP X w0 w P) (hi : P[i]? = some p) : Calls Tryz.prog 63 #[.pointer (some ⟨p.n, 0, none⟩)] w (gotPost p.bs w) := by
  obtain ⟨pv, bo, kp, Sk, q⟩ := h.is hi
  exact nd_part q (h.fit hi).1 (h.fit hi).2
theorem sp_setval_no (h : StoreP X w0 w P) (hi : P[i]? = some p) (x v : Int) (h0 : x = 0 ∨ x ≠ p.o) : Calls Tryz.prog 52 #[.pointer (some ⟨p.n, 0, none⟩), .int .u64 x, .int .u64 v] w fun e w' => e = .returned (.int .i64 11) ∧ w = w' := by
  obtain ⟨pv, bo, kp, Sk, q⟩ := h.is hi
  exact nd_setval_no q x v h0
end
/-- alive's nodes -/
def aN (n k : Nat) : NP := ⟨n, 3, [97], 0, false, some [(7, .pointer (some ⟨k, 0, none⟩))]⟩
def aK (k : Nat) : NP := ⟨k, 3, [98], 5, true, none⟩
end Go.Proofs.YtfhdiimcimafkaaGreatDoor
/- A node whom nobody changes: what is asked of it, told by what it answers. -/
namespace Go.Proofs.YtfhdiimcimafkaaGreatDoor
open Go.RowKit
theorem BytesAt.below {w w' : World} {a : Option Addr} {bs : List Nat} (h : BytesAt w a bs) (hb : Below w.heap.size w w') : BytesAt w' a bs := bytes_keep h (Mod.of_below (S := fun _ => False) hb) (fun _ _ e => e)
theorem BytesAt.drewN {w : World} {a : Option Addr} {bs : List Nat} (h : BytesAt w a bs) (n : Nat) : BytesAt (w.drewN n) a bs := ⟨h.1, h.2⟩
theorem ptr_under : Tryz.prog.underlying 26 = some (.pointer ndT) := by kernel_rfl
theorem ptr_info : ∃ j, Tryz.prog.info? ndT = some j := Option.isSome_iff_exists.1 (by kernel_rfl)
theorem ptr_eq (w : World) (a : Addr) : (binOp .eql 26 (.pointer (some a)) (.pointer (some a))).run Tryz.prog w = .ok (.bool true) w := by
  obtain ⟨j, hj⟩ := ptr_info
  exact run_eql_ptr_same w a ptr_under hj
theorem ptr_neq (w : World) (a : Addr) : (binOp .neq 26 (.pointer (some a)) (.pointer (some a))).run Tryz.prog w = .ok (.bool false) w := by
  obtain ⟨j, hj⟩ := ptr_info
  exact Lib.run_neq_ptr_same w a ptr_under hj
def NoX (_ : Nat) : Prop := False
/-- a node at n, by what it answers -/
def Frz (w0 : World) (n : Nat) (o : Int) (bs : List Nat) (val : Int) (has : Bool) (many : Nat) (b : Nat) (kid : Value) (w : World) : Prop :=
  ∃ (P : List NP) (i : Nat) (p : NP), StoreP NoX w0 w P ∧ P[i]? = some p ∧ p.n = n ∧ p.o = o ∧ p.bs = bs ∧ p.val = val ∧ p.has = has ∧ klen p.kk = many ∧ (kget (p.kk.getD []) b).getD (.pointer none) = kid
section
variable {w0 w w' : World} {n : Nat} {o : Int} {bs : List Nat} {val : Int} {has : Bool} {many b : Nat} {kid : Value}
theorem Frz.below (h : Frz w0 n o bs val has many b kid w) (hb : Below w.heap.size w w') : Frz w0 n o bs val has many b kid w' := by
  obtain ⟨P, i, p, h1, h2⟩ := h; exact ⟨P, i, p, h1.below hb, h2⟩
theorem Frz.drewN (h : Frz w0 n o bs val has many b kid w) (k : Nat) : Frz w0 n o bs val has many b kid (w.drewN k) := by
  obtain ⟨P, i, p, h1, h2⟩ := h; exact ⟨P, i, p, h1.drewN k, h2⟩
theorem Frz.old (h : Frz w0 n o bs val has many b kid w) : Below w0.heap.size w0 w := by
  obtain ⟨P, i, p, h1, h2⟩ := h; exact Mod.below h1.mod
theorem fz_val (h : Frz w0 n o bs val has many b kid w) : Calls Tryz.prog 37 #[.pointer (some ⟨n, 0, none⟩)] w fun e w' => e = .returned (if has then .tuple #[.int .u64 val, .bool true] else .tuple #[.int .u64 0, .bool false]) ∧ w = w' := by
  obtain ⟨P, i, p, h1, h2, rfl, rfl, rfl, rfl, rfl, rfl, rfl⟩ := h; exact sp_val h1 h2
theorem fz_len (h : Frz w0 n o bs val has many b kid w) : Calls Tryz.prog 72 #[.pointer (some ⟨n, 0, none⟩)] w fun e w' => e = .returned (.int .i64 (many : Nat)) ∧ w = w' := by
  obtain ⟨P, i, p, h1, h2, rfl, rfl, rfl, rfl, rfl, rfl, rfl⟩ := h; exact sp_len h1 h2
theorem fz_part (h : Frz w0 n o bs val has many b kid w) : Calls Tryz.prog 63 #[.pointer (some ⟨n, 0, none⟩)] w (gotPost bs w) := by
  obtain ⟨P, i, p, h1, h2, rfl, rfl, rfl, rfl, rfl, rfl, rfl⟩ := h; exact sp_part h1 h2
theorem fz_setval_no (h : Frz w0 n o bs val has many b kid w) (x v : Int) (h0 : x = 0 ∨ x ≠ o) : Calls Tryz.prog 52 #[.pointer (some ⟨n, 0, none⟩), .int .u64 x, .int .u64 v] w fun e w' => e = .returned (.int .i64 11) ∧ w = w' := by
  obtain ⟨P, i, p, h1, h2, rfl, rfl, rfl, rfl, rfl, rfl, rfl⟩ := h; exact sp_setval_no h1 h2 x v h0
theorem fz_setkid_no (h : Frz w0 n o bs val has many b kid w) (x : Int) (c : Nat) (k : Option Addr) (h0 : x = 0 ∨ x ≠ o) : Calls Tryz.prog 53 #[.pointer (some ⟨n, 0, none⟩), .int .u64 x, .int .u8 c, .pointer k] w fun e w' => e = .returned (.int .i64 11) ∧ w = w' := by
  obtain ⟨P, i, p, h1, h2, rfl, rfl, rfl, rfl, rfl, rfl, rfl⟩ := h
  obtain ⟨pv, bo, kp, Sk, q⟩ := h1.is h2
  exact nd_setkid_no q x c k h0
end
/-- a slice that came in: its bytes -/
structure In8 (w : World) (a : Option Addr) (n c : Nat) (bs : List Nat) : Prop where
  len : bs.length = n
  at_ : BytesAt w a bs
  cap : n ≤ 140737488355328
  nil : a = none → n = 0
section
variable {w0 w w' : World} {P : List NP} {a : Option Addr} {n c : Nat} {bs : List Nat} {X : Nat → Prop}
theorem In8.below (h : In8 w a n c bs) (hb : Below w.heap.size w w') : In8 w' a n c bs := ⟨h.len, h.at_.below hb, h.cap, h.nil⟩
theorem In8.drewN (h : In8 w a n c bs) (k : Nat) : In8 (w.drewN k) a n c bs := ⟨h.len, h.at_.drewN k, h.cap, h.nil⟩
theorem sp_inner0 (h : StoreP X w0 w P) (hi : In8 w a n c bs) (o : Int) : Calls Tryz.prog 50 #[.pointer none, .int .u64 o, .slice a n c] w fun e w' => ∃ k, e = .returned (.pointer (some ⟨k, 0, none⟩)) ∧ TurnsP X w0 w (P ++ [⟨k, o, bs, 0, false, some []⟩]) w' ∧ Below w.heap.size w w' := by
  refine (nd_inner_made w w none o a n c bs ((made_nil 1 w).mono fun e w' q => ⟨q.1, q.2.symm⟩) hi.len hi.at_ hi.cap hi.nil).mono ?_
  intro e w' q
  have hq := q
  obtain ⟨_, _, _, _, _, _, _, q2, _⟩ := hq
  obtain ⟨k, rfl, h1, h2⟩ := h.made ⟨hi.at_.1, by rw [hi.len]; exact hi.cap⟩ q
  exact ⟨k, rfl, h2, q2⟩
theorem sp_leaf0 (h : StoreP X w0 w P) (hi : In8 w a n c bs) (o v : Int) : Calls Tryz.prog 51 #[.pointer none, .int .u64 o, .slice a n c, .int .u64 v] w fun e w' => ∃ k, e = .returned (.pointer (some ⟨k, 0, none⟩)) ∧ TurnsP X w0 w (P ++ [⟨k, o, bs, v, true, none⟩]) w' ∧ Below w.heap.size w w' := by
  refine (nd_leaf_made w w none o v a n c bs ((made_nil 1 w).mono fun e w' q => ⟨q.1, q.2.symm⟩) hi.len hi.at_ hi.cap hi.nil).mono ?_
  intro e w' q
  have hq := q
  obtain ⟨_, _, _, _, _, _, _, q2, _⟩ := hq
  obtain ⟨k, rfl, h1, h2⟩ := h.made ⟨hi.at_.1, by rw [hi.len]; exact hi.cap⟩ q
  exact ⟨k, rfl, h2, q2⟩
end
end Go.Proofs.YtfhdiimcimafkaaGreatDoor
/- Slices of pairs that came in, or were made; whether they are too many or too long. -/
namespace Go.Proofs.YtfhdiimcimafkaaGreatDoor
open Go.RowKit
/-- a slice of bytes, with what is known of its room -/
structure Sl (w : World) (a : Option Addr) (n c : Nat) (bs : List Nat) : Prop where
  len : bs.length = n
  at_ : BytesAt w a bs
  cap : n ≤ c
  capm : c ≤ maxLen
  nil : a = none → n = 0 ∧ c = 0
section
variable {w w' : World} {a : Option Addr} {n c : Nat} {bs : List Nat}
theorem Sl.below (h : Sl w a n c bs) (hb : Below w.heap.size w w') : Sl w' a n c bs := ⟨h.len, h.at_.below hb, h.cap, h.capm, h.nil⟩
theorem Sl.drewN (h : Sl w a n c bs) (k : Nat) : Sl (w.drewN k) a n c bs := ⟨h.len, h.at_.drewN k, h.cap, h.capm, h.nil⟩
theorem sl_nil (w : World) : Sl w none 0 0 [] := ⟨rfl, ⟨by simp, fun i hi => by simp at hi⟩, Nat.le_refl _, Nat.zero_le _, fun _ => ⟨rfl, rfl⟩⟩
end
/-- a pair at a place -/
def PrC (w : World) (p : Addr) (i : Nat) (x : List Nat × Int) : Prop :=
  (p.add (i * 2)).block < w.heap.size ∧ ∃ a n c, w.cell? (p.add (i * 2)) = some (.slice a n c) ∧ w.cell? ⟨(p.add (i * 2)).block, (p.add (i * 2)).off + 1, none⟩ = some (.int .u64 x.2) ∧ Sl w a n c x.1
/-- a slice of pairs -/
structure Prs (w : World) (a : Option Addr) (n c : Nat) (l : PL) : Prop where
  len : l.length = n
  cap : n ≤ c
  capm : c ≤ maxLen
  nil : a = none → n = 0 ∧ c = 0
  val : ∀ x ∈ l, 0 ≤ x.2 ∧ x.2 < 18446744073709551616
  at_ : ∀ i, i < l.length → ∃ p, a = some p ∧ PrC w p i (l.getD i ([], 0))
theorem add_block (a : Addr) (n : Nat) : (a.add n).block = a.block := by unfold Addr.add; split <;> rfl
section
variable {w w' : World} {a : Option Addr} {n c i : Nat} {l : PL} {p : Addr} {x : List Nat × Int}
theorem PrC.below (h : PrC w p i x) (hb : Below w.heap.size w w') : PrC w' p i x := by
  obtain ⟨h0, a, n, c, h1, h2, h3⟩ := h
  refine ⟨Nat.lt_of_lt_of_le h0 hb.size, a, n, c, (hb.cell h0).trans h1, (hb.cell (p := ⟨(p.add (i * 2)).block, _, none⟩) h0).trans h2, h3.below hb⟩
theorem Prs.below (h : Prs w a n c l) (hb : Below w.heap.size w w') : Prs w' a n c l :=
  ⟨h.len, h.cap, h.capm, h.nil, h.val, fun i hi => by obtain ⟨p, e, q⟩ := h.at_ i hi; exact ⟨p, e, q.below hb⟩⟩
theorem Prs.drewN (h : Prs w a n c l) (k : Nat) : Prs (w.drewN k) a n c l := h.below (below_drewN (Below.refl _ w) k)
theorem Prs.alloc (h : Prs w a n c l) (o : Obj) : Prs (w.alloc o) a n c l := h.below ((Below.refl _ w).alloc (Nat.le_refl _) o)
theorem prs_nil (w : World) : Prs w none 0 0 [] := ⟨rfl, Nat.le_refl _, Nat.zero_le _, fun _ => ⟨rfl, rfl⟩, by simp, fun i hi => by simp at hi⟩
end
theorem PrC.cells {w : World} {p : Addr} {i : Nat} {x : List Nat × Int} (h : PrC w p i x) : ∃ a n c, w.cell? (p.add (i * 2)) = some (.slice a n c) ∧ w.cell? ⟨(p.add (i * 2)).block, (p.add (i * 2)).off + 1, none⟩ = some (.int .u64 x.2) ∧ Sl w a n c x.1 := h.2
def farL (m : Nat) (l : PL) : Bool := l.any fun x => decide (m < x.1.length)
theorem farL_at {m : Nat} {l : PL} {i : Nat} (hi : i < l.length) (h : m < (l.getD i ([], 0)).1.length) : farL m l = true := by
  unfold farL
  rw [List.any_eq_true]
  refine ⟨l.getD i ([], 0), ?_, by simpa using h⟩
  rw [List.getD, List.getElem?_eq_getElem hi]
  exact List.getElem_mem _
theorem farL_no {m : Nat} {l : PL} (h : ∀ i, i < l.length → (l.getD i ([], 0)).1.length ≤ m) : farL m l = false := by
  unfold farL
  rw [List.any_eq_false]
  intro x hx
  obtain ⟨i, hi, rfl⟩ := List.getElem_of_mem hx
  have := h i hi
  rw [List.getD, List.getElem?_eq_getElem hi] at this
  simp at this ⊢
  omega
def farPost (b : Bool) (w : World) (e : Ending) (w' : World) : Prop := e = .returned (.bool b) ∧ Below w.heap.size w w'
end Go.Proofs.YtfhdiimcimafkaaGreatDoor
/- keys.Common, Cmp, Sorted, May, canon's check; bytes.Compare, bytes.HasPrefix. -/
namespace Go.Proofs
namespace YtfhdiimcimafkaaGreatDoor
open Go.RowKit
/-! Bytes told by natural numbers, as the library tells them. -/
def Zs (s : List Nat) : List Int := s.map fun b => ((b : Nat) : Int)
def U8 (s : List Nat) : List UInt8 := s.map UInt8.ofNat
theorem bytesOf_nat (s : List Nat) : Lib.bytesOf (Zs s) = U8 s := by
  unfold Lib.bytesOf Zs U8
  rw [List.map_map]
  rfl
theorem getD_nat (s : List Nat) (i : Nat) : (Zs s).getD i 0 = ((s.getD i 0 : Nat) : Int) := by
  unfold Zs
  simp only [List.getD, List.getElem?_map]
  cases s[i]? <;> rfl
theorem zs_len (s : List Nat) : (Zs s).length = s.length := by simp [Zs]
theorem BytesAt.ints {w : World} {p : Addr} {s : List Nat} (h : BytesAt w (some p) s) : ∀ i, i < s.length → w.cell? (p.add i) = some (.int .u8 ((Zs s).getD i 0)) := fun i hi => by
  obtain ⟨q, hq, _, h2⟩ := h.2 i hi
  obtain rfl : p = q := by simpa using hq
  rw [h2, getD_nat]
theorem Sl.in_ {w : World} {a : Option Addr} {n c : Nat} {s : List Nat} (h : Sl w a n c s) : Lib.BytesIn w a n (Zs s) := by
  cases a with
  | none => obtain ⟨rfl, rfl⟩ := h.nil rfl; exact Lib.BytesIn.nil _ _ _
  | some p => exact Lib.BytesIn.of_cells fun i hi => h.at_.ints i (by rw [h.len]; exact hi)
theorem u8_lt {x y : Nat} (hx : x < 256) (hy : y < 256) : UInt8.ofNat x < UInt8.ofNat y ↔ x < y := by
  rw [UInt8.lt_iff_toNat_lt, UInt8.toNat_ofNat', UInt8.toNat_ofNat', Nat.mod_eq_of_lt hx, Nat.mod_eq_of_lt hy]
theorem u8_eq {x y : Nat} (hx : x < 256) (hy : y < 256) : UInt8.ofNat x = UInt8.ofNat y ↔ x = y := by
  rw [← UInt8.toNat_inj, UInt8.toNat_ofNat', UInt8.toNat_ofNat', Nat.mod_eq_of_lt hx, Nat.mod_eq_of_lt hy]
theorem compare_nat : ∀ (s t : List Nat), (∀ x ∈ s, x < 256) → (∀ x ∈ t, x < 256) → Lib.compareBytes (U8 s) (U8 t) = bcmp s t
  | [], [], _, _ => rfl
  | [], y :: t, _, _ => by rw [bcmp_nc]; rfl
  | x :: s, [], _, _ => by rw [bcmp_cn]; rfl
  | x :: s, y :: t, hs, ht => by
    have hx : x < 256 := hs x (by simp)
    have hy : y < 256 := ht y (by simp)
    have ih := compare_nat s t (fun z hz => hs z (by simp [hz])) (fun z hz => ht z (by simp [hz]))
    show (if UInt8.ofNat x < UInt8.ofNat y then (-1 : Int) else if UInt8.ofNat y < UInt8.ofNat x then 1 else Lib.compareBytes (U8 s) (U8 t)) = _
    rw [ih]
    simp only [u8_lt hx hy, u8_lt hy hx]
    rcases Nat.lt_trichotomy x y with h | h | h
    · rw [if_pos h, bcmp_lt h]
    · subst h; simp [bcmp_same]
    · rw [if_neg (by omega), if_pos h, bcmp_gt h]
theorem prefix_nat : ∀ (s t : List Nat), (∀ x ∈ s, x < 256) → (∀ x ∈ t, x < 256) → Lib.hasPrefix (U8 s) (U8 t) = decide (t <+: s)
  | s, [], _, _ => by simp [U8, Lib.hasPrefix]
  | [], y :: t, _, _ => by simp [U8, Lib.hasPrefix]
  | x :: s, y :: t, hs, ht => by
    have hx : x < 256 := hs x (by simp)
    have hy : y < 256 := ht y (by simp)
    have ih := prefix_nat s t (fun z hz => hs z (by simp [hz])) (fun z hz => ht z (by simp [hz]))
    show (UInt8.ofNat y == UInt8.ofNat x && Lib.hasPrefix (U8 s) (U8 t)) = _
    rw [ih, Bool.eq_iff_iff]
    simp [u8_eq hy hx, List.cons_prefix_cons]
theorem run_bytesOf {w : World} {a : Option Addr} {n c : Nat} {s : List Nat} (h : Sl w a n c s) : (Extern.Bytes.bytesOf (.slice a n c)).run Tryz.prog w = .ok ⟨(U8 s).toArray⟩ w := by
  cases a with
  | none =>
    obtain ⟨rfl, rfl⟩ := h.nil rfl
    obtain rfl : s = [] := List.eq_nil_of_length_eq_zero h.len
    rfl
  | some p =>
    have := Lib.run_loadBytesX (P := Tryz.prog) w (Zs s) p .empty (fun j x hj => by
      have hjl : j < s.length := by have := (List.getElem?_eq_some_iff.1 hj).1; rwa [zs_len] at this
      rw [h.at_.ints j hjl, List.getD, hj]; rfl)
    rw [zs_len, h.len, bytesOf_nat] at this
    show (Extern.Bytes.loadBytes p n .empty).run Tryz.prog w = _
    rw [this]
    congr 1
    apply ByteArray.ext
    show (#[] : Array UInt8) ++ (U8 s).toArray = (U8 s).toArray
    simp
theorem run_compare {w : World} {a b : Option Addr} {n c m d : Nat} {s t : List Nat} (h : Sl w a n c s) (k : Sl w b m d t) : (Extern.BytealgCompare.compare #[.slice a n c, .slice b m d]).run Tryz.prog w = .ok (.int .i64 (bcmp s t)) w := by
  change Sem.run Tryz.prog (do pure (goInt (Extern.BytealgCompare.cmp (← Extern.Bytes.bytesOf (.slice a n c)) (← Extern.Bytes.bytesOf (.slice b m d))))) w = _
  simp only [Sem.run_bind, run_bytesOf h, run_bytesOf k, Sem.run_pure, Result.andThen]
  rw [Lib.cmp_eq]
  show Result.ok (goInt (Lib.compareBytes (U8 s) (U8 t))) w = _
  rw [compare_nat s t h.at_.1 k.at_.1]
  rfl
theorem lib_compare {w : World} {a b : Option Addr} {n c m d : Nat} {s t : List Nat} (h : Sl w a n c s) (k : Sl w b m d t) : Calls Tryz.prog 99 #[.slice a n c, .slice b m d] w fun e w' => e = .returned (.int .i64 (bcmp s t)) ∧ w = w' := by
  have hx : (callFunc 117 #[.slice a n c, .slice b m d]).run Tryz.prog w = .ok (.value (.int .i64 (bcmp s t))) w := by
    rw [run_callFunc_extern Tryz.func117 (by kernel_rfl) (by kernel_rfl) (by kernel_rfl) (e := Extern.BytealgCompare.compare) (by kernel_rfl), run_compare h k]
    rfl
  generalize bcmp s t = V at *
  clear h k
  go_enter Tryz.func99, Tryz.ntmps99
  go_wp2_with fail
  go_ret
  exact ⟨rfl, rfl⟩
theorem keys_cmp {w : World} {a b : Option Addr} {n c m d : Nat} {s t : List Nat} (h : Sl w a n c s) (k : Sl w b m d t) : Calls Tryz.prog 82 #[.slice a n c, .slice b m d] w fun e w' => e = .returned (.int .i64 (bcmp s t)) ∧ w = w' := by
  have hC := Lib.hid (lib_compare h k)
  generalize bcmp s t = V at *
  clear h k
  go_enter Tryz.func82, Tryz.ntmps82
  go_wp2_with (go_at_call 99; refine hC.out.mono ?_; rintro e w' ⟨rfl, rfl⟩)
  go_ret
  exact ⟨rfl, rfl⟩
theorem keys_may {w : World} {a : Option Addr} {n c : Nat} : Calls Tryz.prog 46 #[.slice a n c] w fun e w' => e = .returned (.int .i64 (if 65535 < n then 8 else 0)) ∧ w = w' := by
  by_cases h : 65535 < n
  · rw [if_pos h]
    have h2 : (65535 : Int) < (n : Int) := by omega
    clear h
    go_enter Tryz.func46, Tryz.ntmps46
    go_wp2_with fail
    go_ret
    exact ⟨rfl, rfl⟩
  · rw [if_neg h]
    have h2 : ¬ (65535 : Int) < (n : Int) := by omega
    clear h
    go_enter Tryz.func46, Tryz.ntmps46
    go_wp2_with fail
    go_ret
    exact ⟨rfl, rfl⟩
set_option maxRecDepth 100000 in
theorem keys_common (w : World) (a1 a2 : Option Addr) (n1 c1 n2 c2 : Nat) (xs ys : List Nat) (h1 : BytesAt w a1 xs) (h2 : BytesAt w a2 ys) (l1 : xs.length = n1) (l2 : ys.length = n2) (m1 : n1 ≤ maxLen) (m2 : n2 ≤ maxLen) : Calls Tryz.prog 61 #[.slice a1 n1 c1, .slice a2 n2 c2] w fun e w' => e = .returned (.int .i64 (lcp xs ys : Nat)) ∧ ∃ k, w' = w.drewN k := by
  have H1 := Lib.hid h1
  have H2 := Lib.hid h2
  have L1 := Lib.hid l1
  have L2 := Lib.hid l2
  have M1 : n1 ≤ 9223372036854775807 := m1
  have M2 : n2 ≤ 9223372036854775807 := m2
  obtain ⟨V, hV⟩ : ∃ V : Nat, Hid (lcp xs ys = V) := ⟨_, rfl⟩
  rw [hV.out]
  obtain ⟨m, hm⟩ : ∃ m, m = min n1 n2 := ⟨_, rfl⟩
  have hmi : min (n1 : Int) (n2 : Int) = (m : Int) := by omega
  have hm1 : m ≤ n1 := by omega
  have hm2 : m ≤ n2 := by omega
  have hm3 : Hid (m = n1 ∨ m = n2) := by show _ ∨ _; omega
  clear h1 h2 l1 l2 m1 m2 hm
  go_enter Tryz.func61, Tryz.ntmps61
  go_wp2_with fail
  go_loopw [11] (fun vi wr => ∃ i k : Nat, vi = .int .i64 (i : Nat) ∧ i ≤ m ∧ Hid (∀ j, j < i → xs.getD j 0 = ys.getD j 0) ∧ wr = w.drewN k) (fun vi _ => (m - intOf vi).toNat)
  case atStart => exact ⟨0, 0, rfl, by omega, (fun j hj => absurd hj (Nat.not_lt_zero j)), rfl⟩
  case round =>
    obtain ⟨i, k, rfl, hi1, heq, rfl⟩ := hrel
    by_cases g1 : i < m
    · obtain ⟨p, rfl, hp⟩ := H1.out.cellN (i := i) (by rw [L1.out]; omega)
      obtain ⟨q, rfl, hq⟩ := H2.out.cellN (i := i) (by rw [L2.out]; omega)
      have j0 : (i : Int) < (m : Int) := by omega
      have j1 : (i : Int) < (n1 : Int) := by omega
      have j2 : (i : Int) < (n2 : Int) := by omega
      have hw9 : IntKind.i64.wrap (((i : Nat) : Int) + 1) = ((i : Nat) : Int) + 1 := IntWalk.i64_in _ (by omega)
      by_cases he : xs.getD i 0 = ys.getD i 0
      · have hn : Hid (∀ j, j < i + 1 → xs.getD j 0 = ys.getD j 0) := fun j hj => by
          by_cases e : j = i
          · subst e; exact he
          · exact heq.out j (by omega)
        rw [← he] at hq
        generalize xs.getD i 0 = u at *
        clear he
        go_wp2_with fail
        go_quiet (fail)
        go_wp2_with fail
        go_roundw
        case rel => exact ⟨i + 1, k + nq, (by first | rfl | go_num), by omega, hn, by simp⟩
        case measure => (simp [intOf]) <;> omega
      · have hR : Hid (i = V) := ((lcp_stop xs ys i heq.out (by rw [L1.out]; omega) (by rw [L2.out]; omega) (Or.inr (Or.inr he))).symm.trans hV.out : i = V)
        have he2 : ((xs.getD i 0 : Nat) : Int) ≠ ((ys.getD i 0 : Nat) : Int) := by omega
        have he3 : (((xs.getD i 0 : Nat) : Int) == ((ys.getD i 0 : Nat) : Int)) = false := by simpa using he2
        generalize xs.getD i 0 = u at *
        generalize ys.getD i 0 = v at *
        clear he he2
        go_wp2_with fail
        go_quiet (fail)
        go_wp2_with fail
        go_ret
        exact ⟨congrArg (fun n : Nat => Ending.returned (.int .i64 (n : Int))) hR.out, _, World.drewN_drewN _ _ _⟩
    · obtain rfl : i = m := by omega
      have hR : Hid (i = V) := ((lcp_stop xs ys i heq.out (by rw [L1.out]; omega) (by rw [L2.out]; omega) (by rw [L1.out, L2.out]; rcases hm3.out with h | h <;> simp [h])).symm.trans hV.out : i = V)
      have j0 : ¬ (i : Int) < (i : Int) := by omega
      go_wp2_with fail
      go_ret
      exact ⟨congrArg (fun n : Nat => Ending.returned (.int .i64 (n : Int))) hR.out, _, rfl⟩
end YtfhdiimcimafkaaGreatDoor
end Go.Proofs
/- keys.Sorted, canon's check: pairs that rise, none too long. -/
namespace Go.Proofs.YtfhdiimcimafkaaGreatDoor
open Go.RowKit
/-- each one stands ahead of the next -/
def srtB (l : PL) : Bool := (List.range (l.length - 1)).all fun i => decide (bcmp (l.getD i ([], 0)).1 (l.getD (i + 1) ([], 0)).1 < 0)
theorem bcmp_neg {s t : List Nat} : bcmp s t < 0 ↔ slt s t := by
  rcases bcmp_three s t with ⟨h, e⟩ | ⟨h, e⟩ | ⟨h, e⟩
  · simp [h, e]
  · simp [slt, e]
  · simp [slt, e]
theorem srtB_iff {l : PL} : srtB l = true ↔ ∀ i, i + 1 < l.length → slt (l.getD i ([], 0)).1 (l.getD (i + 1) ([], 0)).1 := by
  unfold srtB
  rw [List.all_eq_true]
  simp only [List.mem_range, decide_eq_true_eq, bcmp_neg]
  constructor
  · intro h i hi; exact h i (by omega)
  · intro h i hi; exact h i (by omega)
theorem psrt_adj : ∀ (l : PL), (∀ i, i + 1 < l.length → slt (l.getD i ([], 0)).1 (l.getD (i + 1) ([], 0)).1) → PSrt l
  | [], _ => List.Pairwise.nil
  | [a], _ => List.pairwise_singleton _ _
  | a :: b :: r, h => by
    have ih := psrt_adj (b :: r) (fun i hi => by have := h (i + 1) (by simp at hi ⊢; omega); simpa using this)
    have hab : slt a.1 b.1 := by simpa using h 0 (by simp)
    refine List.pairwise_cons.2 ⟨?_, ih⟩
    intro c hc
    rw [List.map_cons] at hc
    rcases List.mem_cons.1 hc with rfl | hc
    · exact hab
    · exact slt_trans hab ((List.pairwise_cons.1 ih).1 c hc)
theorem getD_of_lt {α : Type} {l : List α} {i : Nat} {d : α} (h : i < l.length) : l.getD i d = l[i] := by
  rw [List.getD, List.getElem?_eq_getElem h]; rfl
theorem PSrt.at_ {l : PL} (h : PSrt l) {i j : Nat} (hij : i < j) (hj : j < l.length) : slt (l.getD i ([], 0)).1 (l.getD j ([], 0)).1 := by
  have := List.pairwise_iff_getElem.1 h i j (by simp; omega) (by simpa using hj) hij
  rw [getD_of_lt hj, getD_of_lt (show i < l.length by omega)]
  simpa using this
theorem srtB_srt {l : PL} : srtB l = true ↔ PSrt l := by
  rw [srtB_iff]
  exact ⟨psrt_adj l, fun h i hi => h.at_ (by omega) hi⟩
def drewPost (v : Value) (w : World) (e : Ending) (w' : World) : Prop := e = .returned v ∧ ∃ k, w' = w.drewN k
set_option maxHeartbeats 1000000 in
set_option maxRecDepth 100000 in
theorem keys_sorted (w : World) (a : Option Addr) (n c : Nat) (l : PL) (h : Prs w a n c l) : Calls Tryz.prog 60 #[.slice a n c] w (drewPost (.bool (srtB l)) w) := by
  have H := Lib.hid h
  obtain ⟨V, hV⟩ : ∃ V, V = srtB l := ⟨_, rfl⟩
  have HV := Lib.hid hV
  have hl := Lib.hid h.len
  have hn : n ≤ 9223372036854775807 := Nat.le_trans h.cap h.capm
  rw [← hV]
  clear h hV
  go_enter Tryz.func60, Tryz.ntmps60
  go_wp2_with fail
  go_loopw [3] (fun vi wr => ∃ i : Nat, vi = .int .i64 (i : Nat) ∧ 1 ≤ i ∧ i ≤ n + 1 ∧ Hid (∀ j, j + 1 < i → j + 1 < n → slt (l.getD j ([], 0)).1 (l.getD (j + 1) ([], 0)).1) ∧ Hid (∃ k, wr = w.drewN k)) (fun vi _ => (n + 1 - intOf vi).toNat)
  case atStart => exact ⟨1, rfl, by omega, by omega, fun j hj => absurd hj (by omega), 0, rfl⟩
  case round =>
    obtain ⟨i, rfl, hi1, hi2, hA, hw⟩ := hrel
    by_cases hlt : i < n
    · have hlt2 : (i : Int) < (n : Int) := by omega
      obtain ⟨j, rfl⟩ : ∃ j, i = j + 1 := ⟨i - 1, by omega⟩
      have HP : Hid (Prs wr a n c l) := by
        obtain ⟨k, rfl⟩ := hw.out
        exact H.out.drewN k
      obtain ⟨p, rfl, q⟩ := HP.out.at_ (j + 1) (by rw [hl.out]; exact hlt)
      obtain ⟨p', hp', q'⟩ := HP.out.at_ j (by rw [hl.out]; omega)
      obtain rfl : p = p' := by simpa using hp'
      obtain ⟨a3, n3, c3, q1, q2, q3⟩ := q.cells
      obtain ⟨a4, n4, c4, q4, q5, q6⟩ := q'.cells
      have hw0 : IntKind.i64.wrap (((j + 1 : Nat) : Int) - 1) = (j : Nat) := by rw [show ((j + 1 : Nat) : Int) - 1 = (j : Nat) by omega]; exact IntWalk.i64_in _ (by omega)
      have hw8 : (0 : Int) ≤ (j : Nat) := by omega
      have hw7 : ((j : Nat) : Int) < (n : Int) := by omega
      have hw9 : IntKind.i64.wrap (((j + 1 : Nat) : Int) + 1) = ((j + 1 + 1 : Nat) : Int) := by rw [show ((j + 1 : Nat) : Int) + 1 = ((j + 1 + 1 : Nat) : Int) by omega]; exact IntWalk.i64_in _ (by omega)
      have hC : Hid (∀ k, Calls Tryz.prog 82 #[.slice a4 n4 c4, .slice a3 n3 c3] (wr.drewN k) fun e w' => e = .returned (.int .i64 (bcmp (l.getD j ([], 0)).1 (l.getD (j + 1) ([], 0)).1)) ∧ w' = wr.drewN k) := fun k => (keys_cmp (q6.drewN k) (q3.drewN k)).mono fun e w' q => ⟨q.1, q.2.symm⟩
      clear q q' q2 q5 q3 q6 hp'
      by_cases hx : slt (l.getD j ([], 0)).1 (l.getD (j + 1) ([], 0)).1
      · have hA2 : Hid (∀ j', j' + 1 < j + 1 + 1 → j' + 1 < n → slt (l.getD j' ([], 0)).1 (l.getD (j' + 1) ([], 0)).1) := fun j' h1 h2 => by
          by_cases e : j' = j
          · subst e; exact hx
          · exact hA.out j' (by omega) h2
        have hx2 := bcmp_neg.2 hx
        have hx3 : ¬ 0 ≤ bcmp (l.getD j ([], 0)).1 (l.getD (j + 1) ([], 0)).1 := by omega
        generalize bcmp (l.getD j ([], 0)).1 (l.getD (j + 1) ([], 0)).1 = V' at *
        clear hx hA
        go_wp2_with fail
        go_quiet ((go_at_call 82; exact Calls.quiet_of_same (hC.out _)))
        go_wp2_with fail
        go_roundw
        case rel => exact ⟨j + 1 + 1, (by first | rfl | go_num), by omega, by omega, hA2, by obtain ⟨k, rfl⟩ := hw.out; exact ⟨k + nq, by simp⟩⟩
        case measure => (simp [intOf]) <;> omega
      · have hR : Hid (false = V) := by
          show _ = _
          rw [HV.out]
          cases e : srtB l with
          | false => rfl
          | true => exact absurd (srtB_iff.1 e j (by rw [hl.out]; exact hlt)) hx
        have hx2 : ¬ bcmp (l.getD j ([], 0)).1 (l.getD (j + 1) ([], 0)).1 < 0 := fun q => hx (bcmp_neg.1 q)
        have hx3 : 0 ≤ bcmp (l.getD j ([], 0)).1 (l.getD (j + 1) ([], 0)).1 := by omega
        generalize bcmp (l.getD j ([], 0)).1 (l.getD (j + 1) ([], 0)).1 = V' at *
        clear hx hx2 hA
        go_wp2_with fail
        go_quiet ((go_at_call 82; exact Calls.quiet_of_same (hC.out _)))
        go_wp2_with fail
        go_ret
        rw [← hR.out]
        exact ⟨rfl, by obtain ⟨k, rfl⟩ := hw.out; exact ⟨k + nq, by simp⟩⟩
    · have hlt2 : ¬ (i : Int) < (n : Int) := by omega
      have hR : Hid (true = V) := by
        show _ = _
        rw [HV.out]
        refine (srtB_iff.2 fun j hj => hA.out j ?_ ?_).symm
        · rw [hl.out] at hj; omega
        · rw [hl.out] at hj; exact hj
      clear hA
      go_wp2_with fail
      go_ret
      rw [← hR.out]
      exact ⟨rfl, hw.out⟩
def chkE (l : PL) : Int := if farL 65535 l then 8 else if srtB l then 0 else 12
def belowPost (v : Value) (w : World) (e : Ending) (w' : World) : Prop := e = .returned v ∧ Below w.heap.size w w'
set_option maxHeartbeats 1000000 in
theorem canon_check (w : World) (a : Option Addr) (n c : Nat) (l : PL) (h : Prs w a n c l) : Calls Tryz.prog 32 #[.slice a n c] w (belowPost (.int .i64 (chkE l)) w) := by
  have H := Lib.hid h
  obtain ⟨V, hV⟩ : ∃ V, V = chkE l := ⟨_, rfl⟩
  have HV := Lib.hid hV
  have hl := Lib.hid h.len
  have hn : n ≤ 9223372036854775807 := Nat.le_trans h.cap h.capm
  have hB0 : Hid (Below w.heap.size w w) := Below.refl _ _
  rw [← hV]
  clear h hV
  go_enter Tryz.func32, Tryz.ntmps32
  go_wp2_with fail
  go_loopw [8] (fun vi wr => ∃ i : Nat, vi = .int .i64 (i : Nat) ∧ i ≤ n ∧ Hid (∀ j, j < i → (l.getD j ([], 0)).1.length ≤ 65535) ∧ Hid (Below w.heap.size w wr)) (fun vi _ => (n - intOf vi).toNat)
  case atStart => exact ⟨0, rfl, by omega, fun j hj => absurd hj (by omega), hB0⟩
  case round =>
    clear hB0
    obtain ⟨i, rfl, hi, hA, hB⟩ := hrel
    by_cases hlt : i < n
    · have hlt2 : (i : Int) < (n : Int) := by omega
      obtain ⟨p, rfl, q⟩ := (H.out.below hB.out).at_ i (by rw [hl.out]; exact hlt)
      obtain ⟨a3, n3, c3, q1, q2, q3⟩ := q.cells
      have hl3 := Lib.hid q3.len
      generalize (l.getD i ([], 0)).2 = v at *
      have hM : Hid (∀ w', Calls Tryz.prog 46 #[.slice a3 n3 c3] w' fun e w'' => e = .returned (.int .i64 (if 65535 < n3 then 8 else 0)) ∧ w' = w'') := fun w' => keys_may
      clear q q3
      by_cases hx : 65535 < n3
      · have hR : Hid (8 = V) := by
          show _ = _
          rw [HV.out]
          unfold chkE
          rw [farL_at (i := i) (by rw [hl.out]; exact hlt) (by rw [hl3.out]; exact hx)]
          rfl
        simp only [if_pos hx] at hM
        clear hl3 hx
        go_wp2_with (go_at_call 46; refine (hM.out _).mono ?_; rintro e w' ⟨rfl, rfl⟩)
        go_ret
        rw [← hR.out]
        exact ⟨rfl, hB.out.alloc hB.out.size _⟩
      · have hA2 : Hid (∀ j, j < i + 1 → (l.getD j ([], 0)).1.length ≤ 65535) := fun j hj => by
          by_cases e : j = i
          · rw [e, hl3.out]; omega
          · exact hA.out j (by omega)
        simp only [if_neg hx] at hM
        clear hl3 hx hA
        go_wp2_with (go_at_call 46; refine (hM.out _).mono ?_; rintro e w' ⟨rfl, rfl⟩)
        go_roundw
        case rel => exact ⟨i + 1, (by first | rfl | go_num), by omega, hA2, hB.out.alloc hB.out.size _⟩
        case measure => (simp [intOf]) <;> omega
    · have hlt2 : ¬ (i : Int) < (n : Int) := by omega
      obtain rfl : i = n := by omega
      have hF := Lib.hid (farL_no (m := 65535) (l := l) (fun j hj => hA.out j (by rw [← hl.out]; exact hj)))
      have hS := Lib.hid (keys_sorted wr a i c l (H.out.below hB.out))
      cases e : srtB l with
      | true =>
        have hR : Hid (0 = V) := by show _ = _; rw [HV.out]; unfold chkE; rw [hF.out, e]; rfl
        rw [e] at hS
        clear hA e hF
        go_wp2_with (go_at_call 60; refine hS.out.mono ?_; rintro e w' ⟨rfl, k, rfl⟩)
        go_ret
        rw [← hR.out]
        exact ⟨rfl, below_drewN hB.out k⟩
      | false =>
        have hR : Hid (12 = V) := by show _ = _; rw [HV.out]; unfold chkE; rw [hF.out, e]; rfl
        rw [e] at hS
        clear hA e hF
        go_wp2_with (go_at_call 60; refine hS.out.mono ?_; rintro e w' ⟨rfl, k, rfl⟩)
        go_ret
        rw [← hR.out]
        exact ⟨rfl, below_drewN hB.out k⟩
end Go.Proofs.YtfhdiimcimafkaaGreatDoor
/- Cuts of slices, under one name: bytes and pairs. -/
namespace Go.Proofs.YtfhdiimcimafkaaGreatDoor
open Go.RowKit
theorem add_of_add (a : Addr) (i j : Nat) : (a.add i).add j = a.add (i + j) := by
  unfold Addr.add
  by_cases hi : i = 0 <;> by_cases hj : j = 0 <;> simp [hi, hj, Nat.add_assoc]
def cutA (a : Option Addr) (c lo s : Nat) : Option Addr := if c = lo then a else a.map (·.add (lo * s))
theorem elem8 : Tryz.prog.elem 38 = 5 := by kernel_rfl
theorem run_cut8 (w : World) (a : Option Addr) (n c lo hi : Nat) (h1 : lo ≤ hi) (h2 : hi ≤ c) :
    (Instr.slice 38 (.slice a n c) (some (.int .i64 (lo : Nat))) (some (.int .i64 (hi : Nat))) none).run Tryz.prog w = .ok (.slice (cutA a c lo 1) (hi - lo) (c - lo)) w := by
  have := run_slice_lh (P := Tryz.prog) (w := w) (t := 38) a n c (by rw [elem8]; exact Tryz.underlying38) .i64 .i64 (lo : Nat) (hi : Nat) (by omega) (by omega) (by omega)
  rw [this]
  have hz : (sizeOf (Tryz.prog.elem 38)).run Tryz.prog w = .ok 1 w := by rw [elem8]; exact Tryz.sizeOf5 w
  rw [hz]
  rfl
theorem run_from8 (w : World) (a : Option Addr) (n c lo : Nat) (h1 : lo ≤ n) :
    (Instr.slice 38 (.slice a n c) (some (.int .i64 (lo : Nat))) none none).run Tryz.prog w = .ok (.slice (cutA a c lo 1) (n - lo) (c - lo)) w := by
  have := run_slice_l (P := Tryz.prog) (w := w) (t := 38) a n c (by rw [elem8]; exact Tryz.underlying38) .i64 (lo : Nat) (by omega) (by omega)
  rw [this]
  have hz : (sizeOf (Tryz.prog.elem 38)).run Tryz.prog w = .ok 1 w := by rw [elem8]; exact Tryz.sizeOf5 w
  rw [hz]
  rfl
theorem run_to8 (w : World) (a : Option Addr) (n c hi : Nat) (h2 : hi ≤ c) :
    (Instr.slice 38 (.slice a n c) none (some (.int .i64 (hi : Nat))) none).run Tryz.prog w = .ok (.slice (cutA a c 0 1) hi c) w := by
  have := run_slice_h (P := Tryz.prog) (w := w) (t := 38) a n c (by rw [elem8]; exact Tryz.underlying38) .i64 (hi : Nat) (by omega) (by omega)
  rw [this]
  have hz : (sizeOf (Tryz.prog.elem 38)).run Tryz.prog w = .ok 1 w := by rw [elem8]; exact Tryz.sizeOf5 w
  rw [hz]
  rfl
theorem cutA_zero (a : Option Addr) (c s : Nat) : cutA a c 0 s = a := by
  unfold cutA
  split
  · rfl
  · rw [Nat.zero_mul]
    cases a with
    | none => rfl
    | some p => simp [Addr.add]
theorem Sl.cut {w : World} {a : Option Addr} {n c lo hi : Nat} {bs : List Nat} (h : Sl w a n c bs) (h1 : lo ≤ hi) (h2 : hi ≤ n) : Sl w (cutA a c lo 1) (hi - lo) (c - lo) ((bs.take hi).drop lo) := by
  have hc := h.cap
  have hcm := h.capm
  refine ⟨by rw [List.length_drop, List.length_take, h.len]; omega, ⟨fun x hx => h.at_.1 x (List.mem_of_mem_take (List.mem_of_mem_drop hx)), fun i hi' => ?_⟩, by omega, by omega, fun e => ?_⟩
  · rw [List.length_drop, List.length_take, h.len] at hi'
    obtain ⟨p, rfl, q1, q2⟩ := h.at_.2 (lo + i) (by rw [h.len]; omega)
    refine ⟨p.add lo, ?_, ?_, ?_⟩
    · unfold cutA
      rw [if_neg (by omega)]
      simp
    · rw [add_of_add]; exact q1
    · rw [add_of_add, q2]
      congr 3
      rw [List.getD, List.getD, List.getElem?_drop, List.getElem?_take, if_pos (by omega)]
  · unfold cutA at e
    split at e
    · have := h.nil e; omega
    · cases a with
      | none => have := h.nil rfl; omega
      | some p => cases e
theorem Sl.from_ {w : World} {a : Option Addr} {n c lo : Nat} {bs : List Nat} (h : Sl w a n c bs) (h1 : lo ≤ n) : Sl w (cutA a c lo 1) (n - lo) (c - lo) (bs.drop lo) := by
  have := h.cut h1 (Nat.le_refl n)
  rwa [List.take_of_length_le (Nat.le_of_eq h.len)] at this
theorem Sl.to_ {w : World} {a : Option Addr} {n c hi : Nat} {bs : List Nat} (h : Sl w a n c bs) (h1 : hi ≤ n) : Sl w (cutA a c 0 1) hi c (bs.take hi) := by
  have := h.cut (lo := 0) (Nat.zero_le _) h1
  simpa using this
theorem elemA : Tryz.prog.elem 31 = 74 := by kernel_rfl
theorem run_cutA (w : World) (a : Option Addr) (n c lo hi : Nat) (h1 : lo ≤ hi) (h2 : hi ≤ c) :
    (Instr.slice 31 (.slice a n c) (some (.int .i64 (lo : Nat))) (some (.int .i64 (hi : Nat))) none).run Tryz.prog w = .ok (.slice (cutA a c lo 2) (hi - lo) (c - lo)) w := by
  have := run_slice_lh (P := Tryz.prog) (w := w) (t := 31) a n c (by rw [elemA]; exact Tryz.underlying31) .i64 .i64 (lo : Nat) (hi : Nat) (by omega) (by omega) (by omega)
  rw [this]
  have hz : (sizeOf (Tryz.prog.elem 31)).run Tryz.prog w = .ok 2 w := by rw [elemA]; exact Tryz.sizeOf74 w
  rw [hz]
  rfl
theorem run_fromA (w : World) (a : Option Addr) (n c lo : Nat) (h1 : lo ≤ n) :
    (Instr.slice 31 (.slice a n c) (some (.int .i64 (lo : Nat))) none none).run Tryz.prog w = .ok (.slice (cutA a c lo 2) (n - lo) (c - lo)) w := by
  have := run_slice_l (P := Tryz.prog) (w := w) (t := 31) a n c (by rw [elemA]; exact Tryz.underlying31) .i64 (lo : Nat) (by omega) (by omega)
  rw [this]
  have hz : (sizeOf (Tryz.prog.elem 31)).run Tryz.prog w = .ok 2 w := by rw [elemA]; exact Tryz.sizeOf74 w
  rw [hz]
  rfl
theorem run_toA (w : World) (a : Option Addr) (n c hi : Nat) (h2 : hi ≤ c) :
    (Instr.slice 31 (.slice a n c) none (some (.int .i64 (hi : Nat))) none).run Tryz.prog w = .ok (.slice (cutA a c 0 2) hi c) w := by
  have := run_slice_h (P := Tryz.prog) (w := w) (t := 31) a n c (by rw [elemA]; exact Tryz.underlying31) .i64 (hi : Nat) (by omega) (by omega)
  rw [this]
  have hz : (sizeOf (Tryz.prog.elem 31)).run Tryz.prog w = .ok 2 w := by rw [elemA]; exact Tryz.sizeOf74 w
  rw [hz]
  rfl

theorem elemK : Tryz.prog.elem 22 = 73 := by kernel_rfl
theorem run_cutK (w : World) (a : Option Addr) (n c lo hi : Nat) (h1 : lo ≤ hi) (h2 : hi ≤ c) :
    (Instr.slice 22 (.slice a n c) (some (.int .i64 (lo : Nat))) (some (.int .i64 (hi : Nat))) none).run Tryz.prog w = .ok (.slice (cutA a c lo 2) (hi - lo) (c - lo)) w := by
  have := run_slice_lh (P := Tryz.prog) (w := w) (t := 22) a n c (by rw [elemK]; exact Tryz.underlying22) .i64 .i64 (lo : Nat) (hi : Nat) (by omega) (by omega) (by omega)
  rw [this]
  have hz : (sizeOf (Tryz.prog.elem 22)).run Tryz.prog w = .ok 2 w := by rw [elemK]; exact Tryz.sizeOf73 w
  rw [hz]
  rfl
theorem run_fromK (w : World) (a : Option Addr) (n c lo : Nat) (h1 : lo ≤ n) :
    (Instr.slice 22 (.slice a n c) (some (.int .i64 (lo : Nat))) none none).run Tryz.prog w = .ok (.slice (cutA a c lo 2) (n - lo) (c - lo)) w := by
  have := run_slice_l (P := Tryz.prog) (w := w) (t := 22) a n c (by rw [elemK]; exact Tryz.underlying22) .i64 (lo : Nat) (by omega) (by omega)
  rw [this]
  have hz : (sizeOf (Tryz.prog.elem 22)).run Tryz.prog w = .ok 2 w := by rw [elemK]; exact Tryz.sizeOf73 w
  rw [hz]
  rfl
theorem run_toK (w : World) (a : Option Addr) (n c hi : Nat) (h2 : hi ≤ c) :
    (Instr.slice 22 (.slice a n c) none (some (.int .i64 (hi : Nat))) none).run Tryz.prog w = .ok (.slice (cutA a c 0 2) hi c) w := by
  have := run_slice_h (P := Tryz.prog) (w := w) (t := 22) a n c (by rw [elemK]; exact Tryz.underlying22) .i64 (hi : Nat) (by omega) (by omega)
  rw [this]
  have hz : (sizeOf (Tryz.prog.elem 22)).run Tryz.prog w = .ok 2 w := by rw [elemK]; exact Tryz.sizeOf73 w
  rw [hz]
  rfl
theorem Prs.cut {w : World} {a : Option Addr} {n c lo hi : Nat} {l : PL} (h : Prs w a n c l) (h1 : lo ≤ hi) (h2 : hi ≤ n) : Prs w (cutA a c lo 2) (hi - lo) (c - lo) ((l.take hi).drop lo) := by
  have hc := h.cap
  have hcm := h.capm
  refine ⟨by rw [List.length_drop, List.length_take, h.len]; omega, by omega, by omega, fun e => ?_, fun x hx => h.val x (List.mem_of_mem_take (List.mem_of_mem_drop hx)), fun i hi' => ?_⟩
  · unfold cutA at e
    split at e
    · have := h.nil e; omega
    · cases a with
      | none => have := h.nil rfl; omega
      | some p => cases e
  · rw [List.length_drop, List.length_take, h.len] at hi'
    obtain ⟨p, rfl, q⟩ := h.at_ (lo + i) (by rw [h.len]; omega)
    refine ⟨p.add (lo * 2), ?_, ?_⟩
    · unfold cutA
      rw [if_neg (by omega)]
      rfl
    · have e1 : (p.add (lo * 2)).add (i * 2) = p.add ((lo + i) * 2) := by rw [add_of_add]; congr 1; omega
      have e2 : ((l.take hi).drop lo).getD i ([], 0) = l.getD (lo + i) ([], 0) := by
        rw [List.getD, List.getD, List.getElem?_drop, List.getElem?_take, if_pos (by omega)]
      unfold PrC
      rw [e1, e2]
      exact q
theorem Prs.from_ {w : World} {a : Option Addr} {n c lo : Nat} {l : PL} (h : Prs w a n c l) (h1 : lo ≤ n) : Prs w (cutA a c lo 2) (n - lo) (c - lo) (l.drop lo) := by
  have := h.cut h1 (Nat.le_refl n)
  rwa [List.take_of_length_le (Nat.le_of_eq h.len)] at this
theorem Prs.to_ {w : World} {a : Option Addr} {n c hi : Nat} {l : PL} (h : Prs w a n c l) (h1 : hi ≤ n) : Prs w (cutA a c 0 2) hi c (l.take hi) := by
  have := h.cut (lo := 0) (Nat.zero_le _) h1
  simpa using this
end Go.Proofs.YtfhdiimcimafkaaGreatDoor
/- Trees in memory: among nodes that stand side by side. -/
namespace Go.Proofs.YtfhdiimcimafkaaGreatDoor
open Go.RowKit
/-- the nodes of a tree stand among P, from place lo on -/
def TreeIn (P : List NP) (lo : Nat) : Tr → Value → KV → Prop
  | .nil, _, l => l = []
  | .kid b t r, v, l => ∃ x l', l = (b, x) :: l' ∧ TreeIn P lo t x [] ∧ TreeIn P lo r v l'
  | .node bs val has leaf ks, v, _ => ∃ (i : Nat) (p : NP), lo ≤ i ∧ P[i]? = some p ∧ v = .pointer (some ⟨p.n, 0, none⟩) ∧ p.bs = bs ∧ p.val = val ∧ p.has = has ∧ p.kk.isNone = leaf ∧ TreeIn P lo ks (.pointer none) (p.kk.getD [])
section
variable {P P' : List NP} {lo lo' : Nat}
theorem TreeIn.keep (hP : ∀ i p, lo' ≤ i → P[i]? = some p → P'[i]? = some p) (hlo : lo' ≤ lo) : ∀ {t : Tr} {v : Value} {l : KV}, TreeIn P lo t v l → TreeIn P' lo' t v l
  | .nil, _, _, h => h
  | .kid b t r, v, l, ⟨x, l', h1, h2, h3⟩ => ⟨x, l', h1, TreeIn.keep hP hlo h2, TreeIn.keep hP hlo h3⟩
  | .node bs val has leaf ks, v, l, ⟨i, p, h0, h1, h2, h3, h4, h5, h6, h7⟩ => ⟨i, p, Nat.le_trans hlo h0, hP i p (Nat.le_trans hlo h0) h1, h2, h3, h4, h5, h6, TreeIn.keep hP hlo h7⟩
theorem TreeIn.low {t : Tr} {v : Value} {l : KV} (h : TreeIn P lo t v l) (hlo : lo' ≤ lo) : TreeIn P lo' t v l := h.keep (fun _ _ _ h => h) hlo
theorem TreeIn.more {t : Tr} {v : Value} {l : KV} (h : TreeIn P lo t v l) (Q : List NP) : TreeIn (P ++ Q) lo t v l :=
  h.keep (fun i p _ hp => by rw [List.getElem?_append_left (List.getElem?_eq_some_iff.1 hp).1]; exact hp) (Nat.le_refl _)
theorem TreeIn.setOut {t : Tr} {v : Value} {l : KV} (h : TreeIn P lo t v l) {i : Nat} (hi : i < lo) (q : NP) : TreeIn (P.set i q) lo t v l :=
  h.keep (fun j p hj hp => by rw [List.getElem?_set_ne (by omega)]; exact hp) (Nat.le_refl _)
theorem TreeIn.keys : ∀ {L : List (Nat × Tr)} {v : Value} {l : KV}, TreeIn P lo (ofL L) v l → l.map (·.1) = L.map (·.1)
  | [], _, l, h => by have h : l = [] := h; subst h; rfl
  | x :: r, v, l, ⟨y, l', h1, h2, h3⟩ => by subst h1; simp [TreeIn.keys h3]
theorem TreeIn.snoc : ∀ {L : List (Nat × Tr)} {v : Value} {l : KV}, TreeIn P lo (ofL L) v l → ∀ {b : Nat} {t : Tr} {x : Value}, TreeIn P lo t x [] → TreeIn P lo (ofL (L ++ [(b, t)])) v (l ++ [(b, x)])
  | [], _, l, h, b, t, x, ht => by
    have h : l = [] := h
    subst h
    exact ⟨x, [], rfl, ht, rfl⟩
  | y :: r, v, l, ⟨z, l', h1, h2, h3⟩, b, t, x, ht => by
    subst h1
    exact ⟨z, l' ++ [(b, x)], rfl, h2, TreeIn.snoc h3 ht⟩
theorem TreeIn.isN {t : Tr} {v : Value} {l : KV} (h : TreeIn P lo t v l) (hn : IsN t) : ∃ k, v = .pointer (some ⟨k, 0, none⟩) := by
  cases t with
  | nil => exact hn.elim
  | kid b t r => exact hn.elim
  | node bs val has leaf ks => obtain ⟨i, p, _, _, h2, _⟩ := h; exact ⟨_, h2⟩
end
theorem kins_end {l : KV} {b : Nat} {x : Value} (h : ∀ c ∈ l.map (·.1), c < b) : kins l b x = l ++ [(b, x)] := by
  unfold kins
  have h1 : l.filter (fun p => decide (p.1 < b)) = l := by
    rw [List.filter_eq_self]
    intro p hp
    simpa using h p.1 (List.mem_map_of_mem hp)
  have h2 : l.filter (fun p => decide (b < p.1)) = [] := by
    rw [List.filter_eq_nil_iff]
    intro p hp
    have := h p.1 (List.mem_map_of_mem hp)
    simp; omega
  rw [h1, h2]
/-! Canonical trees. -/
def Can : Tr → Prop
  | .nil => True
  | .kid _ t r => Can t ∧ Can r
  | .node _ _ has leaf ks => Can ks ∧ (leaf = false → 2 ≤ (if has then 1 else 0) + (chain ks).length)
theorem can_ofL (L : List (Nat × Tr)) : Can (ofL L) ↔ ∀ x ∈ L, Can x.2 := by
  induction L with
  | nil => simp [ofL, Can]
  | cons x r ih => simp [ofL, Can, ih]
/-! Pairs by their first byte. -/
theorem psrt_tail {x : List Nat × Int} {l : PL} (h : PSrt (x :: l)) : PSrt l := (List.pairwise_cons.1 h).2
/-- the first ones that go on with a byte, and the others -/
theorem split_head (b : Nat) : ∀ (r : PL), PSrt r → (∀ x ∈ r, ∃ c s, x.1 = c :: s ∧ b ≤ c) →
    ∃ g r2, r = pre [b] g ++ r2 ∧ (∀ x ∈ r2, ∃ c s, x.1 = c :: s ∧ b < c)
  | [], _, _ => ⟨[], [], rfl, by simp⟩
  | x :: r, h, hh => by
    obtain ⟨c, s, e, hb⟩ := hh x (by simp)
    by_cases hc : c = b
    · subst hc
      obtain ⟨g, r2, h1, h2⟩ := split_head c r (psrt_tail h) (fun y hy => hh y (by simp [hy]))
      exact ⟨(s, x.2) :: g, r2, by rw [h1]; simp [pre, ← e], h2⟩
    · refine ⟨[], x :: r, rfl, fun y hy => ?_⟩
      rcases List.mem_cons.1 hy with rfl | hy
      · exact ⟨c, s, e, by omega⟩
      · obtain ⟨d, s2, e2, hd⟩ := hh y (by simp [hy])
        refine ⟨d, s2, e2, ?_⟩
        have this : slt x.1 y.1 := (List.pairwise_cons.1 h).1 y.1 (List.mem_map_of_mem hy)
        rw [e, e2, slt_cc] at this
        omega
/-- what stands between two that begin so begins so -/
theorem prefix_mid : ∀ (p : List Nat) {a m b : List Nat}, (a = m ∨ slt a m) → (m = b ∨ slt m b) → p <+: a → p <+: b → p <+: m
  | [], _, m, _, _, _, _, _ => List.nil_prefix
  | x :: p, a, m, b, h1, h2, ⟨a', ha⟩, ⟨b', hb⟩ => by
    subst ha; subst hb
    rcases h1 with rfl | h1
    · exact ⟨a', rfl⟩
    · rcases h2 with rfl | h2
      · exact ⟨b', rfl⟩
      · cases m with
        | nil => exact absurd h1 (not_slt_nil _)
        | cons y m =>
          rw [List.cons_append, slt_cc] at h1 h2
          have e : x = y := by rcases h1 with h1 | ⟨h1, _⟩ <;> rcases h2 with h2 | ⟨h2, _⟩ <;> omega
          subst e
          have h1' : slt (p ++ a') m := by rcases h1 with h1 | ⟨_, h1⟩; omega; exact h1
          have h2' : slt m (p ++ b') := by rcases h2 with h2 | ⟨_, h2⟩; omega; exact h2
          exact List.cons_prefix_cons.2 ⟨rfl, prefix_mid p (Or.inr h1') (Or.inr h2') ⟨a', rfl⟩ ⟨b', rfl⟩⟩
def strip (n : Nat) (l : PL) : PL := l.map fun x => (x.1.drop n, x.2)
theorem pre_strip {p : List Nat} {l : PL} (h : ∀ x ∈ l, p <+: x.1) : l = pre p (strip p.length l) := by
  unfold pre strip
  rw [List.map_map]
  conv => lhs; rw [← List.map_id l]
  refine List.map_congr_left fun x hx => ?_
  obtain ⟨r, e⟩ := h x hx
  obtain ⟨x1, x2⟩ := x
  simp only at e
  subst e
  simp
def NoB : Nat → Prop := fun _ => False
theorem Mod.below_ {w w' : World} (h : Mod NoB w w') : Below w.heap.size w w' := h.belowOf (Nat.le_refl _) (fun _ e => e.elim)
theorem StoreP.below_ {w w' : World} {P : List NP} (h : StoreP NoB w w' P) : Below w.heap.size w w' := h.mod.below_
/-- nodes that were made behind others -/
theorem StoreP.join {X : Nat → Prop} {w0 w w' : World} {P Q : List NP} (h : StoreP X w0 w P) (k : StoreP NoB w w' Q) : StoreP X w0 w' (P ++ Q) := by
  have hb := k.below_
  have hsz := h.size
  obtain ⟨L, rfl, h0⟩ := h
  obtain ⟨M, rfl, k⟩ := k
  have h := h0.below hb
  have hlt : ∀ (i : Nat) (d : Nd), L[i]? = some d → (∀ j, d.W j → j < w.heap.size) ∧ ∀ g, d.bo = some g → g < w.heap.size := fun i d hd => ⟨fun j hj => (h0.here i d hd).Wlt j hj, fun g hg => NdIs.Rlt (h0.here i d hd) g hg⟩
  have key : ∀ (i : Nat) (d : Nd), (L ++ M)[i]? = some d → (L[i]? = some d) ∨ (L.length ≤ i ∧ M[i - L.length]? = some d) := fun i d hd => by
    by_cases hi : i < L.length
    · rw [List.getElem?_append_left hi] at hd; exact Or.inl hd
    · rw [List.getElem?_append_right (by omega)] at hd; exact Or.inr ⟨by omega, hd⟩
  refine ⟨L ++ M, by rw [List.map_append], fun i d hd => ?_, fun i d hd => ?_, fun i d hd => ?_, fun i d hd => ?_, fun i j a b ha hb' hij => ?_, fun i j a b ha hb' g hg => ?_, h.mod⟩
  · rcases key i d hd with q | ⟨_, q⟩
    · exact h.here i d q
    · exact k.here _ d q
  · rcases key i d hd with q | ⟨_, q⟩
    · exact h.fit i d q
    · exact k.fit _ d q
  · rcases key i d hd with q | ⟨_, q⟩
    · exact h.new i d q
    · exact fun j hj => Nat.le_trans hsz (k.new _ d q j hj)
  · rcases key i d hd with q | ⟨_, q⟩
    · exact h.gen i d q
    · exact fun j hj => Nat.le_trans hsz (k.gen _ d q j hj)
  · rcases key i a ha with q | ⟨e1, q⟩ <;> rcases key j b hb' with r | ⟨e2, r⟩
    · exact h.apart i j a b q r hij
    · exact fun x hx hy => by have := (hlt i a q).1 x hx; have := k.new _ b r x hy; omega
    · exact fun x hx hy => by have := (hlt j b r).1 x hy; have := k.new _ a q x hx; omega
    · exact k.apart _ _ a b q r (by omega)
  · rcases key i a ha with q | ⟨e1, q⟩ <;> rcases key j b hb' with r | ⟨e2, r⟩
    · exact h.read i j a b q r g hg
    · exact fun hy => by have := (hlt i a q).2 g hg; have := k.new _ b r g hy; omega
    · exact fun hy => by have := (hlt j b r).1 g hy; have := k.gen _ a q g hg; omega
    · exact k.read _ _ a b q r g hg
theorem StoreP.rebase {w w1 w' : World} {P : List NP} (h : StoreP NoB w1 w' P) (hb : Below w.heap.size w w1) : StoreP NoB w w' P := by
  have hs := hb.size
  obtain ⟨L, e, h⟩ := h
  exact ⟨L, e, h.here, h.fit, fun i d hd j hj => Nat.le_trans hs (h.new i d hd j hj), fun i d hd j hj => Nat.le_trans hs (h.gen i d hd j hj), h.apart, h.read, (Mod.of_below (S := NoB) hb).trans (h.mod.mono (fun _ _ e => e.elim))⟩
theorem TreeIn.shift (Q : List NP) {P : List NP} {lo : Nat} : ∀ {t : Tr} {v : Value} {l : KV}, TreeIn P lo t v l → TreeIn (Q ++ P) (Q.length + lo) t v l
  | .nil, _, _, h => h
  | .kid b t r, v, l, ⟨x, l', h1, h2, h3⟩ => ⟨x, l', h1, TreeIn.shift Q h2, TreeIn.shift Q h3⟩
  | .node bs val has leaf ks, v, l, ⟨i, p, h0, h1, h2, h3, h4, h5, h6, h7⟩ => ⟨Q.length + i, p, by omega, by rw [List.getElem?_append_right (by omega)]; simpa using h1, h2, h3, h4, h5, h6, TreeIn.shift Q h7⟩
end Go.Proofs.YtfhdiimcimafkaaGreatDoor
/- canon's maker.tree: the canonical tree of pairs that rise. -/
namespace Go.Proofs.YtfhdiimcimafkaaGreatDoor
open Go.RowKit
def trePost (l : PL) (w : World) (e : Ending) (w' : World) : Prop :=
  ∃ (t : Tr) (k : Nat) (Q : List NP), e = .returned (.pointer (some ⟨k, 0, none⟩)) ∧ StoreP NoB w w' Q ∧ TreeIn Q 0 t (.pointer (some ⟨k, 0, none⟩)) [] ∧ IsN t ∧ TOk t ∧ Can t ∧ tl t = l
theorem In8.of_sl {w : World} {a : Option Addr} {n c : Nat} {bs : List Nat} (h : Sl w a n c bs) (hn : n ≤ 140737488355328) : In8 w a n c bs := ⟨h.len, h.at_, hn, fun e => (h.nil e).1⟩
theorem leaf_made {w w2 : World} {a : Option Addr} {n c : Nat} {bs : List Nat} (h : Sl w2 a n c bs) (hn : n ≤ 140737488355328) (hb : Below w.heap.size w w2) (o v : Int) (hv : 0 ≤ v ∧ v < 18446744073709551616) :
    Calls Tryz.prog 51 #[.pointer none, .int .u64 o, .slice a n c, .int .u64 v] w2 (trePost [(bs, v)] w) := by
  refine (sp_leaf0 (StoreP.nil NoB (Mod.refl NoB w2)) (In8.of_sl h hn) o v).mono ?_
  rintro e w' ⟨k, rfl, ⟨h1, h2⟩, h3⟩
  refine ⟨.node bs v true true .nil, k, _, rfl, h1.rebase hb, ⟨0, _, Nat.le_refl _, rfl, rfl, rfl, rfl, rfl, rfl, rfl⟩, trivial, ⟨h.at_.1, hv.1, hv.2, by simp, fun _ => ⟨rfl, rfl⟩, trivial, trivial⟩, ⟨trivial, by simp⟩, by simp [tl]⟩
abbrev mkT : Nat := 78
/-- the maker's variable -/
abbrev boxW (w : World) (o : Int) : World := w.alloc (.cells #[.pointer none, .int .u64 o] mkT)
theorem box_cells (w : World) (o : Int) : (boxW w o).cell? ⟨w.heap.size, 0, none⟩ = some (.pointer none) ∧ (boxW w o).cell? ⟨w.heap.size, 1, none⟩ = some (.int .u64 o) ∧ Below w.heap.size w (boxW w o) ∧ (boxW w o).heap.size = w.heap.size + 1 := by
  have hb : (boxW w o).heap[w.heap.size]? = some (.cells [.pointer none, .int .u64 o].toArray mkT (0, 0)) := heap_alloc_new w _
  exact ⟨by rw [cell_of_blk hb]; rfl, by rw [cell_of_blk hb]; rfl, (Below.refl _ w).alloc (Nat.le_refl _) _, World.size_alloc _ _⟩
set_option maxHeartbeats 1000000 in
set_option maxRecDepth 100000 in
theorem tree_one (o : Int) (k : List Nat) (v : Int) (pfx : List Nat) (a : Option Addr) (c : Nat) (w : World) (h : Prs w a 1 c (pre pfx [(k, v)])) (hk : (pfx ++ k).length ≤ 65535) :
    Calls Tryz.prog 33 #[.agg #[.pointer none, .int .u64 o], .slice a 1 c, .int .i64 (pfx.length : Nat)] w (trePost [(k, v)] w) := by
  obtain ⟨p, rfl, q⟩ := h.at_ 0 (by simp)
  obtain ⟨a3, n3, c3, q1, q2, q3⟩ := q.cells
  have hv := h.val (pfx ++ k, v) (by simp [pre])
  have q1 : w.cell? p = some (.slice a3 n3 c3) := by rw [← Addr.add_zero' p]; simpa using q1
  have q2 : w.cell? ⟨p.block, p.off + 1, none⟩ = some (.int .u64 v) := by
    simp only [Nat.zero_mul, Addr.add_zero'] at q2
    exact q2
  have q3 : Sl w a3 n3 c3 (pfx ++ k) := q3
  obtain ⟨at_, hat⟩ : ∃ m, m = pfx.length := ⟨_, rfl⟩
  have hn3 := q3.len
  rw [List.length_append] at hk hn3
  have hc3 := q3.cap
  have hs := q3.from_ (lo := at_) (by omega)
  rw [hat, List.drop_left, ← hat] at hs
  have hcut : ∀ w, (Instr.slice 38 (.slice a3 n3 c3) (some (.int .i64 (at_ : Nat))) none none).run Tryz.prog w = .ok (.slice (cutA a3 c3 at_ 1) (n3 - at_) (c3 - at_)) w := fun w => run_from8 w a3 n3 c3 at_ (by omega)
  rw [← hat]
  have hL : Hid (∀ w2, Below w.heap.size w w2 → Calls Tryz.prog 51 #[.pointer none, .int .u64 o, .slice (cutA a3 c3 at_ 1) (n3 - at_) (c3 - at_), .int .u64 v] w2 (trePost [(k, v)] w)) := fun w2 hb => leaf_made (hs.below hb) (by omega) hb o v hv
  obtain ⟨b0, b1, hb, hz⟩ := box_cells w o
  have q4 := (hb.cell (cell_lt q1)).trans q1
  have q5 := (hb.cell (p := ⟨p.block, p.off + 1, none⟩) (cell_lt q2)).trans q2
  have HB := Lib.hid hb
  have i0 : (0 : Int) ≤ (at_ : Int) := by omega
  have i1 : (at_ : Int) ≤ (n3 : Int) := by omega
  generalize cutA a3 c3 at_ 1 = a4 at *
  generalize n3 - at_ = n4 at *
  generalize c3 - at_ = c4 at *
  clear h q hv q3 hat hn3 hk hc3 hs q1 q2 hb hz
  go_enter Tryz.func33, Tryz.ntmps33
  go_wp2_with fail
  change Code.wp _ _ _ _ (boxW w o)
  generalize boxW w o = wb at *
  go_still_tail 14, (by kernel_rfl)
  change wpList _ _ _ _ _ wb.drew
  go_wp2_with (go_at_call 51; refine (hL.out _ HB.out.drew).mono ?_; rintro e w3 ⟨t, k', Q, rfl, h1⟩; have h1 := Lib.hid h1)
  go_ret
  exact ⟨t, k', Q, rfl, h1.out⟩
end Go.Proofs.YtfhdiimcimafkaaGreatDoor
/- The plain side of maker.tree: how the pairs part; what has been built so far. -/
namespace Go.Proofs.YtfhdiimcimafkaaGreatDoor
open Go.RowKit
theorem pre_getD (q : List Nat) {r : PL} {i : Nat} (hi : i < r.length) : (pre q r).getD i ([], 0) = (q ++ (r.getD i ([], 0)).1, (r.getD i ([], 0)).2) := by
  rw [getD_of_lt (by simpa using hi), getD_of_lt hi]
  simp [pre]
theorem mem_getD {α : Type} {l : List α} {i : Nat} {d : α} (hi : i < l.length) : l.getD i d ∈ l := by
  rw [getD_of_lt hi]; exact List.getElem_mem hi
/-- how pairs begin, and how they part -/
structure Start (l : PL) (bs : List Nat) (l2 : PL) : Prop where
  eq : l = pre bs l2
  srt : PSrt l2
  z : lcp (l2.getD 0 ([], 0)).1 (l2.getD (l2.length - 1) ([], 0)).1 = 0
  two : 2 ≤ l2.length
theorem start_of {l : PL} (hs : PSrt l) (hl : 2 ≤ l.length) : ∃ bs l2, Start l bs l2 ∧ bs.length = lcp (l.getD 0 ([], 0)).1 (l.getD (l.length - 1) ([], 0)).1 ∧ bs = (l.getD 0 ([], 0)).1.take bs.length := by
  obtain ⟨f, hf⟩ : ∃ f, f = (l.getD 0 ([], 0)).1 := ⟨_, rfl⟩
  obtain ⟨g, hg⟩ : ∃ g, g = (l.getD (l.length - 1) ([], 0)).1 := ⟨_, rfl⟩
  have hle := lcp_le f g
  obtain ⟨A, hA⟩ : ∃ A, A = f.take (lcp f g) := ⟨_, rfl⟩
  have hlen : A.length = lcp f g := by rw [hA, List.length_take]; omega
  have hpf : A <+: f := by rw [hA]; exact List.take_prefix _ _
  have hpg : A <+: g := by rw [hA, lcp_take]; exact List.take_prefix _ _
  have hall : ∀ x ∈ l, A <+: x.1 := fun x hx => by
    obtain ⟨i, hi, rfl⟩ := List.getElem_of_mem hx
    have h1 : f = (l[i]).1 ∨ slt f (l[i]).1 := by
      by_cases e : i = 0
      · subst e; left; rw [hf, getD_of_lt hi]
      · right
        have := hs.at_ (i := 0) (j := i) (by omega) hi
        rwa [← hf, getD_of_lt hi] at this
    have h2 : (l[i]).1 = g ∨ slt (l[i]).1 g := by
      by_cases e : i = l.length - 1
      · subst e; left; rw [hg, getD_of_lt hi]
      · right
        have := hs.at_ (i := i) (j := l.length - 1) (by omega) (by omega)
        rwa [← hg, getD_of_lt hi] at this
    exact prefix_mid _ h1 h2 hpf hpg
  have he := pre_strip hall
  have hl2 : (strip A.length l).length = l.length := by simp [strip]
  obtain ⟨l2, h2⟩ : ∃ l2, l2 = strip A.length l := ⟨_, rfl⟩
  rw [← h2] at he hl2
  refine ⟨A, l2, ⟨he, ?_, ?_, by rw [hl2]; exact hl⟩, by rw [hlen, hf, hg], by rw [hlen, ← hf, hA]⟩
  · rw [he] at hs; exact psrt_pre.1 hs
  · have e1 : f = A ++ (l2.getD 0 ([], 0)).1 := by
      rw [hf, he, pre_getD _ (by rw [hl2]; omega)]
    have e2 : g = A ++ (l2.getD (l2.length - 1) ([], 0)).1 := by
      rw [hg, he, pre_length, pre_getD _ (by omega)]
    have := lcp_pre A (l2.getD 0 ([], 0)).1 (l2.getD (l2.length - 1) ([], 0)).1
    rw [← e1, ← e2] at this
    omega
/-- what has been built, what is left -/
structure BldR (l3 : PL) (L : List (Nat × Tr)) (r : PL) : Prop where
  eq : l3 = tl (ofL L) ++ r
  kids : ∀ x ∈ L, x.1 < 256 ∧ IsN x.2 ∧ TOk x.2 ∧ Can x.2
  up : (L.map (·.1)).Pairwise (· < ·)
  heads : ∀ x ∈ r, ∃ c s, x.1 = c :: s ∧ c < 256 ∧ ∀ b ∈ L.map (·.1), b < c
  srt : PSrt r
theorem BldR.next {l3 : PL} {L : List (Nat × Tr)} {r : PL} (h : BldR l3 L r) (hr : r ≠ []) : ∃ b g r2, r = pre [b] g ++ r2 ∧ g ≠ [] ∧ PSrt g ∧ b < 256 ∧ (∀ c ∈ L.map (·.1), c < b) ∧ (∀ x ∈ r2, ∃ c s, x.1 = c :: s ∧ b < c) ∧
    ∀ t, IsN t → TOk t → Can t → tl t = g → BldR l3 (L ++ [(b, t)]) r2 := by
  cases r with
  | nil => exact absurd rfl hr
  | cons x r =>
    obtain ⟨b, s, e, hb, hL⟩ := h.heads x (by simp)
    have hge : ∀ y ∈ x :: r, ∃ c s, y.1 = c :: s ∧ b ≤ c := fun y hy => by
      obtain ⟨c, s2, e2, hc, _⟩ := h.heads y hy
      refine ⟨c, s2, e2, ?_⟩
      rcases List.mem_cons.1 hy with rfl | hy
      · rw [e] at e2; exact Nat.le_of_eq (List.cons.inj e2).1
      · have this : slt x.1 y.1 := (List.pairwise_cons.1 h.srt).1 y.1 (List.mem_map_of_mem hy)
        rw [e, e2, slt_cc] at this
        omega
    obtain ⟨g, r2, h1, h2⟩ := split_head b (x :: r) h.srt hge
    have hsr := h.srt
    rw [h1, psrt_append] at hsr
    obtain ⟨s1, s2, _⟩ := hsr
    have hg : g ≠ [] := by
      rintro rfl
      have h1 : x :: r = r2 := h1
      obtain ⟨c, s3, e3, hc⟩ := h2 x (by rw [← h1]; simp)
      rw [e] at e3
      have := (List.cons.inj e3).1
      omega
    refine ⟨b, g, r2, h1, hg, psrt_pre.1 s1, hb, hL, h2, fun t t1 t2 t3 t4 => ⟨?_, ?_, ?_, ?_, s2⟩⟩
    · rw [h.eq, h1, tl_ofL, tl_ofL, List.flatMap_append]
      simp [t4]
    · intro y hy
      rcases List.mem_append.1 hy with hy | hy
      · exact h.kids y hy
      · obtain rfl := List.mem_singleton.1 hy
        exact ⟨hb, t1, t2, t3⟩
    · rw [List.map_append, List.pairwise_append]
      exact ⟨h.up, List.pairwise_singleton _ _, fun c hc d hd => by
        obtain rfl : d = b := by simpa using hd
        exact hL c hc⟩
    · intro y hy
      obtain ⟨c, s3, e3, hc⟩ := h2 y hy
      obtain ⟨c', s4, e4, hc', hL'⟩ := h.heads y (by rw [h1]; simp [hy])
      have e5 : c = c' := (List.cons.inj (e3.symm.trans e4)).1
      subst e5
      refine ⟨c, s3, e3, hc', fun d hd => ?_⟩
      rw [List.map_append, List.mem_append] at hd
      rcases hd with hd | hd
      · exact hL' d hd
      · obtain rfl : d = b := by simpa using hd
        exact hc
/-- the tree, once nothing is left -/
theorem grow_end {l : PL} {bs : List Nat} {l2 l3 : PL} {L : List (Nat × Tr)} {val : Int} {hs : Bool} (hS : Start l bs l2) (h : BldR l3 L []) (h2 : l2 = (if hs then [([], val)] else []) ++ l3) (hv : 0 ≤ val ∧ val < 18446744073709551616) (h0 : hs = false → val = 0) (hb : ∀ x ∈ bs, x < 256) :
    TOk (.node bs val hs false (ofL L)) ∧ Can (.node bs val hs false (ofL L)) ∧ tl (.node bs val hs false (ofL L)) = l := by
  have e3 : l3 = tl (ofL L) := by rw [h.eq]; simp
  have hok : TOk (ofL L) := (tok_ofL L).2 ⟨fun x hx => ⟨(h.kids x hx).1, (h.kids x hx).2.1, (h.kids x hx).2.2.1⟩, h.up⟩
  refine ⟨⟨hb, hv.1, hv.2, h0, by simp, isK_ofL L, hok⟩, ⟨(can_ofL L).2 fun x hx => (h.kids x hx).2.2.2, fun _ => ?_⟩, ?_⟩
  · rw [chain_ofL]
    have htwo := hS.two
    cases hs with
    | true =>
      simp only [if_true, List.singleton_append] at h2 ⊢
      cases L with
      | nil => rw [h2, e3] at htwo; simp [ofL, tl] at htwo
      | cons x L => simp; omega
    | false =>
      simp only [Bool.false_eq_true, if_false, List.nil_append] at h2 ⊢
      match L, e3 with
      | [], e3 => rw [h2, e3] at htwo; simp [ofL, tl] at htwo
      | [x], e3 =>
        exfalso
        have hl2 : l2 = pre [x.1] (tl x.2) := by rw [h2, e3]; simp [ofL, tl]
        have hz := hS.z
        have hn : l2.length = (tl x.2).length := by rw [hl2]; simp
        rw [hl2, pre_getD _ (by omega), pre_length, pre_getD _ (by omega)] at hz
        rw [lcp_pre] at hz
        simp at hz
      | _ :: _ :: _, _ => simp
  · rw [tl, hS.eq, h2, pre_append, e3]
    cases hs <;> simp [pre]
/-- the node under way -/
def BldS (w1 : World) (nn : Nat) (o : Int) (bs : List Nat) (val : Int) (hs : Bool) (L : List (Nat × Tr)) (wr : World) : Prop :=
  ∃ (kk : KV) (Q : List NP), StoreP NoB w1 wr (⟨nn, o, bs, val, hs, some kk⟩ :: Q) ∧ TreeIn (⟨nn, o, bs, val, hs, some kk⟩ :: Q) 1 (ofL L) (.pointer none) kk
section
variable {w1 wr w' : World} {nn : Nat} {o : Int} {bs : List Nat} {val : Int} {hs : Bool} {L : List (Nat × Tr)}
theorem BldS.below_ (h : BldS w1 nn o bs val hs L wr) : Below w1.heap.size w1 wr := by
  obtain ⟨kk, Q, h1, _⟩ := h; exact h1.below_
theorem BldS.below (h : BldS w1 nn o bs val hs L wr) (hb : Below wr.heap.size wr w') : BldS w1 nn o bs val hs L w' := by
  obtain ⟨kk, Q, h1, h2⟩ := h; exact ⟨kk, Q, h1.below hb, h2⟩
/-- a kid's tree beside it -/
def BldT (w1 : World) (nn : Nat) (o : Int) (bs : List Nat) (val : Int) (hs : Bool) (L : List (Nat × Tr)) (g : PL) (k : Nat) (wr : World) : Prop :=
  ∃ (t : Tr) (kk : KV) (Q : List NP), StoreP NoB w1 wr (⟨nn, o, bs, val, hs, some kk⟩ :: Q) ∧ TreeIn (⟨nn, o, bs, val, hs, some kk⟩ :: Q) 1 (ofL L) (.pointer none) kk ∧ TreeIn (⟨nn, o, bs, val, hs, some kk⟩ :: Q) 1 t (.pointer (some ⟨k, 0, none⟩)) [] ∧ IsN t ∧ TOk t ∧ Can t ∧ tl t = g
theorem BldS.kid (h : BldS w1 nn o bs val hs L wr) {g : PL} {e : Ending} (q : trePost g wr e w') : ∃ k, e = .returned (.pointer (some ⟨k, 0, none⟩)) ∧ BldT w1 nn o bs val hs L g k w' := by
  obtain ⟨kk, Q, h1, h2⟩ := h
  obtain ⟨t, k, R, rfl, q1, q2, q3, q4, q5, q6⟩ := q
  refine ⟨k, rfl, t, kk, Q ++ R, h1.join q1, h2.more R, ?_, q3, q4, q5, q6⟩
  have := q2.shift (⟨nn, o, bs, val, hs, some kk⟩ :: Q)
  exact this.low (by simp)
theorem BldT.below_ {g : PL} {k : Nat} (h : BldT w1 nn o bs val hs L g k wr) : Below w1.heap.size w1 wr := by
  obtain ⟨_, _, _, h, _⟩ := h; exact h.below_
theorem BldT.below {g : PL} {k : Nat} (h : BldT w1 nn o bs val hs L g k wr) (hb : Below wr.heap.size wr w') : BldT w1 nn o bs val hs L g k w' := by
  obtain ⟨t, kk, Q, h1, h2⟩ := h; exact ⟨t, kk, Q, h1.below hb, h2⟩
theorem BldT.set {g : PL} {k b : Nat} (h : BldT w1 nn o bs val hs L g k wr) (ho : o ≠ 0) (hb : b < 256) (hL : ∀ c ∈ L.map (·.1), c < b) :
    Calls Tryz.prog 53 #[.pointer (some ⟨nn, 0, none⟩), .int .u64 o, .int .u8 b, .pointer (some ⟨k, 0, none⟩)] wr fun e w' => e = .returned (.int .i64 0) ∧ ∃ t, BldS w1 nn o bs val hs (L ++ [(b, t)]) w' ∧ IsN t ∧ TOk t ∧ Can t ∧ tl t = g := by
  obtain ⟨t, kk, Q, h1, h2, h3, h4, h5, h6, h7⟩ := h
  refine (sp_setkid h1 (i := 0) (p := ⟨nn, o, bs, val, hs, some kk⟩) rfl rfl o (by simp [ho]) b hb ⟨k, 0, none⟩).mono ?_
  rintro e w' ⟨rfl, q, _⟩
  have q : StoreP NoB w1 w' (⟨nn, o, bs, val, hs, some (kins kk b (.pointer (some ⟨k, 0, none⟩)))⟩ :: Q) := q
  have hk := h2.keys
  rw [kins_end (by rw [hk]; exact hL)] at q
  refine ⟨rfl, t, ⟨kk ++ [(b, .pointer (some ⟨k, 0, none⟩))], Q, q, ?_⟩, h4, h5, h6, h7⟩
  have e1 := (h2.setOut (i := 0) (by omega) ⟨nn, o, bs, val, hs, some (kk ++ [(b, .pointer (some ⟨k, 0, none⟩))])⟩)
  have e2 := (h3.setOut (i := 0) (by omega) ⟨nn, o, bs, val, hs, some (kk ++ [(b, .pointer (some ⟨k, 0, none⟩))])⟩)
  exact TreeIn.snoc e1 e2
theorem BldS.done {l : PL} {w : World} (h : BldS w1 nn o bs val hs L wr) (hb : Below w.heap.size w w1) (hT : TOk (.node bs val hs false (ofL L)) ∧ Can (.node bs val hs false (ofL L)) ∧ tl (.node bs val hs false (ofL L)) = l) : trePost l w (.returned (.pointer (some ⟨nn, 0, none⟩))) wr := by
  obtain ⟨kk, Q, h1, h2⟩ := h
  exact ⟨.node bs val hs false (ofL L), nn, _, rfl, h1.rebase hb, ⟨0, _, Nat.le_refl _, rfl, rfl, rfl, rfl, rfl, rfl, h2.low (by omega)⟩, trivial, hT.1, hT.2.1, hT.2.2⟩
end
/-- a key's byte behind q -/
theorem key_at {w : World} {a : Option Addr} {n c : Nat} {q : List Nat} {r : PL} (h : Prs w a n c (pre q r)) {i : Nat} (hi : i < n) {d : Nat} {s : List Nat} (e : (r.getD i ([], 0)).1 = d :: s) :
    ∃ p p3 n3 c3, a = some p ∧ w.cell? (p.add (i * 2)) = some (.slice (some p3) n3 c3) ∧ q.length < n3 ∧ w.cell? (p3.add q.length) = some (.int .u8 (d : Nat)) := by
  have hl := h.len
  rw [pre_length] at hl
  obtain ⟨p, rfl, hq⟩ := h.at_ i (by rw [pre_length, hl]; exact hi)
  rw [pre_getD _ (by omega)] at hq
  obtain ⟨a3, n3, c3, q1, q2, q3⟩ := hq.cells
  rw [e] at q3
  have hn := q3.len
  rw [List.length_append, List.length_cons] at hn
  obtain ⟨p3, rfl, _, q4⟩ := q3.at_.2 q.length (by rw [List.length_append, List.length_cons]; omega)
  refine ⟨p, p3, n3, c3, rfl, q1, by omega, ?_⟩
  rw [q4]
  simp [List.getD]
theorem group_small {l : PL} {bs : List Nat} {l2 l3 r r2 g : PL} {L : List (Nat × Tr)} {val : Int} {hs : Bool} {b N : Nat} (hS : Start l bs l2) (h2 : l2 = (if hs then [([], val)] else []) ++ l3) (h : BldR l3 L r) (hr : r = pre [b] g ++ r2) (hN : l2.length ≤ N + 1) : g.length ≤ N := by
  have e := h.eq
  have h1 : l2.length = (if hs then 1 else 0) + ((tl (ofL L)).length + (g.length + r2.length)) := by
    rw [h2, e, hr]
    cases hs <;> simp <;> omega
  by_cases hg : g.length ≤ N
  · exact hg
  · exfalso
    have hr0 : r2 = [] := List.eq_nil_of_length_eq_zero (by split at h1 <;> omega)
    have ht0 : tl (ofL L) = [] := List.eq_nil_of_length_eq_zero (by split at h1 <;> omega)
    have hs0 : hs = false := by
      cases hs with
      | false => rfl
      | true => simp at h1; omega
    have hl2 : l2 = pre [b] g := by rw [h2, e, hr, hr0, ht0, hs0]; simp
    have hz := hS.z
    have htwo := hS.two
    have hn : l2.length = g.length := by rw [hl2]; simp
    rw [hl2, pre_getD _ (by omega), pre_length, pre_getD _ (by omega), lcp_pre] at hz
    simp at hz
theorem pre_take (q : List Nat) {b : Nat} {g r2 r : PL} (h : r = pre [b] g ++ r2) : (pre q r).take g.length = pre (q ++ [b]) g ∧ (pre q r).drop g.length = pre q r2 := by
  subst h
  rw [pre_append, pre_pre]
  constructor
  · rw [List.take_append_of_le_length (by simp), List.take_of_length_le (by simp)]
  · rw [List.drop_append_of_le_length (by simp), List.drop_of_length_le (by simp)]; rfl
theorem head_in {b : Nat} {g r2 r : PL} (h : r = pre [b] g ++ r2) {m : Nat} (hm : m < g.length) : (r.getD m ([], 0)).1 = b :: (g.getD m ([], 0)).1 := by
  subst h
  rw [List.getD, List.getElem?_append_left (by simpa using hm)]
  have := pre_getD [b] (r := g) (i := m) hm
  rw [List.getD] at this
  rw [this]; rfl
theorem head_out {b : Nat} {g r2 r : PL} (h : r = pre [b] g ++ r2) (h2 : ∀ x ∈ r2, ∃ c s, x.1 = c :: s ∧ b < c) (hm : g.length < r.length) : ∃ d s, (r.getD g.length ([], 0)).1 = d :: s ∧ b < d := by
  subst h
  rw [List.length_append, pre_length] at hm
  rw [List.getD, List.getElem?_append_right (by simp), pre_length, Nat.sub_self]
  cases r2 with
  | nil => simp at hm
  | cons x r2 => exact h2 x (by simp)
theorem prs_bytes {w : World} {a : Option Addr} {n c : Nat} {q : List Nat} {r : PL} (h : Prs w a n c (pre q r)) : ∀ x ∈ r, ∀ y ∈ x.1, y < 256 := fun x hx y hy => by
  obtain ⟨i, hi, rfl⟩ := List.getElem_of_mem hx
  obtain ⟨p, _, q1⟩ := h.at_ i (by simpa using hi)
  obtain ⟨a3, n3, c3, _, _, q2⟩ := q1.cells
  rw [pre_getD _ hi, getD_of_lt hi] at q2
  exact q2.at_.1 y (by simp [hy])
theorem bldR_start {l3 : PL} (hs : PSrt l3) (hb : ∀ x ∈ l3, ∀ y ∈ x.1, y < 256) (hn : ∀ x ∈ l3, x.1 ≠ []) : BldR l3 [] l3 :=
  ⟨by simp [ofL, tl], by simp, List.Pairwise.nil, fun x hx => by
    cases e : x.1 with
    | nil => exact absurd e (hn x hx)
    | cons c s => exact ⟨c, s, rfl, hb x hx c (by simp [e]), by simp⟩, hs⟩
theorem start_has {l : PL} {bs : List Nat} {l2 : PL} (hS : Start l bs l2) (hb : ∀ x ∈ l2, ∀ y ∈ x.1, y < 256) (h0 : (l2.getD 0 ([], 0)).1 = []) : ∃ l3, l2 = [([], (l2.getD 0 ([], 0)).2)] ++ l3 ∧ BldR l3 [] l3 := by
  have htwo := hS.two
  have hsr := hS.srt
  cases l2 with
  | nil => simp at htwo
  | cons x l3 =>
    have h0 : x.1 = [] := h0
    refine ⟨l3, ?_, bldR_start (psrt_tail hsr) (fun y hy => hb y (by simp [hy])) fun y hy e => ?_⟩
    · show x :: l3 = ([], x.2) :: l3
      rw [← h0]
    · have this : slt x.1 y.1 := (List.pairwise_cons.1 hsr).1 y.1 (List.mem_map_of_mem hy)
      rw [e] at this
      exact not_slt_nil _ this
theorem start_no {l : PL} {bs : List Nat} {l2 : PL} (hS : Start l bs l2) (hb : ∀ x ∈ l2, ∀ y ∈ x.1, y < 256) (h0 : (l2.getD 0 ([], 0)).1 ≠ []) : BldR l2 [] l2 := by
  have hsr := hS.srt
  refine bldR_start hsr hb fun y hy e => ?_
  cases l2 with
  | nil => simp at hy
  | cons x l3 =>
    have h0 : x.1 ≠ [] := h0
    rcases List.mem_cons.1 hy with rfl | hy
    · exact h0 e
    · have this : slt x.1 y.1 := (List.pairwise_cons.1 hsr).1 y.1 (List.mem_map_of_mem hy)
      rw [e] at this
      exact not_slt_nil _ this
end Go.Proofs.YtfhdiimcimafkaaGreatDoor
/- canon's maker.tree, walked whole. -/
namespace Go.Proofs.YtfhdiimcimafkaaGreatDoor
open Go.RowKit
/-- what a call to maker.tree is asked for -/
def TreeAsk (o : Int) (N : Nat) : Prop := ∀ (l : PL) (pfx : List Nat) (a : Option Addr) (n c : Nat) (w : World), l.length ≤ N → l ≠ [] → Prs w a n c (pre pfx l) → PSrt l → (∀ x ∈ pre pfx l, x.1.length ≤ 65535) →
  Calls Tryz.prog 33 #[.agg #[.pointer none, .int .u64 o], .slice a n c, .int .i64 (pfx.length : Nat)] w (trePost l w)
theorem inner_made {w w2 : World} {a : Option Addr} {n c : Nat} {bs : List Nat} (h : Sl w2 a n c bs) (hn : n ≤ 140737488355328) (hb : Below w.heap.size w w2) (o : Int) :
    Calls Tryz.prog 50 #[.pointer none, .int .u64 o, .slice a n c] w2 fun e w' => ∃ k, e = .returned (.pointer (some ⟨k, 0, none⟩)) ∧ BldS w k o bs 0 false [] w' := by
  refine (sp_inner0 (StoreP.nil NoB (Mod.refl NoB w2)) (In8.of_sl h hn) o).mono ?_
  rintro e w' ⟨k, rfl, ⟨h1, h2⟩, h3⟩
  exact ⟨k, rfl, [], [], h1.rebase hb, rfl⟩
theorem BldS.setVal {w1 wr : World} {nn : Nat} {o : Int} {bs : List Nat} (h : BldS w1 nn o bs 0 false [] wr) (ho : o ≠ 0) (v : Int) :
    Calls Tryz.prog 52 #[.pointer (some ⟨nn, 0, none⟩), .int .u64 o, .int .u64 v] wr fun e w' => e = .returned (.int .i64 0) ∧ BldS w1 nn o bs v true [] w' := by
  obtain ⟨kk, Q, h1, h2⟩ := h
  refine (sp_setval h1 (i := 0) (p := ⟨nn, o, bs, 0, false, some kk⟩) rfl o v (by simp [ho])).mono ?_
  rintro e w' ⟨rfl, q, _⟩
  have q : StoreP NoB w1 w' (⟨nn, o, bs, v, true, some kk⟩ :: Q) := q
  exact ⟨rfl, kk, Q, q, h2⟩
theorem prs_row {w : World} {a : Option Addr} {n c : Nat} {l : PL} (h : Prs w a n c l) {i : Nat} (hi : i < n) : ∃ p a3 n3 c3, a = some p ∧ w.cell? (p.add (i * 2)) = some (.slice a3 n3 c3) ∧ w.cell? ⟨(p.add (i * 2)).block, (p.add (i * 2)).off + 1, none⟩ = some (.int .u64 (l.getD i ([], 0)).2) ∧ Sl w a3 n3 c3 (l.getD i ([], 0)).1 := by
  obtain ⟨p, e, q⟩ := h.at_ i (by rw [h.len]; exact hi)
  obtain ⟨a3, n3, c3, q1, q2, q3⟩ := q.cells
  exact ⟨p, a3, n3, c3, e, q1, q2, q3⟩
theorem prs_first {w : World} {a : Option Addr} {n c : Nat} {l : PL} (h : Prs w a n c l) (hi : 0 < n) : ∃ p a3 n3 c3, a = some p ∧ w.cell? p = some (.slice a3 n3 c3) ∧ w.cell? ⟨p.block, p.off + 1, none⟩ = some (.int .u64 (l.getD 0 ([], 0)).2) ∧ Sl w a3 n3 c3 (l.getD 0 ([], 0)).1 := by
  obtain ⟨p, a3, n3, c3, e, q1, q2, q3⟩ := prs_row h hi
  simp only [Nat.zero_mul, Addr.add_zero'] at q1 q2
  exact ⟨p, a3, n3, c3, e, q1, q2, q3⟩
set_option maxHeartbeats 4000000 in
set_option maxRecDepth 100000 in
theorem tree_many (o : Int) (ho : o ≠ 0) (N : Nat) (IH : TreeAsk o N) (l : PL) (pfx : List Nat) (a : Option Addr) (n c : Nat) (w : World) (hN : l.length ≤ N + 1) (h2 : 2 ≤ l.length) (h : Prs w a n c (pre pfx l)) (hs : PSrt l) (hk : ∀ x ∈ pre pfx l, x.1.length ≤ 65535) :
    Calls Tryz.prog 33 #[.agg #[.pointer none, .int .u64 o], .slice a n c, .int .i64 (pfx.length : Nat)] w (trePost l w) := by
  obtain ⟨b0, b1, hb, hz⟩ := box_cells w o
  have hn : l.length = n := by have := h.len; rwa [pre_length] at this
  obtain ⟨bs, l2, hS, hbl, hbt⟩ := start_of hs h2
  have HP := h.below hb
  have hnm : n ≤ 9223372036854775807 := Nat.le_trans h.cap h.capm
  obtain ⟨p, af, nf, cf, rfl, q1, q2, q3⟩ := prs_first HP (by omega)
  obtain ⟨p', al, nl, cl, ep, q4, _, q6⟩ := prs_row HP (i := n - 1) (by omega)
  obtain rfl : p = p' := by simpa using ep
  rw [pre_getD _ (by omega)] at q3 q6 q2
  simp only at q3 q6 q2
  obtain ⟨fk, hfk⟩ : ∃ fk, fk = (l.getD 0 ([], 0)).1 := ⟨_, rfl⟩
  obtain ⟨fv, hfv⟩ : ∃ fv, fv = (l.getD 0 ([], 0)).2 := ⟨_, rfl⟩
  have hfm : (pfx ++ fk, fv) ∈ pre pfx l := by
    have := mem_getD (l := pre pfx l) (i := 0) (d := ([], 0)) (by rw [pre_length]; omega)
    rwa [pre_getD _ (by omega), ← hfk, ← hfv] at this
  have hnf := q3.len
  have hfk16 := hk _ hfm
  have hvv := HP.val _ hfm
  rw [← hfk] at q3 hnf hbl hbt
  rw [← hfv] at q2
  rw [hn] at hbl
  simp only at hfk16 hvv
  rw [List.length_append] at hnf hfk16
  have hbf : bs.length ≤ fk.length := by rw [hbl]; exact (lcp_le _ _).1
  obtain ⟨at_, hat⟩ : ∃ m, m = pfx.length := ⟨_, rfl⟩
  obtain ⟨en, hen⟩ : ∃ m, m = pfx.length + bs.length := ⟨_, rfl⟩
  have hcf := q3.cap
  have hcom : Hid (∀ w2, Below (boxW w o).heap.size (boxW w o) w2 → Calls Tryz.prog 61 #[.slice af nf cf, .slice al nl cl] w2 fun e w' => e = .returned (.int .i64 (en : Nat)) ∧ Below (boxW w o).heap.size (boxW w o) w') := fun w2 hw2 =>
    (keys_common w2 af al nf cf nl cl _ _ (q3.below hw2).at_ (q6.below hw2).at_ q3.len q6.len (Nat.le_trans q3.cap q3.capm) (Nat.le_trans q6.cap q6.capm)).mono fun e w' ⟨e1, k, e2⟩ => ⟨by rw [e1, lcp_pre, hen, hbl], by rw [e2]; exact below_drewN hw2 k⟩
  have hcutk : ∀ w, (Instr.slice 38 (.slice af nf cf) (some (.int .i64 (at_ : Nat))) (some (.int .i64 (en : Nat))) none).run Tryz.prog w = .ok (.slice (cutA af cf at_ 1) (en - at_) (cf - at_)) w := fun w => run_cut8 w af nf cf at_ en (by omega) (by omega)
  have hsb := q3.cut (lo := at_) (hi := en) (by omega) (by omega)
  have ebs : ((pfx ++ fk).take en).drop at_ = bs := by
    rw [hen, hat, List.take_append, List.take_of_length_le (by omega), Nat.add_sub_cancel_left, List.drop_left, ← hbt]
  rw [ebs] at hsb
  have hIn : Hid (∀ w2, Below (boxW w o).heap.size (boxW w o) w2 → Calls Tryz.prog 50 #[.pointer none, .int .u64 o, .slice (cutA af cf at_ 1) (en - at_) (cf - at_)] w2 fun e w' => ∃ k, e = .returned (.pointer (some ⟨k, 0, none⟩)) ∧ BldS (boxW w o) k o bs 0 false [] w') := fun w2 hw2 => inner_made (hsb.below hw2) (by omega) hw2 o
  have hKx : Hid (∀ wr, Below (boxW w o).heap.size (boxW w o) wr → wr.cell? ⟨w.heap.size, 0, none⟩ = some (.pointer none) ∧ wr.cell? ⟨w.heap.size, 1, none⟩ = some (.int .u64 o) ∧ wr.cell? p = some (.slice af nf cf) ∧ wr.cell? ⟨p.block, p.off + 1, none⟩ = some (.int .u64 fv)) := fun wr hw =>
    ⟨(hw.cell (p := ⟨w.heap.size, 0, none⟩) (cell_lt b0)).trans b0, (hw.cell (p := ⟨w.heap.size, 1, none⟩) (cell_lt b1)).trans b1, (hw.cell (cell_lt q1)).trans q1, (hw.cell (p := ⟨p.block, p.off + 1, none⟩) (cell_lt q2)).trans q2⟩
  have Hb := Lib.hid hb
  have HPb := Lib.hid HP
  have hq : Hid ((pfx ++ bs).length = en) := by show _ = _; rw [List.length_append, hen]
  have hpre : pre pfx l = pre (pfx ++ bs) l2 := by rw [hS.eq, pre_pre]
  rw [hpre] at HPb
  have hbb : Hid (∀ x ∈ bs, x < 256) := hsb.at_.1
  have i0 : (0 : Int) ≤ (at_ : Int) := by omega
  have i1 : (at_ : Int) ≤ (en : Int) := by omega
  have i2 : (en : Int) ≤ (cf : Int) := by omega
  have i3 : (en : Int) ≤ (nf : Int) := by omega
  have i4 : ((n : Int) == 0) = false := by rw [beq_eq_false_iff_ne]; omega
  have i5 : ((n : Int) == 1) = false := by rw [beq_eq_false_iff_ne]; omega
  have i6 : (0 : Int) < (n : Int) := by omega
  have i6n : 0 < n := by omega
  have i7 : IntKind.i64.wrap ((n : Int) - 1) = ((n - 1 : Nat) : Int) := by rw [show (n : Int) - 1 = ((n - 1 : Nat) : Int) by omega]; exact IntWalk.i64_in _ (by omega)
  have i8 : (((n - 1 : Nat) : Int)) < (n : Int) := by omega
  have i9 : (0 : Int) ≤ (((n - 1 : Nat) : Int)) := by omega
  have HS := Lib.hid hS
  have Hvv := Lib.hid hvv
  have Hhs := Lib.hid hs
  have Hk2 : Hid (∀ x ∈ pre (pfx ++ bs) l2, x.1.length ≤ 65535) := by rw [← hpre]; exact hk
  have Hn2 : Hid (l2.length = n ∧ n ≤ N + 1) := by
    show _ ∧ _
    have := congrArg List.length hS.eq
    rw [pre_length] at this
    omega
  have Hfk : Hid (fk = bs ++ (l2.getD 0 ([], 0)).1 ∧ fv = (l2.getD 0 ([], 0)).2) := by
    show _ ∧ _
    have h3 := hS.two
    have h4 := pre_getD bs (r := l2) (i := 0) (by omega)
    rw [← hS.eq] at h4
    exact ⟨by rw [hfk, h4], by rw [hfv, h4]⟩
  have hcutP : ∀ w, (Instr.slice 31 (.slice (some p) n c) (some (.int .i64 1)) none none).run Tryz.prog w = .ok (.slice (cutA (some p) c 1 2) (n - 1) (c - 1)) w := fun w => run_fromA w (some p) n c 1 (by omega)
  have hnfe : Hid (nf = pfx.length + fk.length ∧ en = pfx.length + bs.length) := ⟨hnf.symm, hen⟩
  have hat2 := Lib.hid hat
  have hen16 : en ≤ 65535 := by omega
  rw [← hat]
  clear hbt hbl hn h2 hN h hs hk q3 q6 hfm hfk hfv hnf hfk16 hvv hbf hat hen hcf hsb ebs hpre hS hb hz b0 b1 HP ep q1 q2
  generalize cutA af cf at_ 1 = ab at *
  generalize en - at_ = nb at *
  generalize cf - at_ = cb at *
  go_enter Tryz.func33, Tryz.ntmps33
  go_upto_region 6 with (fail)
  change Code.wp _ _ _ _ (boxW w o)
  generalize boxW w o = wb at *
  obtain ⟨k0, k1, k2, k3⟩ := hKx.out wb (Below.refl _ _)
  go_wp2_with (go_at_call 61; refine (hcom.out wb (Below.refl _ _)).mono ?_; rintro e w2 ⟨rfl, hw2⟩; have B2 := Lib.hid hw2; obtain ⟨k0, k1, k2, k3⟩ := hKx.out w2 hw2; clear hw2)
  go_still_tail 8, (by kernel_rfl)
  change wpList _ _ _ _ _ w2.drew
  by_cases hlen : fk.length = bs.length
  · have he : ((nf : Int) == (en : Int)) = true := by
      have := hnfe.out
      rw [beq_iff_eq]; omega
    have h0 : (l2.getD 0 ([], 0)).1 = [] := by
      have := congrArg List.length Hfk.out.1
      rw [List.length_append] at this
      exact List.eq_nil_of_length_eq_zero (by omega)
    obtain ⟨l3, e3, hR⟩ := start_has HS.out (prs_bytes HPb.out) h0
    rw [← Hfk.out.2] at e3
    have HR0 := Lib.hid hR
    have HP0 := Lib.hid (HPb.out.from_ (lo := 1) (by omega))
    rw [show (pre (pfx ++ bs) l2).drop 1 = pre (pfx ++ bs) l3 by rw [e3]; rfl] at HP0
    obtain ⟨val, hval⟩ : ∃ v, v = fv := ⟨_, rfl⟩
    obtain ⟨hs, hhs⟩ : ∃ v, v = true := ⟨_, rfl⟩
    have H2 : Hid (l2 = (if hs then [([], val)] else []) ++ l3) := by rw [hhs, hval]; exact e3
    have Hv : Hid (0 ≤ val ∧ val < 18446744073709551616) := by rw [hval]; exact Hvv.out
    have H0 : Hid (hs = false → val = 0) := fun e => by rw [hhs] at e; cases e
    rw [← hval] at k3
    have hsv : ∀ wr, BldS wb wr.heap.size o bs fv true [] wr → True := fun _ _ => trivial
    have hS5 : Hid (∀ (nn : Nat) (wr : World), BldS wb nn o bs fv true [] wr → BldS wb nn o bs val hs [] wr) := fun nn wr h => by rw [hhs, hval]; exact h
    clear hlen h0 e3 hR hval hhs hsv
    go_wp2_with (go_at_call 50; refine (hIn.out _ B2.out.drew).mono ?_; rintro e w3 ⟨nn, rfl, hS3⟩; have BS := Lib.hid hS3; obtain ⟨k0, k1, k2, k3⟩ := hKx.out w3 hS3.below_; clear hS3)
    have hV := Lib.hid ((BS.out.below (Below.refl _ _).drew).setVal ho fv)
    go_still_tail 7, (by kernel_rfl)
    change wpList _ _ _ _ _ w3.drew
    go_wp2_with (go_at_call 52; refine hV.out.mono ?_; rintro e w4 ⟨rfl, hS4⟩; have BS4 := Lib.hid (hS5.out nn w4 hS4); clear hS4)
    clear k0 k1 k2 k3 hcom hIn hcutk hcutP hS5 he
    go_loopw [1] (fun v1 wr => ∃ (a1 : Option Addr) (n1 c1 : Nat) (L : List (Nat × Tr)) (r : PL), v1 = .slice a1 n1 c1 ∧ n1 ≤ n ∧ Hid (Prs wb a1 n1 c1 (pre (pfx ++ bs) r)) ∧ Hid (∃ pre_, l3 = pre_ ++ r) ∧ Hid (BldR l3 L r) ∧ Hid (BldS wb nn o bs val hs L wr)) (fun v1 _ => match v1 with | .slice _ m _ => m | _ => 0)
    case atStart => exact ⟨_, _, _, [], l3, rfl, by omega, HP0, ⟨[], rfl⟩, HR0, BS4⟩
    case round =>
      clear HP0 HR0 BS4
      obtain ⟨a1, n1, c1, L, r, rfl, hn1, HP1, Hsuf, HR, BS⟩ := hrel
      have hr1 : Hid (r.length = n1) := by show _ = _; have := HP1.out.len; rwa [pre_length] at this
      by_cases hz : n1 = 0
      · subst hz
        have j1 : ¬ (0 : Int) < ((0 : Nat) : Int) := by omega
        obtain rfl : r = [] := List.eq_nil_of_length_eq_zero hr1.out
        have hE := Lib.hid (BS.out.done Hb.out (grow_end HS.out HR.out H2.out Hv.out H0.out hbb.out))
        go_wp2_with fail
        go_ret
        exact hE.out
      · obtain ⟨b, g, r2, e1, hg, sg, hb256, hbL, hr2, hnext⟩ := HR.out.next (fun e => by rw [e] at hr1; exact hz hr1.out.symm)
        have E1 := Lib.hid e1
        have hr2 := Lib.hid hr2
        have hnext := Lib.hid hnext
        have hbL := Lib.hid hbL
        have hgN : Hid (g.length ≤ N) := group_small HS.out H2.out HR.out e1 (by have := Hn2.out; omega)
        have hg0 := Lib.hid hg
        obtain ⟨G, hG⟩ : ∃ G, G = g.length := ⟨_, rfl⟩
        have HG := Lib.hid hG
        have hG1 : 1 ≤ G := by
          cases g with
          | nil => exact absurd rfl hg
          | cons x g => rw [hG]; simp
        have hGn : G ≤ n1 := by rw [hG, ← hr1.out, e1]; simp
        obtain ⟨p1, p3, n3, c3, rfl, z1, z2, z3⟩ := key_at (HP1.out.below BS.out.below_) (i := 0) (by omega) (head_in e1 (m := 0) (by omega))
        rw [hq.out] at z2 z3
        simp only [Nat.zero_mul, Addr.add_zero'] at z1
        have j1 : (0 : Int) < (n1 : Int) := by omega
        have j2 : 0 < n1 := by omega
        have j3 : (0 : Int) ≤ (en : Int) := by omega
        have j4 : (en : Int) < (n3 : Int) := by omega
        clear hG hg e1 hz z2
        go_wp2_with fail
        go_loop [11] (fun vm => ∃ m : Nat, vm = .int .i64 (m : Nat) ∧ 1 ≤ m ∧ m ≤ G) (fun vm => (G - intOf vm).toNat)
        case atStart => exact ⟨1, rfl, by omega, hG1⟩
        case round =>
          clear z1 z3 j4
          obtain ⟨m, rfl, hm1, hm2⟩ := hrel
          by_cases hmG : m < G
          · obtain ⟨p1', p3', n3', c3', hp, z1, z2, z3⟩ := key_at (HP1.out.below BS.out.below_) (i := m) (by omega) (head_in E1.out (m := m) (by rw [← HG.out]; exact hmG))
            obtain rfl : p1 = p1' := by simpa using hp
            rw [hq.out] at z2 z3
            have j4 : (en : Int) < (n3' : Int) := by omega
            have j5 : (m : Int) < (n1 : Int) := by omega
            have j6 : (0 : Int) ≤ (m : Int) := by omega
            have hw9 : IntKind.i64.wrap (((m : Nat) : Int) + 1) = ((m + 1 : Nat) : Int) := by rw [show ((m : Nat) : Int) + 1 = ((m + 1 : Nat) : Int) by omega]; exact IntWalk.i64_in _ (by omega)
            clear hp z2
            go_wp2_with fail
            go_round
            case rel => exact ⟨m + 1, (by first | rfl | go_num), by omega, by omega⟩
            case measure => (simp [intOf]) <;> omega
          · obtain rfl : m = G := by omega
            have hT : Hid (∀ w', Below wr.heap.size wr w' → Calls Tryz.prog 33 #[.agg #[.pointer none, .int .u64 o], .slice (some p1) m c1, .int .i64 ((en + 1 : Nat) : Int)] w' fun e w'' => ∃ k, e = .returned (.pointer (some ⟨k, 0, none⟩)) ∧ BldT wb nn o bs val hs L g k w'') := fun w' hw' => by
              have hP2 := ((HP1.out.below BS.out.below_).below hw').to_ (hi := m) hGn
              rw [cutA_zero, HG.out, (pre_take (pfx ++ bs) E1.out).1, ← HG.out] at hP2
              have hbnd : ∀ x ∈ pre (pfx ++ bs ++ [b]) g, x.1.length ≤ 65535 := fun x hx => by
                refine Hk2.out x ?_
                obtain ⟨pr, e2⟩ := Hsuf.out
                rw [H2.out, e2, E1.out, pre_append, pre_append, pre_append, pre_pre]
                exact List.mem_append.2 (Or.inr (List.mem_append.2 (Or.inr (List.mem_append.2 (Or.inl hx)))))
              have := IH g (pfx ++ bs ++ [b]) (some p1) m c1 w' hgN.out hg0.out hP2 sg hbnd
              rw [show (pfx ++ bs ++ [b]).length = en + 1 by rw [List.length_append, hq.out]; rfl] at this
              exact this.mono fun e w'' q => (BS.out.below hw').kid q
            have hSK : Hid (∀ k w', BldT wb nn o bs val hs L g k w' → Calls Tryz.prog 53 #[.pointer (some ⟨nn, 0, none⟩), .int .u64 o, .int .u8 (b : Nat), .pointer (some ⟨k, 0, none⟩)] w' fun e w'' => e = .returned (.int .i64 0) ∧ ∃ t, BldS wb nn o bs val hs (L ++ [(b, t)]) w'' ∧ IsN t ∧ TOk t ∧ Can t ∧ tl t = g) := fun k w' q => q.set ho hb256 hbL.out
            have hcutG : ∀ w, (Instr.slice 31 (.slice (some p1) n1 c1) none (some (.int .i64 (m : Nat))) none).run Tryz.prog w = .ok (.slice (some p1) m c1) w := fun w => by rw [run_toA w (some p1) n1 c1 m (Nat.le_trans hGn HP1.out.cap), cutA_zero]
            have hcutR : ∀ w, (Instr.slice 31 (.slice (some p1) n1 c1) (some (.int .i64 (m : Nat))) none none).run Tryz.prog w = .ok (.slice (cutA (some p1) c1 m 2) (n1 - m) (c1 - m)) w := fun w => run_fromA w (some p1) n1 c1 m hGn
            have hP5 := HP1.out.from_ (lo := m) hGn
            rw [HG.out, (pre_take (pfx ++ bs) E1.out).2, ← HG.out] at hP5
            replace hP5 := Lib.hid hP5
            have hsuf5 : Hid (∃ pre_, l3 = pre_ ++ r2) := by
              obtain ⟨pr, e2⟩ := Hsuf.out
              exact ⟨pr ++ pre [b] g, by rw [e2, E1.out, List.append_assoc]⟩
            have hwe : IntKind.i64.wrap ((en : Int) + 1) = ((en + 1 : Nat) : Int) := by rw [show (en : Int) + 1 = ((en + 1 : Nat) : Int) by omega]; exact IntWalk.i64_in _ (by omega)
            have j6 : (0 : Int) ≤ (m : Int) := by omega
            have j7 : (m : Int) ≤ (n1 : Int) := by omega
            have j8 : (m : Int) ≤ (c1 : Int) := by have := HP1.out.cap; omega
            obtain ⟨y0, y1, _, _⟩ := hKx.out wr BS.out.below_
            have hB1 := Lib.hid hKx.out
            have hBr : Hid (∀ k, Below wr.heap.size wr (wr.drewN k)) := fun k => below_drewN (Below.refl _ _) k
            by_cases hend : m < n1
            · obtain ⟨d, s, e5, hd⟩ := head_out E1.out hr2.out (by rw [← HG.out, hr1.out]; exact hend)
              rw [← HG.out] at e5
              obtain ⟨p1', p3', n3', c3', hp, z1, z2, z3⟩ := key_at (HP1.out.below BS.out.below_) (i := m) hend e5
              obtain rfl : p1 = p1' := by simpa using hp
              rw [hq.out] at z2 z3
              have j4 : (en : Int) < (n3' : Int) := by omega
              have j5 : (m : Int) < (n1 : Int) := by omega
              have j9 : (((d : Nat) : Int) == ((b : Nat) : Int)) = false := by rw [beq_eq_false_iff_ne]; omega
              clear hp z2 e5
              go_wp2_with fail
              go_region_held3 (fun w' => w'.cell? ⟨w.heap.size, 0, none⟩ = some (.pointer none) ∧ w'.cell? ⟨w.heap.size, 1, none⟩ = some (.int .u64 o)) (first | go_keep)
                (first | (go_at_call 53; refine (hSK.out _ _ qT.out).mono ?_; rintro e w6 ⟨rfl, t, qS, t1⟩; have qS := Lib.hid qS; obtain ⟨y4, y5, _, _⟩ := hKx.out w6 qS.out.below_) | (go_at_call 33; refine (hT.out _ (hBr.out _)).mono ?_; rintro e w5 ⟨k, rfl, qT⟩; have qT := Lib.hid qT; obtain ⟨y2, y3, _, _⟩ := hKx.out w5 qT.out.below_))
              have hR5 := Lib.hid (hnext.out t t1.1 t1.2.1 t1.2.2.1 t1.2.2.2)
              go_wp2_with fail
              go_roundw
              case rel => exact ⟨_, _, _, L ++ [(b, t)], r2, rfl, by omega, hP5, hsuf5, hR5, qS⟩
              case measure => (simp) <;> omega
            · have j5 : ¬ (m : Int) < (n1 : Int) := by omega
              go_wp2_with fail
              go_region_held3 (fun w' => w'.cell? ⟨w.heap.size, 0, none⟩ = some (.pointer none) ∧ w'.cell? ⟨w.heap.size, 1, none⟩ = some (.int .u64 o)) (first | go_keep)
                (first | (go_at_call 53; refine (hSK.out _ _ qT.out).mono ?_; rintro e w6 ⟨rfl, t, qS, t1⟩; have qS := Lib.hid qS; obtain ⟨y4, y5, _, _⟩ := hKx.out w6 qS.out.below_) | (go_at_call 33; refine (hT.out _ (hBr.out _)).mono ?_; rintro e w5 ⟨k, rfl, qT⟩; have qT := Lib.hid qT; obtain ⟨y2, y3, _, _⟩ := hKx.out w5 qT.out.below_))
              have hR5 := Lib.hid (hnext.out t t1.1 t1.2.1 t1.2.2.1 t1.2.2.2)
              go_wp2_with fail
              go_roundw
              case rel => exact ⟨_, _, _, L ++ [(b, t)], r2, rfl, by omega, hP5, hsuf5, hR5, qS⟩
              case measure => (simp) <;> omega
  · have he : ((nf : Int) == (en : Int)) = false := by
      have := hnfe.out
      rw [beq_eq_false_iff_ne]; omega
    have h0 : (l2.getD 0 ([], 0)).1 ≠ [] := fun e => by
      have := congrArg List.length Hfk.out.1
      rw [List.length_append, e] at this
      exact hlen (by simpa using this)
    obtain ⟨l3, e3⟩ : ∃ l3, l3 = l2 := ⟨_, rfl⟩
    have HR0 : Hid (BldR l3 [] l3) := by rw [e3]; exact start_no HS.out (prs_bytes HPb.out) h0
    have HP0 : Hid (Prs wb (some p) n c (pre (pfx ++ bs) l3)) := by rw [e3]; exact HPb.out
    obtain ⟨val, hval⟩ : ∃ v, v = (0 : Int) := ⟨_, rfl⟩
    obtain ⟨hs, hhs⟩ : ∃ v, v = false := ⟨_, rfl⟩
    have H2 : Hid (l2 = (if hs then [([], val)] else []) ++ l3) := by rw [hhs, e3]; exact rfl
    have Hv : Hid (0 ≤ val ∧ val < 18446744073709551616) := by show _ ∧ _; omega
    have H0 : Hid (hs = false → val = 0) := fun _ => hval
    have hS5 : Hid (∀ (nn : Nat) (wr : World), BldS wb nn o bs 0 false [] wr → BldS wb nn o bs val hs [] wr) := fun nn wr h => by rw [hhs, hval]; exact h
    clear hlen h0 e3 hval hhs
    go_wp2_with (go_at_call 50; refine (hIn.out _ B2.out.drew).mono ?_; rintro e w4 ⟨nn, rfl, hS3⟩; have BS4 := Lib.hid (hS5.out nn w4 hS3); clear hS3)
    clear k0 k1 k2 k3 hcom hIn hcutk hcutP hS5 he
    go_loopw [1] (fun v1 wr => ∃ (a1 : Option Addr) (n1 c1 : Nat) (L : List (Nat × Tr)) (r : PL), v1 = .slice a1 n1 c1 ∧ n1 ≤ n ∧ Hid (Prs wb a1 n1 c1 (pre (pfx ++ bs) r)) ∧ Hid (∃ pre_, l3 = pre_ ++ r) ∧ Hid (BldR l3 L r) ∧ Hid (BldS wb nn o bs val hs L wr)) (fun v1 _ => match v1 with | .slice _ m _ => m | _ => 0)
    case atStart => exact ⟨_, _, _, [], l3, rfl, by omega, HP0, ⟨[], rfl⟩, HR0, BS4⟩
    case round =>
      clear HP0 HR0 BS4
      obtain ⟨a1, n1, c1, L, r, rfl, hn1, HP1, Hsuf, HR, BS⟩ := hrel
      have hr1 : Hid (r.length = n1) := by show _ = _; have := HP1.out.len; rwa [pre_length] at this
      by_cases hz : n1 = 0
      · subst hz
        have j1 : ¬ (0 : Int) < ((0 : Nat) : Int) := by omega
        obtain rfl : r = [] := List.eq_nil_of_length_eq_zero hr1.out
        have hE := Lib.hid (BS.out.done Hb.out (grow_end HS.out HR.out H2.out Hv.out H0.out hbb.out))
        go_wp2_with fail
        go_ret
        exact hE.out
      · obtain ⟨b, g, r2, e1, hg, sg, hb256, hbL, hr2, hnext⟩ := HR.out.next (fun e => by rw [e] at hr1; exact hz hr1.out.symm)
        have E1 := Lib.hid e1
        have hr2 := Lib.hid hr2
        have hnext := Lib.hid hnext
        have hbL := Lib.hid hbL
        have hgN : Hid (g.length ≤ N) := group_small HS.out H2.out HR.out e1 (by have := Hn2.out; omega)
        have hg0 := Lib.hid hg
        obtain ⟨G, hG⟩ : ∃ G, G = g.length := ⟨_, rfl⟩
        have HG := Lib.hid hG
        have hG1 : 1 ≤ G := by
          cases g with
          | nil => exact absurd rfl hg
          | cons x g => rw [hG]; simp
        have hGn : G ≤ n1 := by rw [hG, ← hr1.out, e1]; simp
        obtain ⟨p1, p3, n3, c3, rfl, z1, z2, z3⟩ := key_at (HP1.out.below BS.out.below_) (i := 0) (by omega) (head_in e1 (m := 0) (by omega))
        rw [hq.out] at z2 z3
        simp only [Nat.zero_mul, Addr.add_zero'] at z1
        have j1 : (0 : Int) < (n1 : Int) := by omega
        have j2 : 0 < n1 := by omega
        have j3 : (0 : Int) ≤ (en : Int) := by omega
        have j4 : (en : Int) < (n3 : Int) := by omega
        clear hG hg e1 hz z2
        go_wp2_with fail
        go_loop [11] (fun vm => ∃ m : Nat, vm = .int .i64 (m : Nat) ∧ 1 ≤ m ∧ m ≤ G) (fun vm => (G - intOf vm).toNat)
        case atStart => exact ⟨1, rfl, by omega, hG1⟩
        case round =>
          clear z1 z3 j4
          obtain ⟨m, rfl, hm1, hm2⟩ := hrel
          by_cases hmG : m < G
          · obtain ⟨p1', p3', n3', c3', hp, z1, z2, z3⟩ := key_at (HP1.out.below BS.out.below_) (i := m) (by omega) (head_in E1.out (m := m) (by rw [← HG.out]; exact hmG))
            obtain rfl : p1 = p1' := by simpa using hp
            rw [hq.out] at z2 z3
            have j4 : (en : Int) < (n3' : Int) := by omega
            have j5 : (m : Int) < (n1 : Int) := by omega
            have j6 : (0 : Int) ≤ (m : Int) := by omega
            have hw9 : IntKind.i64.wrap (((m : Nat) : Int) + 1) = ((m + 1 : Nat) : Int) := by rw [show ((m : Nat) : Int) + 1 = ((m + 1 : Nat) : Int) by omega]; exact IntWalk.i64_in _ (by omega)
            clear hp z2
            go_wp2_with fail
            go_round
            case rel => exact ⟨m + 1, (by first | rfl | go_num), by omega, by omega⟩
            case measure => (simp [intOf]) <;> omega
          · obtain rfl : m = G := by omega
            have hT : Hid (∀ w', Below wr.heap.size wr w' → Calls Tryz.prog 33 #[.agg #[.pointer none, .int .u64 o], .slice (some p1) m c1, .int .i64 ((en + 1 : Nat) : Int)] w' fun e w'' => ∃ k, e = .returned (.pointer (some ⟨k, 0, none⟩)) ∧ BldT wb nn o bs val hs L g k w'') := fun w' hw' => by
              have hP2 := ((HP1.out.below BS.out.below_).below hw').to_ (hi := m) hGn
              rw [cutA_zero, HG.out, (pre_take (pfx ++ bs) E1.out).1, ← HG.out] at hP2
              have hbnd : ∀ x ∈ pre (pfx ++ bs ++ [b]) g, x.1.length ≤ 65535 := fun x hx => by
                refine Hk2.out x ?_
                obtain ⟨pr, e2⟩ := Hsuf.out
                rw [H2.out, e2, E1.out, pre_append, pre_append, pre_append, pre_pre]
                exact List.mem_append.2 (Or.inr (List.mem_append.2 (Or.inr (List.mem_append.2 (Or.inl hx)))))
              have := IH g (pfx ++ bs ++ [b]) (some p1) m c1 w' hgN.out hg0.out hP2 sg hbnd
              rw [show (pfx ++ bs ++ [b]).length = en + 1 by rw [List.length_append, hq.out]; rfl] at this
              exact this.mono fun e w'' q => (BS.out.below hw').kid q
            have hSK : Hid (∀ k w', BldT wb nn o bs val hs L g k w' → Calls Tryz.prog 53 #[.pointer (some ⟨nn, 0, none⟩), .int .u64 o, .int .u8 (b : Nat), .pointer (some ⟨k, 0, none⟩)] w' fun e w'' => e = .returned (.int .i64 0) ∧ ∃ t, BldS wb nn o bs val hs (L ++ [(b, t)]) w'' ∧ IsN t ∧ TOk t ∧ Can t ∧ tl t = g) := fun k w' q => q.set ho hb256 hbL.out
            have hcutG : ∀ w, (Instr.slice 31 (.slice (some p1) n1 c1) none (some (.int .i64 (m : Nat))) none).run Tryz.prog w = .ok (.slice (some p1) m c1) w := fun w => by rw [run_toA w (some p1) n1 c1 m (Nat.le_trans hGn HP1.out.cap), cutA_zero]
            have hcutR : ∀ w, (Instr.slice 31 (.slice (some p1) n1 c1) (some (.int .i64 (m : Nat))) none none).run Tryz.prog w = .ok (.slice (cutA (some p1) c1 m 2) (n1 - m) (c1 - m)) w := fun w => run_fromA w (some p1) n1 c1 m hGn
            have hP5 := HP1.out.from_ (lo := m) hGn
            rw [HG.out, (pre_take (pfx ++ bs) E1.out).2, ← HG.out] at hP5
            replace hP5 := Lib.hid hP5
            have hsuf5 : Hid (∃ pre_, l3 = pre_ ++ r2) := by
              obtain ⟨pr, e2⟩ := Hsuf.out
              exact ⟨pr ++ pre [b] g, by rw [e2, E1.out, List.append_assoc]⟩
            have hwe : IntKind.i64.wrap ((en : Int) + 1) = ((en + 1 : Nat) : Int) := by rw [show (en : Int) + 1 = ((en + 1 : Nat) : Int) by omega]; exact IntWalk.i64_in _ (by omega)
            have j6 : (0 : Int) ≤ (m : Int) := by omega
            have j7 : (m : Int) ≤ (n1 : Int) := by omega
            have j8 : (m : Int) ≤ (c1 : Int) := by have := HP1.out.cap; omega
            obtain ⟨y0, y1, _, _⟩ := hKx.out wr BS.out.below_
            have hB1 := Lib.hid hKx.out
            have hBr : Hid (∀ k, Below wr.heap.size wr (wr.drewN k)) := fun k => below_drewN (Below.refl _ _) k
            by_cases hend : m < n1
            · obtain ⟨d, s, e5, hd⟩ := head_out E1.out hr2.out (by rw [← HG.out, hr1.out]; exact hend)
              rw [← HG.out] at e5
              obtain ⟨p1', p3', n3', c3', hp, z1, z2, z3⟩ := key_at (HP1.out.below BS.out.below_) (i := m) hend e5
              obtain rfl : p1 = p1' := by simpa using hp
              rw [hq.out] at z2 z3
              have j4 : (en : Int) < (n3' : Int) := by omega
              have j5 : (m : Int) < (n1 : Int) := by omega
              have j9 : (((d : Nat) : Int) == ((b : Nat) : Int)) = false := by rw [beq_eq_false_iff_ne]; omega
              clear hp z2 e5
              go_wp2_with fail
              go_region_held3 (fun w' => w'.cell? ⟨w.heap.size, 0, none⟩ = some (.pointer none) ∧ w'.cell? ⟨w.heap.size, 1, none⟩ = some (.int .u64 o)) (first | go_keep)
                (first | (go_at_call 53; refine (hSK.out _ _ qT.out).mono ?_; rintro e w6 ⟨rfl, t, qS, t1⟩; have qS := Lib.hid qS; obtain ⟨y4, y5, _, _⟩ := hKx.out w6 qS.out.below_) | (go_at_call 33; refine (hT.out _ (hBr.out _)).mono ?_; rintro e w5 ⟨k, rfl, qT⟩; have qT := Lib.hid qT; obtain ⟨y2, y3, _, _⟩ := hKx.out w5 qT.out.below_))
              have hR5 := Lib.hid (hnext.out t t1.1 t1.2.1 t1.2.2.1 t1.2.2.2)
              go_wp2_with fail
              go_roundw
              case rel => exact ⟨_, _, _, L ++ [(b, t)], r2, rfl, by omega, hP5, hsuf5, hR5, qS⟩
              case measure => (simp) <;> omega
            · have j5 : ¬ (m : Int) < (n1 : Int) := by omega
              go_wp2_with fail
              go_region_held3 (fun w' => w'.cell? ⟨w.heap.size, 0, none⟩ = some (.pointer none) ∧ w'.cell? ⟨w.heap.size, 1, none⟩ = some (.int .u64 o)) (first | go_keep)
                (first | (go_at_call 53; refine (hSK.out _ _ qT.out).mono ?_; rintro e w6 ⟨rfl, t, qS, t1⟩; have qS := Lib.hid qS; obtain ⟨y4, y5, _, _⟩ := hKx.out w6 qS.out.below_) | (go_at_call 33; refine (hT.out _ (hBr.out _)).mono ?_; rintro e w5 ⟨k, rfl, qT⟩; have qT := Lib.hid qT; obtain ⟨y2, y3, _, _⟩ := hKx.out w5 qT.out.below_))
              have hR5 := Lib.hid (hnext.out t t1.1 t1.2.1 t1.2.2.1 t1.2.2.2)
              go_wp2_with fail
              go_roundw
              case rel => exact ⟨_, _, _, L ++ [(b, t)], r2, rfl, by omega, hP5, hsuf5, hR5, qS⟩
              case measure => (simp) <;> omega
end Go.Proofs.YtfhdiimcimafkaaGreatDoor
/- canon.Build where no meter counts. -/
namespace Go.Proofs.YtfhdiimcimafkaaGreatDoor
open Go.RowKit
theorem maker_tree (o : Int) (ho : o ≠ 0) : ∀ N, TreeAsk o N
  | 0 => fun l pfx a n c w h h0 => absurd (List.eq_nil_of_length_eq_zero (by omega)) h0
  | N + 1 => fun l pfx a n c w hN h0 h hs hk => by
    by_cases h2 : 2 ≤ l.length
    · exact tree_many o ho N (maker_tree o ho N) l pfx a n c w hN h2 h hs hk
    · match l, h0, h2 with
      | [(k, v)], _, _ =>
        obtain rfl : n = 1 := h.len.symm
        exact tree_one o k v pfx a c w h (hk (pfx ++ k, v) (by simp [pre]))
      | _ :: _ :: _, _, h2 => exact absurd (by simp) h2
/-- a tree that stands among nodes; none: nobody -/
def TreeV (Q : List NP) (t : Tr) (v : Value) : Prop := (t = .nil ∧ v = .pointer none) ∨ (IsN t ∧ TreeIn Q 0 t v [])
def BuiltPost (l : PL) (w : World) (e : Ending) (w' : World) : Prop :=
  ∃ (t : Tr) (a : Option Addr) (Q : List NP), e = .returned (.tuple #[.pointer a, .int .i64 0]) ∧ StoreP NoB w w' Q ∧ TreeV Q t (.pointer a) ∧ TOk t ∧ Can t ∧ tl t = l
theorem chkE_ok {l : PL} (hs : PSrt l) (hk : ∀ x ∈ l, x.1.length ≤ 65535) : chkE l = 0 := by
  unfold chkE
  rw [farL_no (fun i hi => hk _ (mem_getD hi)), srtB_srt.2 hs]
  rfl
set_option maxHeartbeats 1000000 in
theorem canon_build (o : Int) (ho : o ≠ 0) (w : World) (a : Option Addr) (n c : Nat) (l : PL) (h : Prs w a n c l) (hs : PSrt l) (hk : ∀ x ∈ l, x.1.length ≤ 65535) :
    Calls Tryz.prog 10 #[.pointer none, .int .u64 o, .slice a n c] w (BuiltPost l w) := by
  have hC := canon_check w a n c l h
  rw [chkE_ok hs hk] at hC
  replace hC := Lib.hid hC
  have hT : Hid (∀ w', Below w.heap.size w w' → Calls Tryz.prog 33 #[.agg #[.pointer none, .int .u64 o], .slice a n c, .int .i64 0] w' fun e w'' => ∃ (t : Tr) (a : Option Addr) (Q : List NP), e = .returned (.pointer a) ∧ StoreP NoB w w'' Q ∧ TreeV Q t (.pointer a) ∧ TOk t ∧ Can t ∧ tl t = l) := fun w' hw' => by
    by_cases h0 : l = []
    · subst h0
      obtain rfl : n = 0 := h.len.symm
      go_enter Tryz.func33, Tryz.ntmps33
      go_wp2_with fail
      go_ret
      exact ⟨.nil, none, [], rfl, StoreP.nil _ (Mod.of_below (hw'.alloc hw'.size _)), Or.inl ⟨rfl, rfl⟩, trivial, trivial, rfl⟩
    · have := maker_tree o ho l.length l [] a n c w' (Nat.le_refl _) h0 (by rw [pre_none]; exact h.below hw') hs (by rw [pre_none]; exact hk)
      refine Calls.mono this ?_
      rintro e w'' ⟨t, k, Q, rfl, q1, q2, q3, q4, q5, q6⟩
      exact ⟨t, some ⟨k, 0, none⟩, Q, rfl, q1.rebase hw', Or.inr ⟨q3, q2⟩, q4, q5, q6⟩
  clear h hs hk
  go_enter Tryz.func10, Tryz.ntmps10
  go_wp2_with (first | (go_at_call 33; refine (hT.out _ B.out).mono ?_; rintro e w2 ⟨t, a2, Q, rfl, q⟩; have q := Lib.hid q) | (go_at_call 32; refine hC.out.mono ?_; rintro e w1 ⟨rfl, hb⟩; have B := Lib.hid hb; clear hb))
  go_ret2
  exact ⟨t, a2, Q, rfl, q.out⟩
end Go.Proofs.YtfhdiimcimafkaaGreatDoor
/- Slices that a call made itself, of things of several cells; append to them; pairs in such a slice. -/
namespace Go.Proofs.YtfhdiimcimafkaaGreatDoor
open Go.RowKit
/-- an owned slice: n things of sz cells each -/
def OwnS (sz ty : Nat) (w : World) (v : Value) (n : Nat) (xs : List Value) (bo : Option Nat) : Prop :=
  (v = .slice none 0 0 ∧ n = 0 ∧ xs = [] ∧ bo = none) ∨
  (∃ g cap cur, bo = some g ∧ v = .slice (some ⟨g, 0, none⟩) n cap ∧ w.heap[g]? = some (.cells cur ty (0, 0)) ∧ n ≤ cap ∧ cap ≤ maxLen ∧ cur.size = cap * sz ∧ cur.toList.take (n * sz) = xs ∧ xs.length = n * sz)
section
variable {sz ty n : Nat} {w w' : World} {v : Value} {xs : List Value} {bo : Option Nat}
theorem OwnS.nil (sz ty : Nat) (w : World) : OwnS sz ty w (.slice none 0 0) 0 [] none := Or.inl ⟨rfl, rfl, rfl, rfl⟩
theorem OwnS.len (h : OwnS sz ty w v n xs bo) : ∃ a c, v = .slice a n c ∧ n ≤ c ∧ c ≤ maxLen ∧ (a = none → n = 0 ∧ c = 0) := by
  rcases h with ⟨rfl, rfl, _⟩ | ⟨g, cap, cur, _, rfl, _, h1, h2, _⟩
  · exact ⟨_, _, rfl, Nat.le_refl _, Nat.zero_le _, fun _ => ⟨rfl, rfl⟩⟩
  · exact ⟨_, _, rfl, h1, h2, fun e => by cases e⟩
theorem OwnS.keep (h : OwnS sz ty w v n xs bo) (hk : ∀ g, bo = some g → w'.heap[g]? = w.heap[g]?) : OwnS sz ty w' v n xs bo := by
  rcases h with h | ⟨g, cap, cur, rfl, hv, hg, r⟩
  · exact Or.inl h
  · exact Or.inr ⟨g, cap, cur, rfl, hv, (hk g rfl).trans hg, r⟩
theorem OwnS.lt {g : Nat} (h : OwnS sz ty w v n xs (some g)) : g < w.heap.size := by
  rcases h with ⟨_, _, _, h⟩ | ⟨g', cap, cur, e, _, hg, _⟩
  · cases h
  · cases e; exact (Array.getElem?_eq_some_iff.1 hg).1
theorem OwnS.below (h : OwnS sz ty w v n xs bo) (hb : Below w.heap.size w w') : OwnS sz ty w' v n xs bo := h.keep fun g e => hb.block g (by subst e; exact h.lt)
theorem OwnS.drewN (h : OwnS sz ty w v n xs bo) (k : Nat) : OwnS sz ty (w.drewN k) v n xs bo := h.keep fun _ _ => rfl
/-- a cell of it -/
theorem OwnS.at_ (h : OwnS sz ty w v n xs bo) {j : Nat} (hj : j < n * sz) : ∃ g cap, bo = some g ∧ v = .slice (some ⟨g, 0, none⟩) n cap ∧ w.cell? ⟨g, j, none⟩ = xs[j]? ∧ w.frozen? ⟨g, j, none⟩ = false := by
  rcases h with ⟨_, rfl, _⟩ | ⟨g, cap, cur, rfl, rfl, hg, hl, hm, hs, ht, _⟩
  · simp at hj
  · refine ⟨g, cap, rfl, rfl, ?_, frozen_of_blk hg j⟩
    rw [cell_of_row w g j cur ty (0, 0) hg, ← take_get ht hj]
    simp
theorem OwnS.set {g : Nat} (h : OwnS sz ty w v n xs (some g)) (j : Nat) (x : Value) : OwnS sz ty (w.setCell ⟨g, j, none⟩ x) v n (xs.set j x) (some g) := by
  rcases h with ⟨_, _, _, h⟩ | ⟨g', cap, cur, e, hv, hg, hl, hm, hs, ht, hxl⟩
  · cases h
  · cases e
    refine Or.inr ⟨g, cap, cur.setIfInBounds j x, rfl, hv, ?_, hl, hm, by simpa using hs, ?_, by simpa using hxl⟩
    · rw [setCell_eq_setRow w g j cur ty (0, 0) x hg, setRow_heap w g _ _ _ _ hg]
    · simp only [Array.toList_setIfInBounds]
      rw [List.take_set, ht]
theorem OwnS.modNew {base : Nat} (h : OwnS sz ty w v n xs bo) (hb : bo = none ∨ ∃ g, bo = some g ∧ base ≤ g) (hm : Mod (fun k => bo = some k) w w') (hs : base ≤ w.heap.size) : Below base w w' :=
  ⟨hm.os, hm.tape, hm.output, hm.size, fun j hj => hm.same j (by omega) fun e => by
    rcases hb with e2 | ⟨g, e2, h⟩
    · rw [e2] at e; cases e
    · rw [e2] at e; cases e; omega⟩
end
section
variable {P : Program}
theorem run_append_s (w : World) (t ty e : TypeId) (i : TypeInfo) (z : Value) (sz bytes : Nat) (ht : P.underlying t = some (.slice e)) (hi : P.info? e = some i) (hz : i.zero = some z)
    (hsize : i.size = sz) (hby : i.bytes = bytes) (hzs : z.cells.size = sz) (hsz : 0 < sz)
    (v : Value) (n : Nat) (xs : List Value) (bo : Option Nat) (hown : OwnS sz e w v n xs bo)
    (a : Addr) (m c : Nat) (news : List Value) (hl : news.length = m * sz) (hnews : ∀ j u, news[j]? = some u → w.cell? (a.add j) = some u) (h1 : ∀ u ∈ news, u.oneCell' = true)
    (h63 : n + m ≤ maxLen) (hbytes : (n + m) * bytes ≤ 140737488355328) :
    ∃ v' w' bo', (Builtin.append_ #[t, t] ty #[v, .slice (some a) m c]).run P w = .ok v' w' ∧ OwnS sz e w' v' (n + m) (xs ++ news) bo' ∧ Mod (fun k => bo = some k) w w' ∧ NewOr w bo bo' := by
  have hadd : (n + m) * sz = n * sz + m * sz := Nat.add_mul _ _ _
  have fresh : ∀ v' w', w'.ownsRow w.heap.size e sz v' (n + m) (xs ++ news) → xs.length = n * sz → ∃ bo', OwnS sz e w' v' (n + m) (xs ++ news) bo' ∧ (bo' = none ∨ ∃ g, bo' = some g ∧ w.heap.size ≤ g) := by
    intro v' w' ho hxl
    have hlen : (xs ++ news).length = (n + m) * sz := by rw [List.length_append, hxl, hl, hadd]
    rcases ho.2 with ⟨rfl, h0⟩ | ⟨g, cap, cur, rfl, hb, hg, h2, h3, h4, h5⟩
    · rw [h0] at hlen
      simp only [Nat.zero_mul] at hlen
      exact ⟨none, Or.inl ⟨rfl, h0, List.eq_nil_of_length_eq_zero hlen, rfl⟩, Or.inl rfl⟩
    · exact ⟨some g, Or.inr ⟨g, cap, cur, rfl, rfl, hg, h2, h3, h4, h5, hlen⟩, Or.inr ⟨g, rfl, hb⟩⟩
  rcases hown with ⟨rfl, rfl, rfl, rfl⟩ | ⟨g, cap, cur, rfl, rfl, hg, hnc, hcm, hcs, htake, hxl⟩
  · obtain ⟨v', w', hr, h2, h3, _⟩ := run_append_own (P := P) w w.heap.size t ty e i z sz bytes ht hi hz hsize hby hzs hsz (.slice none 0 0) 0 [] (World.ownsRow_nil w _ e sz) a m c news hl hnews h1 h63 hbytes (Nat.le_refl _)
    obtain ⟨bo', ho, hn⟩ := fresh v' w' (by simpa using h2) (by simp)
    refine ⟨v', w', bo', hr, by simpa using ho, ⟨h3.os, h3.tape, h3.output, h3.size, fun k hk _ => h3.block k hk (by simp [Value.ownBlock])⟩, ?_⟩
    rcases hn with rfl | h
    · exact Or.inl rfl
    · exact Or.inr h
  · by_cases hroom : n + m ≤ cap
    · have hcs2 : cap * sz = n * sz + (cap - n) * sz := by rw [← Nat.add_mul, Nat.add_sub_cancel' hnc]
      have hm2 : m * sz ≤ (cap - n) * sz := Nat.mul_le_mul_right _ (by omega)
      have hr := run_append_room (P := P) w t ty e i ht hi g n cap cur hg a m c news (by rw [hsize]; exact hl) hnews h1 hroom (by rw [hsize]; omega)
      refine ⟨_, _, some g, hr, Or.inr ⟨g, cap, _, rfl, rfl, setRow_heap w g cur _ e _ hg, hroom, hcm, ?_, ?_, by rw [List.length_append, hxl, hl, hadd]⟩, (Mod.refl _ w).setRow g _ (fun _ => rfl), Or.inl rfl⟩
      · simp [hsize]; omega
      · simp only [hsize]
        have hlen : (cur.toList.take (n * sz) ++ news).length = (n + m) * sz := by rw [htake, List.length_append, hxl, hl, hadd]
        rw [htake] at hlen ⊢
        rw [← hlen]
        exact List.take_left
    · have holds : ∀ j u, xs[j]? = some u → w.cell? ((⟨g, 0, none⟩ : Addr).add j) = some u := by
        intro j u hj
        have hjl : j < n * sz := by
          by_cases h : j < n * sz
          · exact h
          · rw [List.getElem?_eq_none (by omega)] at hj; simp at hj
        rw [add0, cell_of_row w g j cur _ (0, 0) hg, ← hj, ← take_get htake hjl]
        simp
      obtain ⟨v', w', hr, h2, h3⟩ := run_append_arg_grows (P := P) w t ty e i z sz bytes ht hi hz hsize hby hzs hsz ⟨g, 0, none⟩ n cap xs hxl holds a m c news hl hnews (by omega) h63 hbytes
      obtain ⟨bo', ho, hn⟩ := fresh v' w' h2 hxl
      refine ⟨v', w', bo', hr, ho, ⟨h3.os, h3.tape, h3.output, h3.size, fun k hk _ => h3.block k hk (by simp)⟩, ?_⟩
      rcases hn with rfl | h
      · rcases ho with ⟨_, h0, _⟩ | ⟨_, _, _, h0, _⟩
        · omega
        · simp at h0
      · exact Or.inr h
theorem wpList_append_s {w : World} {ops : Array Oper} {rest : List Oper} {o : Oper} {a : Act} {Q : Exit → Act → World → Prop} (hgd : o.guard = none) (s x : Operand) (t : TypeId)
    (ho : o.op = .call { callee := .builtin .append, args := #[s, x], argTypes := #[t, t] }) (e : TypeId) (z : Value) (sz bytes : Nat) (ht : P.underlying t = some (.slice e)) (hinfo : (P.info? e).map (fun i => (i.zero, i.size, i.bytes)) = some (some z, sz, bytes)) (hzs : z.cells.size = sz) (hsz : 0 < sz)
    (v : Value) (hs : a.eval s = v) (n : Nat) (xs : List Value) (bo : Option Nat) (hown : OwnS sz e w v n xs bo)
    (ad : Addr) (m c : Nat) (news : List Value) (hx : a.eval x = .slice (some ad) m c) (hl : news.length = m * sz) (hnews : ∀ j u, news[j]? = some u → w.cell? (ad.add j) = some u) (h1 : ∀ u ∈ news, u.oneCell' = true)
    (h63 : n + m ≤ maxLen) (hbytes : (n + m) * bytes ≤ 140737488355328)
    (h : ∀ v' w' bo', Hid (OwnS sz e w' v' (n + m) (xs ++ news) bo') → Hid (Mod (fun k => bo = some k) w w') → Hid (NewOr w bo bo') → wpList P ops Q rest (a.put o.dst v') w') : wpList P ops Q (o :: rest) a w := by
  obtain ⟨i, hi, hz, hsize, hby⟩ := info_parts hinfo
  refine wpList_plain hgd fun K hK => ?_
  obtain ⟨v', w', bo', hr, h2, h3, h4⟩ := run_append_s (P := P) w t o.type e i z sz bytes ht hi hz hsize hby hzs hsz v n xs bo hown ad m c news hl hnews h1 h63 hbytes
  unfold Oper.wp execOp
  simp only [ho, resolve, invoke, builtin, Sem.run_bind, Sem.run_pure, Result.andThen_ok, List.map_toArray, List.map_cons, List.map_nil, hs, hx, hr]
  exact hK _ _ (h v' w' bo' h2 h3 h4)
theorem step_append_s {w : World} {ops : Array Oper} {o : Oper} {a : Act} {K : Act → World → Prop} {Q : Exit → Act → World → Prop} {E : Prop} (hgd : o.guard = none) (s x : Operand) (t : TypeId)
    (ho : o.op = .call { callee := .builtin .append, args := #[s, x], argTypes := #[t, t] }) (e : TypeId) (z : Value) (sz bytes : Nat) (ht : P.underlying t = some (.slice e)) (hinfo : (P.info? e).map (fun i => (i.zero, i.size, i.bytes)) = some (some z, sz, bytes)) (hzs : z.cells.size = sz) (hsz : 0 < sz)
    (v : Value) (hs : a.eval s = v) (n : Nat) (xs : List Value) (bo : Option Nat) (hown : OwnS sz e w v n xs bo)
    (ad : Addr) (m c : Nat) (news : List Value) (hx : a.eval x = .slice (some ad) m c) (hl : news.length = m * sz) (hnews : ∀ j u, news[j]? = some u → w.cell? (ad.add j) = some u) (h1 : ∀ u ∈ news, u.oneCell' = true)
    (h63 : n + m ≤ maxLen) (hbytes : (n + m) * bytes ≤ 140737488355328)
    (h : ∀ v' w' bo', Hid (OwnS sz e w' v' (n + m) (xs ++ news) bo') → Hid (Mod (fun k => bo = some k) w w') → Hid (NewOr w bo bo') → K (a.put o.dst v') w') :
    if Region.wanted o (yielded ops a.tmps) = true then Oper.wp P o a w K Q else E := by
  have hw : Region.wanted o (yielded ops a.tmps) = true := by simp [Region.wanted, hgd]
  rw [if_pos hw]
  obtain ⟨i, hi, hz, hsize, hby⟩ := info_parts hinfo
  obtain ⟨v', w', bo', hr, h2, h3, h4⟩ := run_append_s (P := P) w t o.type e i z sz bytes ht hi hz hsize hby hzs hsz v n xs bo hown ad m c news hl hnews h1 h63 hbytes
  unfold Oper.wp execOp
  simp only [ho, resolve, invoke, builtin, Sem.run_bind, Sem.run_pure, Result.andThen_ok, List.map_toArray, List.map_cons, List.map_nil, hs, hx, hr]
  exact h v' w' bo' h2 h3 h4
end
/-! Pairs in such a slice. -/
abbrev EL := List (Value × Int)
def flat (es : EL) : List Value := es.flatMap fun e => [e.1, .int .u64 e.2]
@[simp] theorem flat_len (es : EL) : (flat es).length = es.length * 2 := by
  induction es with
  | nil => rfl
  | cons e es ih => simp only [flat, List.flatMap_cons, List.length_append] at ih ⊢; rw [ih]; simp; omega
theorem flat_append (es fs : EL) : flat (es ++ fs) = flat es ++ flat fs := by simp [flat]
theorem flat_get (es : EL) (i : Nat) (h : i < es.length) : (flat es)[i * 2]? = some (es[i]).1 ∧ (flat es)[i * 2 + 1]? = some (.int .u64 (es[i]).2) := by
  induction es generalizing i with
  | nil => simp at h
  | cons e es ih =>
    cases i with
    | zero => exact ⟨rfl, rfl⟩
    | succ i =>
      have := ih i (by simpa using h)
      have e1 : flat (e :: es) = e.1 :: .int .u64 e.2 :: flat es := rfl
      rw [e1, show (i + 1) * 2 = i * 2 + 1 + 1 by omega]
      simpa using this
theorem flat_set (es : EL) (i : Nat) (x : Value × Int) : flat (es.set i x) = ((flat es).set (i * 2) x.1).set (i * 2 + 1) (.int .u64 x.2) := by
  induction es generalizing i with
  | nil => simp [flat]
  | cons e es ih =>
    cases i with
    | zero => rfl
    | succ i =>
      have e1 : ∀ e es, flat (e :: es) = e.1 :: .int .u64 e.2 :: flat es := fun _ _ => rfl
      rw [List.set_cons_succ, e1, ih, e1, show (i + 1) * 2 = i * 2 + 1 + 1 by omega]
      simp
def EntOk (w : World) (e : Value × Int) (p : List Nat × Int) : Prop := (∃ a n c, e.1 = .slice a n c ∧ Sl w a n c p.1) ∧ e.2 = p.2 ∧ 0 ≤ p.2 ∧ p.2 < 18446744073709551616
theorem EntOk.below {w w' : World} {e : Value × Int} {p : List Nat × Int} (h : EntOk w e p) (hb : Below w.heap.size w w') : EntOk w' e p := by
  obtain ⟨⟨a, n, c, h1, h2⟩, h3⟩ := h; exact ⟨⟨a, n, c, h1, h2.below hb⟩, h3⟩
/-- what stands there is those pairs -/
def Ents (w : World) (es : EL) (l : PL) : Prop := es.length = l.length ∧ ∀ i (h : i < es.length) (h' : i < l.length), EntOk w es[i] l[i]
theorem Ents.below {w w' : World} {es : EL} {l : PL} (h : Ents w es l) (hb : Below w.heap.size w w') : Ents w' es l := ⟨h.1, fun i h1 h2 => (h.2 i h1 h2).below hb⟩
theorem ents_nil (w : World) : Ents w [] [] := ⟨rfl, fun i h => by simp at h⟩
theorem Ents.snoc {w : World} {es : EL} {l : PL} (h : Ents w es l) {e : Value × Int} {p : List Nat × Int} (hp : EntOk w e p) : Ents w (es ++ [e]) (l ++ [p]) := by
  refine ⟨by simp [h.1], fun i h1 h2 => ?_⟩
  by_cases hi : i < es.length
  · rw [List.getElem_append_left hi, List.getElem_append_left (by rw [← h.1]; exact hi)]
    exact h.2 i hi _
  · have e1 : i = es.length := by simp at h1; omega
    subst e1
    have e2 : (l ++ [p])[es.length] = p := by
      rw [List.getElem_append_right (by rw [h.1]; exact Nat.le_refl _)]
      simp [h.1]
    rw [e2]
    simpa using hp
theorem Ents.set {w : World} {es : EL} {l : PL} (h : Ents w es l) (i : Nat) {e : Value × Int} {p : List Nat × Int} (hp : EntOk w e p) : Ents w (es.set i e) (l.set i p) := by
  refine ⟨by simp [h.1], fun j h1 h2 => ?_⟩
  rw [List.getElem_set, List.getElem_set]
  split
  · exact hp
  · exact h.2 j (by simpa using h1) (by simpa using h2)
theorem Ents.at_ {w : World} {es : EL} {l : PL} (h : Ents w es l) {i : Nat} (hi : i < l.length) : ∃ h', EntOk w (es[i]'h') l[i] := ⟨by rw [h.1]; exact hi, h.2 i _ hi⟩
/-- such a slice is a slice of pairs -/
theorem prs_of_own {ty : Nat} {w : World} {v : Value} {n : Nat} {es : EL} {bo : Option Nat} {l : PL} (h : OwnS 2 ty w v n (flat es) bo) (he : Ents w es l) : ∃ a c, v = .slice a n c ∧ Prs w a n c l := by
  obtain ⟨a, c, rfl, h1, h2, h3⟩ := h.len
  have hn : es.length = n := by
    rcases h with ⟨_, rfl, h, _⟩ | ⟨_, _, _, _, _, _, _, _, _, _, h⟩
    · have := congrArg List.length h; rw [flat_len, List.length_nil] at this; omega
    · rw [flat_len] at h; omega
  refine ⟨a, c, rfl, by rw [← he.1, hn], h1, h2, h3, fun x hx => ?_, fun i hi => ?_⟩
  · obtain ⟨i, hi, rfl⟩ := List.getElem_of_mem hx
    obtain ⟨h', q⟩ := he.at_ hi
    exact q.2.2
  · obtain ⟨h', ⟨⟨a3, n3, c3, q1, q2⟩, q3, _⟩⟩ := he.at_ hi
    obtain ⟨g, cap, rfl, e1, q4, _⟩ := h.at_ (j := i * 2) (by omega)
    obtain ⟨g2, cap2, e2, _, q5, _⟩ := h.at_ (j := i * 2 + 1) (by omega)
    obtain rfl : g = g2 := by simpa using e2
    obtain ⟨f1, f2⟩ := flat_get es i h'
    rw [f1, q1] at q4
    rw [f2, q3] at q5
    have ea : a = some ⟨g, 0, none⟩ := by injection e1
    refine ⟨⟨g, 0, none⟩, ea, ?_, a3, n3, c3, ?_, ?_, ?_⟩
    · rw [add_block]; exact h.lt
    · rw [add0]; exact q4
    · rw [add0, getD_of_lt hi]; exact q5
    · rw [getD_of_lt hi]; exact q2
end Go.Proofs.YtfhdiimcimafkaaGreatDoor
/- The law's tree: the document's pairs made the program's, and built. -/
namespace Go.Proofs.YtfhdiimcimafkaaGreatDoor
open Go.RowKit
abbrev apT : Nat := 74
abbrev kpT : Nat := 73
theorem apInfo : (Tryz.prog.info? apT).map (fun i => (i.zero, i.size, i.bytes)) = some (some (.agg #[.slice none 0 0, .int .u64 0]), 2, 32) := by kernel_rfl
theorem kpInfo : (Tryz.prog.info? kpT).map (fun i => (i.zero, i.size, i.bytes)) = some (some (.agg #[.slice none 0 0, .int .u64 0]), 2, 32) := by kernel_rfl
/-- a pair that was just laid -/
theorem pair_news (w : World) (x : Value) (y : Int) (t : TypeId) : ∀ j u, ([x, .int .u64 y] : List Value)[j]? = some u → (w.alloc (.cells #[x, .int .u64 y] t)).cell? ((⟨w.heap.size, 0, none⟩ : Addr).add j) = some u := fun j u h => by
  have hb : (w.alloc (.cells #[x, .int .u64 y] t)).heap[w.heap.size]? = some (.cells [x, .int .u64 y].toArray t (0, 0)) := heap_alloc_new w _
  rw [add0, cell_of_blk hb]
  exact h
theorem oneP {a : Option Addr} {n c : Nat} {y : Int} : ∀ u ∈ ([.slice a n c, .int .u64 y] : List Value), u.oneCell' = true := by
  intro u hu
  simp only [List.mem_cons, List.not_mem_nil, or_false] at hu
  rcases hu with rfl | rfl <;> rfl
theorem NewOr.since {w w2 : World} {bo bo1 : Option Nat} (hn : NewOr w2 bo bo1) (hbo : bo = none ∨ ∃ g, bo = some g ∧ w.heap.size ≤ g) (hs : w.heap.size ≤ w2.heap.size) : bo1 = none ∨ ∃ g, bo1 = some g ∧ w.heap.size ≤ g := by
  rcases hn with e | ⟨g, e, hg⟩
  · rw [e]; exact hbo
  · exact Or.inr ⟨g, e, by omega⟩
theorem Mod.sinceOf {w w2 w1 : World} {bo : Option Nat} (hm : Mod (fun k => bo = some k) w2 w1) (hbo : bo = none ∨ ∃ g, bo = some g ∧ w.heap.size ≤ g) (hs : w.heap.size ≤ w2.heap.size) : Below w.heap.size w2 w1 := ⟨hm.os, hm.tape, hm.output, hm.size, fun j hj => hm.same j (by omega) fun e => by
    rcases hbo with e2 | ⟨g, e2, hg⟩
    · rw [e2] at e; cases e
    · rw [e2] at e; cases e; omega⟩
/-- pairs that were laid since w; their keys are of w -/
def PLs (ty : Nat) (w : World) (v : Value) (l : PL) (wr : World) : Prop := ∃ es bo, OwnS 2 ty wr v l.length (flat es) bo ∧ Ents w es l ∧ (bo = none ∨ ∃ g, bo = some g ∧ w.heap.size ≤ g) ∧ Below w.heap.size w wr
theorem PLs.nil (ty : Nat) (w : World) : PLs ty w (.slice none 0 0) [] w := ⟨[], none, OwnS.nil _ _ _, ents_nil w, Or.inl rfl, Below.refl _ _⟩
theorem PLs.below {ty : Nat} {w wr w' : World} {v : Value} {l : PL} (h : PLs ty w v l wr) (hb : Below wr.heap.size wr w') : PLs ty w v l w' := by
  obtain ⟨es, bo, h1, h2, h3, h4⟩ := h
  exact ⟨es, bo, h1.below hb, h2, h3, h4.trans (hb.mono h4.size)⟩
theorem PLs.below_ {ty : Nat} {w wr : World} {v : Value} {l : PL} (h : PLs ty w v l wr) : Below w.heap.size w wr := by
  obtain ⟨_, _, _, _, _, h⟩ := h; exact h
theorem PLs.prs {ty : Nat} {w wr : World} {v : Value} {l : PL} (h : PLs ty w v l wr) : ∃ a c, v = .slice a l.length c ∧ Prs wr a l.length c l := by
  obtain ⟨es, bo, h1, h2, h3, h4⟩ := h
  exact prs_of_own h1 (h2.below h4)
/-- what append is asked for, and what it gives -/
theorem PLs.ask {ty : Nat} {w wr : World} {v : Value} {l : PL} (h : PLs ty w v l wr) {a3 : Option Addr} {n3 c3 : Nat} {x : List Nat} {y : Int} (hs : Sl w a3 n3 c3 x) (hv : 0 ≤ y ∧ y < 18446744073709551616) (t2 : TypeId) (w0 : World) (h0 : Below wr.heap.size wr w0) :
    ∃ es bo, OwnS 2 ty w0 v l.length (flat es) bo ∧ ∀ v1 w1 bo1, OwnS 2 ty w1 v1 (l.length + 1) (flat es ++ [.slice a3 n3 c3, .int .u64 y]) bo1 → Mod (fun k => bo = some k) w0 w1 → NewOr w0 bo bo1 → PLs ty w v1 (l ++ [(x, y)]) w1 := by
  obtain ⟨es, bo, h1, h2, h3, h4⟩ := h.below h0
  refine ⟨es, bo, h1, fun v1 w1 bo1 q1 q2 q3 => ⟨es ++ [(.slice a3 n3 c3, y)], bo1, ?_, h2.snoc ⟨⟨_, _, _, rfl, hs⟩, rfl, hv⟩, q3.since h3 h4.size, h4.trans (q2.sinceOf h3 h4.size)⟩⟩
  rw [flat_append, List.length_append]
  exact q1
end Go.Proofs.YtfhdiimcimafkaaGreatDoor
