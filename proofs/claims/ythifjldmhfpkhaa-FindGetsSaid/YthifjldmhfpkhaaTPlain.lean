/- Plain trees: pairs that rise, trees of parts; what is looked for in a tree is what its pairs have. No program. -/
import Derived.Test.YthifjldmhfpkhaaKSame
set_option linter.unusedVariables false
set_option linter.unusedSimpArgs false
namespace Go.Proofs.Ythifjldmhfpkhaa
/-! The order of bytes. -/
theorem bcmp_nn : bcmp [] [] = 0 := rfl
theorem bcmp_nc (y : Nat) (ys : List Nat) : bcmp [] (y :: ys) = -1 := by simp [bcmp, lcp]
theorem bcmp_cn (x : Nat) (xs : List Nat) : bcmp (x :: xs) [] = 1 := by simp [bcmp, lcp]
theorem bcmp_same (x : Nat) (xs ys : List Nat) : bcmp (x :: xs) (x :: ys) = bcmp xs ys := by
  simp [bcmp, lcp]
theorem bcmp_lt {x y : Nat} (h : x < y) (xs ys : List Nat) : bcmp (x :: xs) (y :: ys) = -1 := by
  have : x ≠ y := by omega
  simp [bcmp, lcp, this, h]
theorem bcmp_gt {x y : Nat} (h : y < x) (xs ys : List Nat) : bcmp (x :: xs) (y :: ys) = 1 := by
  have h1 : x ≠ y := by omega
  have h2 : ¬ x < y := by omega
  simp [bcmp, lcp, h1, h2]
theorem bcmp_pre (p xs ys : List Nat) : bcmp (p ++ xs) (p ++ ys) = bcmp xs ys := by
  induction p with
  | nil => rfl
  | cons x p ih => simp only [List.cons_append, bcmp_same, ih]
/-- stands ahead -/
def slt (s t : List Nat) : Prop := bcmp s t = -1
theorem slt_nc (y : Nat) (ys : List Nat) : slt [] (y :: ys) := bcmp_nc y ys
theorem not_slt_nil (s : List Nat) : ¬ slt s [] := by
  cases s with
  | nil => simp [slt, bcmp_nn]
  | cons x s => simp [slt, bcmp_cn]
theorem slt_cons (x : Nat) (s t : List Nat) : slt (x :: s) (x :: t) ↔ slt s t := by simp [slt, bcmp_same]
theorem slt_pre (p s t : List Nat) : slt (p ++ s) (p ++ t) ↔ slt s t := by simp [slt, bcmp_pre]
theorem slt_lt {x y : Nat} (h : x < y) (s t : List Nat) : slt (x :: s) (y :: t) := bcmp_lt h s t
theorem slt_cc {x y : Nat} {s t : List Nat} : slt (x :: s) (y :: t) ↔ x < y ∨ x = y ∧ slt s t := by
  rcases Nat.lt_trichotomy x y with h | h | h
  · simp [slt_lt h, h]
  · subst h; simp [slt_cons]
  · have h1 : ¬ x < y := by omega
    have h2 : x ≠ y := by omega
    simp [slt, bcmp_gt h, h1, h2]
theorem slt_irrefl (s : List Nat) : ¬ slt s s := by
  have := (bcmp_zero s s).2 rfl
  simp [slt, this]
theorem slt_trans : ∀ {s t u : List Nat}, slt s t → slt t u → slt s u
  | [], _, [], _, h => absurd h (not_slt_nil _)
  | [], _, _ :: _, _, _ => slt_nc _ _
  | _ :: _, [], _, h, _ => absurd h (not_slt_nil _)
  | _ :: _, _ :: _, [], _, h => absurd h (not_slt_nil _)
  | x :: s, y :: t, z :: u, h1, h2 => by
    rw [slt_cc] at h1 h2 ⊢
    rcases h1 with h1 | ⟨rfl, h1⟩
    · rcases h2 with h2 | ⟨rfl, h2⟩
      · exact Or.inl (by omega)
      · exact Or.inl h1
    · rcases h2 with h2 | ⟨rfl, h2⟩
      · exact Or.inl h2
      · exact Or.inr ⟨rfl, slt_trans h1 h2⟩
theorem slt_tri : ∀ (s t : List Nat), slt s t ∨ s = t ∨ slt t s
  | [], [] => Or.inr (Or.inl rfl)
  | [], _ :: _ => Or.inl (slt_nc _ _)
  | _ :: _, [] => Or.inr (Or.inr (slt_nc _ _))
  | x :: s, y :: t => by
    simp only [slt_cc, List.cons.injEq]
    rcases Nat.lt_trichotomy x y with h | rfl | h
    · exact Or.inl (Or.inl h)
    · rcases slt_tri s t with h | rfl | h
      · exact Or.inl (Or.inr ⟨rfl, h⟩)
      · exact Or.inr (Or.inl ⟨rfl, rfl⟩)
      · exact Or.inr (Or.inr (Or.inr ⟨rfl, h⟩))
    · exact Or.inr (Or.inr (Or.inl h))
theorem bcmp_three (s t : List Nat) : (slt s t ∧ bcmp s t = -1) ∨ (s = t ∧ bcmp s t = 0) ∨ (slt t s ∧ bcmp s t = 1) := by
  have key : ∀ s t : List Nat, slt t s → bcmp s t = 1 := by
    intro s t h
    induction s generalizing t with
    | nil => exact absurd h (not_slt_nil _)
    | cons x s ih =>
      cases t with
      | nil => exact bcmp_cn _ _
      | cons y t =>
        rcases slt_cc.1 h with h2 | ⟨e, h2⟩
        · exact bcmp_gt h2 _ _
        · subst e; rw [bcmp_same]; exact ih t h2
  rcases slt_tri s t with h | h | h
  · exact Or.inl ⟨h, h⟩
  · exact Or.inr (Or.inl ⟨h, (bcmp_zero _ _).2 h⟩)
  · exact Or.inr (Or.inr ⟨h, key s t h⟩)
theorem lcp_pre (p s t : List Nat) : lcp (p ++ s) (p ++ t) = p.length + lcp s t := by
  induction p with
  | nil => simp
  | cons x p ih => simp [lcp, ih]; omega
theorem lcp_isPrefix (k p : List Nat) : (lcp k p = p.length) ↔ p <+: k := by
  induction p generalizing k with
  | nil => cases k <;> simp [lcp]
  | cons x p ih =>
    cases k with
    | nil => simp [lcp]
    | cons y k =>
      unfold lcp
      by_cases e : y = x
      · subst e; simp [ih, List.cons_prefix_cons]
      · have e' : ¬ x = y := fun h => e h.symm
        simp [e, e', List.cons_prefix_cons]
/-- both begin with the first lcp bytes -/
theorem lcp_take (s t : List Nat) : s.take (lcp s t) = t.take (lcp s t) := by
  induction s generalizing t with
  | nil => simp [lcp]
  | cons x s ih =>
    cases t with
    | nil => simp [lcp]
    | cons y t =>
      unfold lcp
      split
      · rename_i h; subst h; simp [ih]
      · simp
/-! Pairs. -/
abbrev PL := List (List Nat × Int)
def PSrt (l : PL) : Prop := (l.map (·.1)).Pairwise slt
def plook (l : PL) (k : List Nat) : Option Int := (l.find? (fun p => p.1 == k)).map (·.2)
/-- bytes put ahead of every key -/
def pre (p : List Nat) (l : PL) : PL := l.map fun x => (p ++ x.1, x.2)
@[simp] theorem pre_nil (p : List Nat) : pre p [] = [] := rfl
theorem pre_append (p : List Nat) (l m : PL) : pre p (l ++ m) = pre p l ++ pre p m := by simp [pre]
theorem pre_pre (p q : List Nat) (l : PL) : pre p (pre q l) = pre (p ++ q) l := by simp [pre, Function.comp_def]
@[simp] theorem pre_none (l : PL) : pre [] l = l := by simp [pre]
@[simp] theorem pre_length (p : List Nat) (l : PL) : (pre p l).length = l.length := by simp [pre]
theorem plook_append (l m : PL) (k : List Nat) : plook (l ++ m) k = (plook l k).or (plook m k) := by
  unfold plook
  rw [List.find?_append]
  cases List.find? (fun p => p.1 == k) l <;> simp
theorem plook_none {l : PL} {k : List Nat} (h : ∀ p ∈ l, p.1 ≠ k) : plook l k = none := by
  unfold plook
  have : l.find? (fun p => p.1 == k) = none := by
    rw [List.find?_eq_none]
    intro p hp
    simpa using h p hp
  rw [this]; rfl
theorem plook_pre (p : List Nat) (l : PL) (k : List Nat) : plook (pre p l) k = if p <+: k then plook l (k.drop p.length) else none := by
  split
  · rename_i h
    obtain ⟨r, rfl⟩ := h
    unfold plook pre
    rw [List.find?_map]
    have : ((fun x : List Nat × Int => x.1 == p ++ r) ∘ fun x : List Nat × Int => (p ++ x.1, x.2)) = fun x => x.1 == r := by
      funext x
      rw [Bool.eq_iff_iff]
      simp
    simp [this, Function.comp_def]
  · rename_i h
    refine plook_none fun x hx => ?_
    obtain ⟨y, hy, rfl⟩ := List.mem_map.1 hx
    rintro rfl
    exact h ⟨_, rfl⟩
theorem psrt_pre {p : List Nat} {l : PL} : PSrt (pre p l) ↔ PSrt l := by
  unfold PSrt pre
  rw [List.map_map, List.pairwise_map, List.pairwise_map]
  simp only [Function.comp_def, slt_pre]
theorem psrt_append {l m : PL} : PSrt (l ++ m) ↔ PSrt l ∧ PSrt m ∧ ∀ a ∈ l, ∀ b ∈ m, slt a.1 b.1 := by
  unfold PSrt
  rw [List.map_append, List.pairwise_append]
  simp only [List.mem_map, forall_exists_index, and_imp, forall_apply_eq_imp_iff₂]
/-! Trees: the kids of a node hang behind it in a row. -/
inductive Tr where
  | nil : Tr
  | kid (b : Nat) (t r : Tr) : Tr
  | node (bs : List Nat) (val : Int) (has leaf : Bool) (ks : Tr) : Tr
def IsN : Tr → Prop
  | .node .. => True
  | _ => False
def IsK : Tr → Prop
  | .node .. => False
  | _ => True
/-- a row of kids begins behind a byte -/
def From (b : Nat) : Tr → Prop
  | .kid c _ _ => b < c
  | _ => True
def TOk : Tr → Prop
  | .nil => True
  | .kid b t r => b < 256 ∧ IsN t ∧ TOk t ∧ IsK r ∧ TOk r ∧ From b r
  | .node bs v has leaf ks => (∀ x ∈ bs, x < 256) ∧ 0 ≤ v ∧ v < 18446744073709551616 ∧ (has = false → v = 0) ∧ (leaf = true → has = true ∧ ks = .nil) ∧ IsK ks ∧ TOk ks
def tl : Tr → PL
  | .nil => []
  | .kid b t r => pre [b] (tl t) ++ tl r
  | .node bs v has _ ks => (if has then [(bs, v)] else []) ++ pre bs (tl ks)
def tget : Tr → List Nat → Option Int
  | .nil, _ => none
  | .kid b t r, k => match k with
    | [] => none
    | c :: k' => if b = c then tget t k' else tget r k
  | .node bs v has _ ks, k => if bs <+: k then (if k.drop bs.length = [] then (if has then some v else none) else tget ks (k.drop bs.length)) else none
theorem tl_from : ∀ (r : Tr) (b : Nat), IsK r → TOk r → From b r → ∀ p ∈ tl r, ∃ c s, p.1 = c :: s ∧ b < c
  | .nil, _, _, _, _, p, hp => by simp [tl] at hp
  | .node .., _, h, _, _, _, _ => h.elim
  | .kid c t r, b, _, ⟨_, _, _, h4, h5, h6⟩, hb, p, hp => by
    have hb : b < c := hb
    rcases List.mem_append.1 hp with hp | hp
    · obtain ⟨q, hq, rfl⟩ := List.mem_map.1 hp
      exact ⟨c, q.1, rfl, hb⟩
    · obtain ⟨d, s, h1, h2⟩ := tl_from r c h4 h5 h6 p hp
      exact ⟨d, s, h1, by omega⟩
theorem tl_heads : ∀ (r : Tr), IsK r → TOk r → ∀ p ∈ tl r, ∃ c s, p.1 = c :: s ∧ c < 256
  | .nil, _, _, p, hp => by simp [tl] at hp
  | .node .., h, _, _, _ => h.elim
  | .kid c t r, _, ⟨h1, _, _, h4, h5, h6⟩, p, hp => by
    rcases List.mem_append.1 hp with hp | hp
    · obtain ⟨q, hq, rfl⟩ := List.mem_map.1 hp
      exact ⟨c, q.1, rfl, h1⟩
    · exact tl_heads r h4 h5 p hp
theorem tget_look : ∀ (t : Tr) (k : List Nat), TOk t → tget t k = plook (tl t) k
  | .nil, k, _ => rfl
  | .kid b t r, k, ⟨h1, h2, h3, h4, h5, h6⟩ => by
    have hf := tl_from r b h4 h5 h6
    unfold tget tl
    rw [plook_append, plook_pre]
    cases k with
    | nil =>
      have : plook (tl r) [] = none := plook_none fun p hp => by
        obtain ⟨c, s, e, _⟩ := hf p hp
        rw [e]; simp
      simp [this]
    | cons c k =>
      by_cases e : b = c
      · subst e
        have : plook (tl r) (b :: k) = none := plook_none fun p hp => by
          obtain ⟨c, s, e, hc⟩ := hf p hp
          rw [e]
          intro q
          have := (List.cons.inj q).1
          omega
        simp [this, tget_look t k h3]
      · simp [e, tget_look r (c :: k) h5, List.cons_prefix_cons]
  | .node bs v has leaf ks, k, ⟨h1, h2, h3, h4, h5, h6, h7⟩ => by
    unfold tget tl
    rw [plook_append, plook_pre]
    by_cases e : bs <+: k
    · obtain ⟨r, rfl⟩ := e
      have hh := tl_heads ks h6 h7
      simp only [List.prefix_append, if_true, List.drop_left]
      by_cases er : r = []
      · subst er
        have : plook (tl ks) [] = none := plook_none fun p hp => by
          obtain ⟨c, s, e, _⟩ := hh p hp
          rw [e]; simp
        simp only [if_true, this]
        cases has <;> simp [plook]
      · have : plook (if has = true then [(bs, v)] else []) (bs ++ r) = none := plook_none fun p hp => by
          cases has
          · simp at hp
          · simp at hp; subst hp; simpa using er
        simp [er, this, tget_look ks r h7]
    · have : plook (if has = true then [(bs, v)] else []) k = none := plook_none fun p hp => by
        cases has
        · simp at hp
        · simp at hp; subst hp; rintro rfl; exact e (List.prefix_refl _)
      simp [e, this]
theorem tl_srt : ∀ (t : Tr), TOk t → PSrt (tl t)
  | .nil, _ => List.Pairwise.nil
  | .kid b t r, ⟨h1, h2, h3, h4, h5, h6⟩ => by
    have hf := tl_from r b h4 h5 h6
    unfold tl
    refine psrt_append.2 ⟨psrt_pre.2 (tl_srt t h3), tl_srt r h5, fun a ha c hc => ?_⟩
    obtain ⟨q, hq, rfl⟩ := List.mem_map.1 ha
    obtain ⟨d, s, e, hd⟩ := hf c hc
    rw [e]
    exact slt_lt hd _ _
  | .node bs v has leaf ks, ⟨h1, h2, h3, h4, h5, h6, h7⟩ => by
    have hh := tl_heads ks h6 h7
    unfold tl
    refine psrt_append.2 ⟨?_, psrt_pre.2 (tl_srt ks h7), fun a ha c hc => ?_⟩
    · cases has
      · exact List.Pairwise.nil
      · exact List.pairwise_singleton _ _
    · cases has
      · simp at ha
      · simp at ha
        subst ha
        obtain ⟨q, hq, rfl⟩ := List.mem_map.1 hc
        obtain ⟨d, s, e, _⟩ := hh q hq
        have := (slt_pre bs [] (d :: s)).2 (slt_nc _ _)
        rw [e]
        simpa using this
/-- rows of kids, one by one -/
def ofL : List (Nat × Tr) → Tr
  | [] => .nil
  | x :: r => .kid x.1 x.2 (ofL r)
def chain : Tr → List (Nat × Tr)
  | .kid b t r => (b, t) :: chain r
  | _ => []
@[simp] theorem chain_ofL (L : List (Nat × Tr)) : chain (ofL L) = L := by
  induction L with
  | nil => rfl
  | cons x r ih => simp [ofL, chain, ih]
theorem ofL_chain : ∀ (t : Tr), IsK t → TOk t → ofL (chain t) = t
  | .nil, _, _ => rfl
  | .kid b t r, _, ⟨_, _, _, h4, h5, _⟩ => by simp [chain, ofL, ofL_chain r h4 h5]
  | .node .., h, _ => h.elim
theorem isK_ofL (L : List (Nat × Tr)) : IsK (ofL L) := by cases L <;> trivial
theorem tl_ofL (L : List (Nat × Tr)) : tl (ofL L) = L.flatMap fun x => pre [x.1] (tl x.2) := by
  induction L with
  | nil => rfl
  | cons x r ih => simp [ofL, tl, ih]
theorem tok_ofL (L : List (Nat × Tr)) : TOk (ofL L) ↔ (∀ x ∈ L, x.1 < 256 ∧ IsN x.2 ∧ TOk x.2) ∧ (L.map (·.1)).Pairwise (· < ·) := by
  induction L with
  | nil => simp [ofL, TOk]
  | cons x r ih =>
    simp only [ofL, TOk, ih, isK_ofL, true_and, List.mem_cons, forall_eq_or_imp, List.map_cons, List.pairwise_cons]
    constructor
    · rintro ⟨h1, h2, h3, ⟨h4, h5⟩, h6⟩
      refine ⟨⟨⟨h1, h2, h3⟩, h4⟩, ?_, h5⟩
      intro c hc
      cases r with
      | nil => simp at hc
      | cons y r =>
        have h6 : x.1 < y.1 := h6
        simp only [List.map_cons, List.mem_cons] at hc
        rcases hc with rfl | hc
        · exact h6
        · exact Nat.lt_trans h6 ((List.pairwise_cons.1 h5).1 c hc)
    · rintro ⟨⟨⟨h1, h2, h3⟩, h4⟩, h5, h6⟩
      refine ⟨h1, h2, h3, ⟨h4, h6⟩, ?_⟩
      cases r with
      | nil => trivial
      | cons y r => exact h5 y.1 (by simp)
end Go.Proofs.Ythifjldmhfpkhaa
