/- The pairs beside a key, of lists and of trees. No program; A way down that grows: what stands while a pair is looked for; near.own, least, most; near.least and near.most: the first and the last pair of a tree; near.beside: the first pair of the next kid, the last one of the kid ahead; near.up and near.down where a node's part is not gone through; near.up and near.down where the key ends with the part; The document's pairs beside a key (spunyarnref17). -/
import Derived.Test.YtkonbldjmcccmaaJ6
import Derived.Test.YtkonbldjmcccmaaJ10
set_option linter.unusedVariables false
set_option linter.unusedSimpArgs false
/- The pairs beside a key, of lists and of trees. No program. -/
namespace Go.Proofs.Ytkonbldjmcccmaa
abbrev PO := Option (List Nat × Int)
def upB (s : Bool) (k x : List Nat) : Bool := if s then bcmp x k == 1 else !(bcmp x k == -1)
def dnB (s : Bool) (k x : List Nat) : Bool := if s then bcmp x k == -1 else !(bcmp x k == 1)
/-- the first pair that is not ahead of a key; strict: that is behind it -/
def upL (s : Bool) (k : List Nat) (l : PL) : PO := l.find? fun p => upB s k p.1
/-- the last pair that is not behind a key; strict: that is ahead of it -/
def dnL (s : Bool) (k : List Nat) (l : PL) : PO := l.reverse.find? fun p => dnB s k p.1
/-- bytes put ahead of a pair -/
def prO (p : List Nat) (o : PO) : PO := o.map fun x => (p ++ x.1, x.2)
@[simp] theorem prO_none (p : List Nat) : prO p none = none := rfl
@[simp] theorem prO_some (p k : List Nat) (v : Int) : prO p (some (k, v)) = some (p ++ k, v) := rfl
theorem prO_prO (p q : List Nat) (o : PO) : prO p (prO q o) = prO (p ++ q) o := by cases o <;> simp [prO]
theorem prO_nil (o : PO) : prO [] o = o := by cases o <;> simp [prO]
theorem prO_or (p : List Nat) (a b : PO) : prO p (a.or b) = (prO p a).or (prO p b) := by cases a <;> simp [prO]
theorem upL_append (s : Bool) (k : List Nat) (l m : PL) : upL s k (l ++ m) = (upL s k l).or (upL s k m) := by
  unfold upL; rw [List.find?_append]
theorem dnL_append (s : Bool) (k : List Nat) (l m : PL) : dnL s k (l ++ m) = (dnL s k m).or (dnL s k l) := by
  unfold dnL; rw [List.reverse_append, List.find?_append]
theorem upL_pre (s : Bool) (p k : List Nat) (l : PL) : upL s (p ++ k) (pre p l) = prO p (upL s k l) := by
  unfold upL pre prO
  rw [List.find?_map]
  have : ((fun x : List Nat × Int => upB s (p ++ k) x.1) ∘ fun x : List Nat × Int => (p ++ x.1, x.2)) = fun x => upB s k x.1 := by
    funext x
    simp [upB, bcmp_pre]
  rw [this]
theorem dnL_pre (s : Bool) (p k : List Nat) (l : PL) : dnL s (p ++ k) (pre p l) = prO p (dnL s k l) := by
  unfold dnL pre prO
  rw [← List.map_reverse, List.find?_map]
  have : ((fun x : List Nat × Int => dnB s (p ++ k) x.1) ∘ fun x : List Nat × Int => (p ++ x.1, x.2)) = fun x => dnB s k x.1 := by
    funext x
    simp [dnB, bcmp_pre]
  rw [this]
theorem upL_none {s : Bool} {k : List Nat} {l : PL} (h : ∀ p ∈ l, upB s k p.1 = false) : upL s k l = none := by
  unfold upL
  rw [List.find?_eq_none]
  intro p hp
  simp [h p hp]
theorem dnL_none {s : Bool} {k : List Nat} {l : PL} (h : ∀ p ∈ l, dnB s k p.1 = false) : dnL s k l = none := by
  unfold dnL
  rw [List.find?_eq_none]
  intro p hp
  simp [h p (List.mem_reverse.1 hp)]
theorem find_all {α : Type} {f : α → Bool} : ∀ {l : List α}, (∀ x ∈ l, f x = true) → l.find? f = l.head?
  | [], _ => rfl
  | x :: l, h => by simp [h x (by simp)]
theorem upL_head {s : Bool} {k : List Nat} {l : PL} (h : ∀ p ∈ l, upB s k p.1 = true) : upL s k l = l.head? := find_all h
theorem dnL_last {s : Bool} {k : List Nat} {l : PL} (h : ∀ p ∈ l, dnB s k p.1 = true) : dnL s k l = l.getLast? := by
  unfold dnL
  rw [find_all fun x hx => h x (List.mem_reverse.1 hx), List.head?_reverse]
theorem head_pre (p : List Nat) (l : PL) : (pre p l).head? = prO p l.head? := by cases l <;> rfl
theorem last_pre (p : List Nat) (l : PL) : (pre p l).getLast? = prO p l.getLast? := by
  unfold pre prO; rw [List.getLast?_map]
theorem upB_lt {s : Bool} {k x : List Nat} (h : bcmp x k = -1) : upB s k x = false := by cases s <;> simp [upB, h]
theorem upB_gt {s : Bool} {k x : List Nat} (h : bcmp x k = 1) : upB s k x = true := by cases s <;> simp [upB, h]
theorem dnB_lt {s : Bool} {k x : List Nat} (h : bcmp x k = -1) : dnB s k x = true := by cases s <;> simp [dnB, h]
theorem dnB_gt {s : Bool} {k x : List Nat} (h : bcmp x k = 1) : dnB s k x = false := by cases s <;> simp [dnB, h]
/-! A node. -/
/-- a part that a key does not go through -/
theorem cmp_part : ∀ (bs k q : List Nat), lcp bs k < bs.length → bcmp (bs ++ q) k = if lcp bs k < k.length ∧ bs.getD (lcp bs k) 0 < k.getD (lcp bs k) 0 then -1 else 1
  | [], k, q, h => by simp at h
  | x :: bs, [], q, h => by simp [lcp, bcmp_cn]
  | x :: bs, y :: k, q, h => by
    by_cases e : x = y
    · subst e
      have e1 : lcp (x :: bs) (x :: k) = lcp bs k + 1 := by simp [lcp]
      rw [e1] at h ⊢
      have := cmp_part bs k q (by simpa using h)
      rw [List.cons_append, bcmp_same, this]
      simp
    · have e1 : lcp (x :: bs) (y :: k) = 0 := by simp [lcp, e]
      rw [e1]
      by_cases hl : x < y
      · simp [bcmp_lt hl, hl]
      · have hg : y < x := by omega
        simp [bcmp_gt hg, hl]
section
variable {bs : List Nat} {v : Int} {has leaf : Bool} {ks : Tr}
theorem tl_part : ∀ p ∈ tl (.node bs v has leaf ks), ∃ q, p.1 = bs ++ q := fun p hp => by
  simp only [tl] at hp
  rcases List.mem_append.1 hp with hp | hp
  · cases has
    · simp at hp
    · simp at hp; subst hp; exact ⟨[], by simp⟩
  · obtain ⟨q, hq, rfl⟩ := List.mem_map.1 hp
    exact ⟨q.1, rfl⟩
theorem up_lt (s : Bool) {k : List Nat} (h : lcp bs k < bs.length) (h1 : lcp bs k < k.length ∧ bs.getD (lcp bs k) 0 < k.getD (lcp bs k) 0) : upL s k (tl (.node bs v has leaf ks)) = none ∧ dnL s k (tl (.node bs v has leaf ks)) = (tl (.node bs v has leaf ks)).getLast? := by
  have hc : ∀ p ∈ tl (.node bs v has leaf ks), bcmp p.1 k = -1 := fun p hp => by
    obtain ⟨q, e⟩ := tl_part p hp
    rw [e, cmp_part bs k q h, if_pos h1]
  exact ⟨upL_none fun p hp => upB_lt (hc p hp), dnL_last fun p hp => dnB_lt (hc p hp)⟩
theorem up_gt (s : Bool) {k : List Nat} (h : lcp bs k < bs.length) (h1 : ¬ (lcp bs k < k.length ∧ bs.getD (lcp bs k) 0 < k.getD (lcp bs k) 0)) : upL s k (tl (.node bs v has leaf ks)) = (tl (.node bs v has leaf ks)).head? ∧ dnL s k (tl (.node bs v has leaf ks)) = none := by
  have hc : ∀ p ∈ tl (.node bs v has leaf ks), bcmp p.1 k = 1 := fun p hp => by
    obtain ⟨q, e⟩ := tl_part p hp
    rw [e, cmp_part bs k q h, if_neg h1]
  exact ⟨upL_head fun p hp => upB_gt (hc p hp), dnL_none fun p hp => dnB_gt (hc p hp)⟩
def ownO (bs : List Nat) (v : Int) (has : Bool) : PO := if has then some (bs, v) else none
theorem up_in (s : Bool) (b : Nat) (r : List Nat) : upL s (bs ++ b :: r) (tl (.node bs v has leaf ks)) = prO bs (upL s (b :: r) (tl ks)) ∧ dnL s (bs ++ b :: r) (tl (.node bs v has leaf ks)) = (prO bs (dnL s (b :: r) (tl ks))).or (ownO bs v has) := by
  have hc : bcmp bs (bs ++ b :: r) = -1 := by
    have := bcmp_pre bs [] (b :: r)
    rw [List.append_nil] at this
    rw [this, bcmp_nc]
  simp only [tl]
  rw [upL_append, dnL_append, upL_pre, dnL_pre]
  constructor
  · have : upL s (bs ++ b :: r) (if has then [(bs, v)] else []) = none := upL_none fun p hp => by
      cases has
      · simp at hp
      · simp at hp; subst hp; exact upB_lt hc
    rw [this, Option.none_or]
  · have : dnL s (bs ++ b :: r) (if has then [(bs, v)] else []) = ownO bs v has := by
      cases has
      · rfl
      · simp [dnL, ownO, dnB_lt hc]
    rw [this]
theorem bcmp_self (s : List Nat) : bcmp s s = 0 := (bcmp_zero s s).2 rfl
theorem up_at (s : Bool) (h1 : IsK ks) (h2 : TOk ks) : upL s bs (tl (.node bs v has leaf ks)) = (if s then none else ownO bs v has).or (prO bs (tl ks).head?) ∧ dnL s bs (tl (.node bs v has leaf ks)) = if s then none else ownO bs v has := by
  have hk : ∀ p ∈ tl ks, bcmp p.1 [] = 1 := fun p hp => by
    obtain ⟨c, q, e, _⟩ := tl_heads ks h1 h2 p hp
    rw [e, bcmp_cn]
  have e1 : upL s bs (pre bs (tl ks)) = prO bs (tl ks).head? := by
    have := upL_pre s bs [] (tl ks)
    rw [List.append_nil] at this
    rw [this, upL_head fun p hp => upB_gt (hk p hp)]
  have e2 : dnL s bs (pre bs (tl ks)) = none := by
    have := dnL_pre s bs [] (tl ks)
    rw [List.append_nil] at this
    rw [this, dnL_none fun p hp => dnB_gt (hk p hp)]
    rfl
  simp only [tl]
  rw [upL_append, dnL_append, e1, e2, Option.none_or]
  constructor
  · congr 1
    cases has <;> cases s <;> simp [upL, upB, ownO, bcmp_self]
  · cases has <;> cases s <;> simp [dnL, dnB, ownO, bcmp_self]
end
/-! A row of kids. -/
def kidT : Tr → Nat → Tr
  | .kid b t r, c => if b = c then t else kidT r c
  | _, _ => .nil
def nxtT : Tr → Int → Option (Nat × Tr)
  | .kid b t r, f => if f ≤ (b : Int) then some (b, t) else nxtT r f
  | _, _ => none
def prvT : Tr → Int → Option (Nat × Tr)
  | .kid b t r, f => (prvT r f).or (if (b : Int) ≤ f then some (b, t) else none)
  | _, _ => none
def nHead : Option (Nat × Tr) → PO
  | none => none
  | some (c, t) => prO [c] (tl t).head?
def nLast : Option (Nat × Tr) → PO
  | none => none
  | some (c, t) => prO [c] (tl t).getLast?
theorem kidT_from : ∀ {r : Tr} {b c : Nat}, IsK r → TOk r → From b r → c ≤ b → kidT r c = .nil
  | .nil, _, _, _, _, _, _ => rfl
  | .node .., _, _, h, _, _, _ => h.elim
  | .kid d t r, b, c, _, ⟨_, _, _, k4, k5, k6⟩, hf, hc => by
    have hf : b < d := hf
    simp only [kidT]
    rw [if_neg (by omega)]
    exact kidT_from k4 k5 k6 (by omega)
theorem prvT_from : ∀ {r : Tr} {b : Nat} {f : Int}, IsK r → TOk r → From b r → f ≤ b → prvT r f = none
  | .nil, _, _, _, _, _, _ => rfl
  | .node .., _, _, h, _, _, _ => h.elim
  | .kid d t r, b, f, _, ⟨_, _, _, k4, k5, k6⟩, hf, hc => by
    have hf : b < d := hf
    simp only [prvT]
    rw [if_neg (by omega), prvT_from (f := f) k4 k5 k6 (by omega)]
    rfl
theorem nxt_head : ∀ {r : Tr} {f : Int}, IsK r → TOk r → Can r → (∀ b t q, r = .kid b t q → f ≤ b) → (tl r).head? = nHead (nxtT r f)
  | .nil, _, _, _, _, _ => rfl
  | .node .., _, h, _, _, _ => h.elim
  | .kid b t q, f, _, ⟨k1, k2, k3, k4, k5, k6⟩, ⟨c1, c2⟩, hf => by
    have hb := hf b t q rfl
    simp only [nxtT, if_pos hb, nHead, tl]
    have hne := tl_ne t k2 k3 c1
    cases hh : tl t with
    | nil => exact absurd hh hne
    | cons x l => simp [pre]; rfl
theorem nHead_from {r : Tr} {b : Nat} (h1 : IsK r) (h2 : TOk r) (h3 : Can r) (h4 : From b r) : (tl r).head? = nHead (nxtT r ((b : Int) + 1)) := by
  refine nxt_head h1 h2 h3 fun c t q e => ?_
  subst e
  have : b < c := h4
  omega
theorem prvT_mem : ∀ {r : Tr} {f : Int} {c : Nat} {t : Tr}, TOk r → Can r → prvT r f = some (c, t) → IsN t ∧ TOk t ∧ Can t ∧ c < 256
  | .nil, _, _, _, _, _, h => by simp [prvT] at h
  | .node .., _, _, _, _, _, h => by simp [prvT] at h
  | .kid b x r, f, c, t, ⟨k1, k2, k3, k4, k5, k6⟩, ⟨c1, c2⟩, h => by
    simp only [prvT] at h
    cases hp : prvT r f with
    | none =>
      rw [hp, Option.none_or] at h
      split at h
      · cases h; exact ⟨k2, k3, c1, k1⟩
      · cases h
    | some y =>
      rw [hp, Option.some_or] at h
      cases h
      exact prvT_mem k5 c2 hp
theorem nLast_or {r : Tr} {f : Int} {o : Option (Nat × Tr)} (h1 : TOk r) (h2 : Can r) : nLast ((prvT r f).or o) = (nLast (prvT r f)).or (nLast o) := by
  cases hp : prvT r f with
  | none => rfl
  | some y =>
    obtain ⟨c, t⟩ := y
    obtain ⟨q1, q2, q3, _⟩ := prvT_mem h1 h2 hp
    have hne := tl_ne t q1 q2 q3
    rw [Option.some_or]
    simp only [nLast]
    rw [List.getLast?_eq_some_getLast hne]
    rfl
theorem last_prv : ∀ {r : Tr}, IsK r → TOk r → Can r → (tl r).getLast? = nLast (prvT r 255)
  | .nil, _, _, _ => rfl
  | .node .., h, _, _ => h.elim
  | .kid b t r, _, ⟨k1, k2, k3, k4, k5, k6⟩, ⟨c1, c2⟩ => by
    simp only [prvT, tl]
    rw [if_pos (by omega), nLast_or k5 c2, ← last_prv k4 k5 c2, List.getLast?_append]
    simp only [nLast]
    rw [last_pre]
theorem cmp_cons_lt {c b : Nat} (h : c < b) (s t : List Nat) : bcmp (c :: s) (b :: t) = -1 := bcmp_lt h s t
theorem row_gt {r : Tr} {b : Nat} (h1 : IsK r) (h2 : TOk r) (h3 : From b r) (k : List Nat) : ∀ p ∈ tl r, bcmp p.1 (b :: k) = 1 := fun p hp => by
  obtain ⟨c, s, e, hc⟩ := tl_from r b h1 h2 h3 p hp
  rw [e]
  exact bcmp_gt hc s k
theorem up_row (s : Bool) (b : Nat) (k : List Nat) : ∀ {r : Tr}, IsK r → TOk r → Can r → upL s (b :: k) (tl r) = (prO [b] (upL s k (tl (kidT r b)))).or (nHead (nxtT r ((b : Int) + 1)))
  | .nil, _, _, _ => rfl
  | .node .., h, _, _ => h.elim
  | .kid c t r, _, ⟨k1, k2, k3, k4, k5, k6⟩, ⟨c1, c2⟩ => by
    have ih := up_row s b k k4 k5 c2
    simp only [tl, kidT, nxtT]
    rw [upL_append]
    rcases Nat.lt_trichotomy c b with h | h | h
    · rw [if_neg (by omega), if_neg (by omega), ← ih]
      have : upL s (b :: k) (pre [c] (tl t)) = none := upL_none fun p hp => by
        obtain ⟨q, hq, rfl⟩ := List.mem_map.1 hp
        exact upB_lt (bcmp_lt h _ _)
      rw [this, Option.none_or]
    · subst h
      rw [if_pos rfl, if_neg (by omega), ← nHead_from k4 k5 c2 k6, upL_head fun p hp => upB_gt (row_gt k4 k5 k6 k p hp)]
      have := upL_pre s [c] k (tl t)
      rw [List.singleton_append] at this
      rw [this]
    · have hr : From b r := by
        cases r with
        | nil => trivial
        | node => exact k4.elim
        | kid d x q => have k6 : c < d := k6; exact (by omega : b < d)
      rw [if_neg (by omega), if_pos (by omega), kidT_from k4 k5 k6 (by omega)]
      have e1 : upL s (b :: k) (pre [c] (tl t)) = prO [c] (tl t).head? := by
        rw [← head_pre]
        exact upL_head fun p hp => by
          obtain ⟨q, hq, rfl⟩ := List.mem_map.1 hp
          exact upB_gt (bcmp_gt h _ _)
      rw [e1]
      have hne := tl_ne t k2 k3 c1
      simp only [nHead]
      cases hh : tl t with
      | nil => exact absurd hh hne
      | cons x l => simp [tl, upL]; rfl
theorem dn_row (s : Bool) (b : Nat) (k : List Nat) : ∀ {r : Tr}, IsK r → TOk r → Can r → dnL s (b :: k) (tl r) = (prO [b] (dnL s k (tl (kidT r b)))).or (nLast (prvT r ((b : Int) - 1)))
  | .nil, _, _, _ => rfl
  | .node .., h, _, _ => h.elim
  | .kid c t r, _, ⟨k1, k2, k3, k4, k5, k6⟩, ⟨c1, c2⟩ => by
    have ih := dn_row s b k k4 k5 c2
    simp only [tl, kidT, prvT]
    rw [dnL_append, nLast_or k5 c2]
    rcases Nat.lt_trichotomy c b with h | h | h
    · rw [if_neg (by omega), if_pos (by omega), ih, Option.or_assoc]
      have : dnL s (b :: k) (pre [c] (tl t)) = nLast (some (c, t)) := by
        simp only [nLast]
        rw [← last_pre]
        exact dnL_last fun p hp => by
          obtain ⟨q, hq, rfl⟩ := List.mem_map.1 hp
          exact dnB_lt (bcmp_lt h _ _)
      rw [this]
    · subst h
      rw [if_pos rfl, if_neg (by omega), prvT_from k4 k5 k6 (by omega), dnL_none fun p hp => dnB_gt (row_gt k4 k5 k6 k p hp), Option.none_or]
      have := dnL_pre s [c] k (tl t)
      rw [List.singleton_append] at this
      rw [this]
      simp [nLast]
    · have hr : From b r := by
        cases r with
        | nil => trivial
        | node => exact k4.elim
        | kid d x q => have k6 : c < d := k6; exact (by omega : b < d)
      rw [if_neg (by omega), if_neg (by omega), kidT_from k4 k5 k6 (by omega), prvT_from k4 k5 k6 (by omega), dnL_none fun p hp => dnB_gt (row_gt k4 k5 hr k p hp), Option.none_or]
      rw [dnL_none (l := pre [c] (tl t)) fun p hp => by
          obtain ⟨q, hq, rfl⟩ := List.mem_map.1 hp
          exact dnB_gt (bcmp_gt h _ _)]
      rfl
end Go.Proofs.Ytkonbldjmcccmaa
/- A way down that grows: what stands while a pair is looked for. -/
namespace Go.Proofs.Ytkonbldjmcccmaa
open Go.RowKit
/-- a pair that is told; the way that came in is still there -/
def nrPost (v : Value) (k : List Nat) (bo : Option Nat) (cap : Nat) (o : PO) (X : World) (e : Ending) (X' : World) : Prop :=
  ∃ a m c, e = .returned (.tuple #[.agg #[.slice a m c, .int .u64 (o.getD ([], 0)).2], .bool o.isSome]) ∧ Sl X' a m c (o.getD ([], 0)).1 ∧ Mod (fun j => bo = some j) X X' ∧ WayAt X' v k bo cap
/-- the way has grown from v0 to v -/
structure WayS (X1 : World) (v0 : Value) (k0 : List Nat) (bo0 : Option Nat) (cap0 : Nat) (v : Value) (k : List Nat) (bo : Option Nat) (cap : Nat) (wr : World) : Prop where
  way : WayAt wr v k bo cap
  base : WayAt wr v0 k0 bo0 cap0
  rel : (bo = bo0 ∧ cap = cap0 ∧ bo0 ≠ none ∧ k0 <+: k) ∨ bo = none ∨ ∃ g, bo = some g ∧ X1.heap.size ≤ g
  mod : Mod (fun j => bo0 = some j) X1 wr
  lt0 : ∀ g, bo0 = some g → g < X1.heap.size
section
variable {X1 wr w' : World} {v0 v v' : Value} {k0 k y : List Nat} {bo0 bo bo' : Option Nat} {cap0 cap cap' : Nat}
theorem WayS.start (h : WayAt X1 v k bo cap) : WayS X1 v k bo cap v k bo cap X1 := by
  refine ⟨h, h, ?_, Mod.refl _ _, fun g e => h.lt e⟩
  cases bo with
  | none => exact Or.inr (Or.inl rfl)
  | some g => exact Or.inl ⟨rfl, rfl, by simp, List.prefix_refl _⟩
theorem WayS.ne (h : WayS X1 v0 k0 bo0 cap0 v k bo cap wr) {i : Nat} (hi : i < X1.heap.size) (hn : bo0 ≠ some i) : bo ≠ some i := fun e => by
  rcases h.rel with ⟨rfl, _⟩ | hn2 | ⟨g', hn2, hg'⟩
  · exact hn e
  · rw [hn2] at e; cases e
  · rw [hn2] at e; cases e; omega
/-- something was done behind the way -/
theorem WayS.told (h : WayS X1 v0 k0 bo0 cap0 v k bo cap wr) (hm : Mod (fun j => bo = some j) wr w') (hk : WayAt w' v k bo cap) : WayS X1 v0 k0 bo0 cap0 v k bo cap w' := by
  refine ⟨hk, ?_, h.rel, h.mod.then hm fun i hi e => ?_, h.lt0⟩
  · rcases h.rel with ⟨rfl, rfl, hne, x, rfl⟩ | hn
    · exact h.base.back (F := fun _ => False) (Or.inl ⟨rfl, rfl, hne⟩) hk (hm.mono fun j _ e => Or.inl e) (fun _ _ q => q)
    · refine h.base.mod hm fun g e q => ?_
      have := h.lt0 g e
      rcases hn with hn | ⟨g', hn, hg'⟩
      · rw [hn] at q; cases q
      · rw [hn] at q
        cases q
        omega
  · rcases h.rel with ⟨rfl, _⟩ | hn | ⟨g', hn, hg'⟩
    · exact e
    · rw [hn] at e; cases e
    · rw [hn] at e; cases e; omega
theorem WayS.below (h : WayS X1 v0 k0 bo0 cap0 v k bo cap wr) (hb : Below wr.heap.size wr w') : WayS X1 v0 k0 bo0 cap0 v k bo cap w' :=
  h.told (Mod.of_below hb) (h.way.below hb)
/-- the way goes on -/
theorem WayS.app (h : WayS X1 v0 k0 bo0 cap0 v k bo cap wr) (hw : WayAt w' v' (k ++ y) bo' cap') (hg : Goes wr bo bo' cap cap') (hm : Mod (fun j => bo = some j) wr w') (hk : WayAt w' v k bo cap) : WayS X1 v0 k0 bo0 cap0 v' (k ++ y) bo' cap' w' := by
  have q := h.told hm hk
  refine ⟨hw, q.base, ?_, q.mod, h.lt0⟩
  rcases hg with ⟨rfl, rfl, hne⟩ | hn | ⟨g, hn, hg⟩
  · rcases h.rel with ⟨e1, e2, e3, e4⟩ | e | e
    · exact Or.inl ⟨e1, e2, e3, e4.trans (List.prefix_append _ _)⟩
    · exact Or.inr (Or.inl e)
    · exact Or.inr (Or.inr e)
  · exact Or.inr (Or.inl hn)
  · exact Or.inr (Or.inr ⟨g, hn, Nat.le_trans h.mod.size hg⟩)
/-- what stood ahead of the way stands -/
theorem WayS.block (h : WayS X1 v0 k0 bo0 cap0 v k bo cap wr) {i : Nat} (hi : i < X1.heap.size) (hn : bo0 ≠ some i) : wr.heap[i]? = X1.heap[i]? := h.mod.same i hi hn
theorem WayS.since {w : World} (h : WayS X1 v0 k0 bo0 cap0 v k bo cap wr) (hb : Below w.heap.size w X1) (hlo : ∀ g, bo0 = some g → w.heap.size ≤ g) : Below w.heap.size w wr ∧ ∀ g, bo = some g → w.heap.size ≤ g := by
  refine ⟨hb.trans (h.mod.belowLo hlo hb.size), fun g e => ?_⟩
  rcases h.rel with ⟨rfl, _⟩ | hn | ⟨g', hn, hg'⟩
  · exact hlo g e
  · rw [hn] at e; cases e
  · rw [hn] at e; cases e; exact Nat.le_trans hb.size hg'
end
/-- the result's cells, while nothing is told -/
def ResC (w : World) (rb : Nat) : Prop := w.heap[rb]? = some (.cells [.slice none 0 0, .int .u64 0].toArray apT (0, 0))
theorem ResC.facts {w : World} {rb : Nat} (h : ResC w rb) : w.cell? ⟨rb, 0, none⟩ = some (.slice none 0 0) ∧ w.cell? ⟨rb, 1, none⟩ = some (.int .u64 0) ∧ w.frozen? ⟨rb, 0, none⟩ = false ∧ w.frozen? ⟨rb, 1, none⟩ = false :=
  ⟨by rw [cell_of_blk h]; rfl, by rw [cell_of_blk h]; rfl, frozen_of_blk h 0, frozen_of_blk h 1⟩
theorem resC_new (w : World) : ResC (w.alloc (.cells #[.slice none 0 0, .int .u64 0] apT)) w.heap.size := heap_alloc_new w _
theorem ResC.below {w w' : World} {rb : Nat} (h : ResC w rb) (hb : Below w.heap.size w w') : ResC w' rb := (hb.block rb (Array.getElem?_eq_some_iff.1 h).1).trans h
/-- a pair is told -/
theorem nr_tell {X X1 wr w8 : World} {v0 v : Value} {k0 k : List Nat} {bo0 bo : Option Nat} {cap0 cap rb : Nat} (h : WayS X1 v0 k0 bo0 cap0 v k bo cap wr) (hX : Below X.heap.size X X1) (hr : ResC X1 rb) (hrb : X.heap.size ≤ rb) (hne : bo0 ≠ some rb) {o : PO} {a : Option Addr} {m c : Nat} (hs : Sl wr a m c (o.getD ([], 0)).1) {y : Int} (hy : y = (o.getD ([], 0)).2) {b : Bool} (hb : b = o.isSome)
    (e8 : w8 = (wr.setCell ⟨rb, 0, none⟩ (.slice a m c)).setCell ⟨rb, 1, none⟩ (.int .u64 y)) : w8.cell? ⟨rb, 0, none⟩ = some (.slice a m c) ∧ w8.cell? ⟨rb, 1, none⟩ = some (.int .u64 y) ∧ nrPost v0 k0 bo0 cap0 o X (.returned (.tuple #[.agg #[.slice a m c, .int .u64 y], .bool b])) w8 := by
  subst hy hb
  generalize hy : (o.getD ([], 0)).2 = y at *
  have hlt : rb < X1.heap.size := (Array.getElem?_eq_some_iff.1 hr).1
  have x3 : wr.heap[rb]? = some (.cells [.slice none 0 0, .int .u64 0].toArray apT (0, 0)) := (h.block hlt hne).trans hr
  have z1 : (wr.setCell ⟨rb, 0, none⟩ (.slice a m c)).heap[rb]? = some (.cells [.slice a m c, .int .u64 0].toArray apT (0, 0)) := by
    rw [setCell_list _ _ _ _ _ _ x3, setRow_heap _ _ _ _ _ _ x3]; rfl
  have z2 : w8.heap[rb]? = some (.cells [.slice a m c, .int .u64 y].toArray apT (0, 0)) := by
    rw [e8]
    show (((wr.setCell ⟨rb, 0, none⟩ (.slice a m c)).setCell ⟨rb, 1, none⟩ (.int .u64 y)).heap[rb]?) = _
    rw [setCell_list _ _ _ _ _ _ z1, setRow_heap _ _ _ _ _ _ z1]; rfl
  have hm : Mod (fun j => j = rb) wr w8 := by
    rw [e8]
    exact ((Mod.refl (fun j => j = rb) wr).setCell ⟨rb, 0, none⟩ _ (fun _ => rfl)).setCell ⟨rb, 1, none⟩ _ (fun _ => rfl)
  refine ⟨by rw [cell_of_blk z2]; rfl, by rw [cell_of_blk z2]; rfl, a, m, c, ?_, sl_off_pair hs x3 hm, ?_, ?_⟩
  · rw [hy]
  · have q : Mod (fun j => bo0 = some j) X wr := (Mod.of_below hX).trans h.mod
    rw [e8]
    exact (q.setCell ⟨rb, 0, none⟩ _ (fun l => absurd l (Nat.not_lt.2 hrb))).setCell ⟨rb, 1, none⟩ _ (fun l => absurd l (Nat.not_lt.2 hrb))
  · exact h.base.mod hm fun g e q => hne (by rw [e, q])
end Go.Proofs.Ytkonbldjmcccmaa
/- near.own, least, most. -/
namespace Go.Proofs.Ytkonbldjmcccmaa
open Go.RowKit
/-! The kids beside a byte, in memory. -/
theorem prO_sing (c : Nat) : prO [c] (tl .nil).head? = none ∧ prO [c] (tl .nil).getLast? = none := ⟨rfl, rfl⟩
theorem next_find {Q : List NP} : ∀ {ks : Tr} {v : Value} {l : KV}, TreeIn Q 0 ks v l → TOk ks → IsK ks → Can ks → ∀ f : Int, ∃ (c : Nat) (t : Tr) (a : Option Addr), stepV (knxt l f) = .tuple #[.int .u8 (c : Nat), .pointer a] ∧ TreeV Q t (.pointer a) ∧ TOk t ∧ Can t ∧ c < 256 ∧ nHead (nxtT ks f) = prO [c] (tl t).head? ∧ (t = .nil ∨ 1 + tway t ≤ tway ks) ∧ tdep t ≤ tdep ks
  | .nil, v, l, h, _, _, _, f => by
    have h : l = [] := h
    subst h
    exact ⟨0, .nil, none, rfl, Or.inl ⟨rfl, rfl⟩, trivial, trivial, by omega, rfl, Or.inl rfl, Nat.le_refl _⟩
  | .node .., _, _, _, _, hk, _, _ => hk.elim
  | .kid b t r, v, l, ⟨x, l', h1, h2, h3⟩, ⟨k1, k2, k3, k4, k5, k6⟩, _, ⟨c1, c2⟩, f => by
    subst h1
    by_cases e : f ≤ (b : Int)
    · obtain ⟨q, rfl⟩ := h2.isN k2
      refine ⟨b, t, some ⟨q, 0, none⟩, by simp [knxt, e, stepV], Or.inr ⟨k2, h2⟩, k3, c1, k1, by simp only [nxtT, if_pos e, nHead], Or.inr (by simp only [tway]; omega), by simp only [tdep]; omega⟩
    · obtain ⟨c, t', a, q1, q2, q3, q4, q5, q6, q7, q8⟩ := next_find h3 k5 k4 c2 f
      refine ⟨c, t', a, ?_, q2, q3, q4, q5, by simp only [nxtT, if_neg e]; exact q6, q7.imp id (fun h => by simp only [tway]; omega), by simp only [tdep]; omega⟩
      rw [← q1]
      simp [knxt, e]
theorem kprv_cons (b : Nat) (x : Value) (l : KV) (f : Int) : kprv ((b, x) :: l) f = (kprv l f).or (if (b : Int) ≤ f then some (b, x) else none) := by
  unfold kprv
  by_cases e : (b : Int) ≤ f
  · simp only [List.filter_cons, e, decide_true, if_true]
    rw [List.getLast?_cons]
    cases (List.filter (fun p : Nat × Value => decide ((p.1 : Int) ≤ f)) l).getLast? <;> rfl
  · simp [List.filter_cons, e]
theorem prev_find {Q : List NP} : ∀ {ks : Tr} {v : Value} {l : KV}, TreeIn Q 0 ks v l → TOk ks → IsK ks → Can ks → ∀ f : Int, (prvT ks f = none ∧ kprv l f = none) ∨ ∃ (c : Nat) (t : Tr) (k : Nat), prvT ks f = some (c, t) ∧ kprv l f = some (c, .pointer (some ⟨k, 0, none⟩)) ∧ TreeV Q t (.pointer (some ⟨k, 0, none⟩)) ∧ TOk t ∧ Can t ∧ c < 256 ∧ 1 + tway t ≤ tway ks ∧ tdep t ≤ tdep ks
  | .nil, v, l, h, _, _, _, f => by
    have h : l = [] := h
    subst h
    exact Or.inl ⟨rfl, rfl⟩
  | .node .., _, _, _, _, hk, _, _ => hk.elim
  | .kid b t r, v, l, ⟨x, l', h1, h2, h3⟩, ⟨k1, k2, k3, k4, k5, k6⟩, _, ⟨c1, c2⟩, f => by
    subst h1
    obtain ⟨q, rfl⟩ := h2.isN k2
    rw [kprv_cons]
    simp only [prvT]
    rcases prev_find h3 k5 k4 c2 f with ⟨e1, e2⟩ | ⟨c, t', k, e1, e2, q2, q3, q4, q5, q6, q7⟩
    · rw [e1, e2]
      by_cases e : (b : Int) ≤ f
      · refine Or.inr ⟨b, t, q, by simp [e], by simp [e], Or.inr ⟨k2, h2⟩, k3, c1, k1, by simp only [tway]; omega, by simp only [tdep]; omega⟩
      · exact Or.inl ⟨by simp [e], by simp [e]⟩
    · refine Or.inr ⟨c, t', k, by rw [e1]; rfl, by rw [e2]; rfl, q2, q3, q4, q5, by simp only [tway]; omega, by simp only [tdep]; omega⟩
theorem prev_find' {Q : List NP} {ks : Tr} {v : Value} {l : KV} (h : TreeIn Q 0 ks v l) (h1 : TOk ks) (h2 : IsK ks) (h3 : Can ks) (f : Int) : ∃ (c : Nat) (t : Tr) (a : Option Addr), stepV (kprv l f) = .tuple #[.int .u8 (c : Nat), .pointer a] ∧ TreeV Q t (.pointer a) ∧ TOk t ∧ Can t ∧ c < 256 ∧ nLast (prvT ks f) = prO [c] (tl t).getLast? ∧ (t = .nil ∨ 1 + tway t ≤ tway ks) ∧ tdep t ≤ tdep ks := by
  rcases prev_find h h1 h2 h3 f with ⟨e1, e2⟩ | ⟨c, t', k, e1, e2, q2, q3, q4, q5, q6, q7⟩
  · rw [e1, e2]
    exact ⟨0, .nil, none, rfl, Or.inl ⟨rfl, rfl⟩, trivial, trivial, by omega, rfl, Or.inl rfl, Nat.zero_le _⟩
  · rw [e1, e2]
    exact ⟨c, t', some ⟨k, 0, none⟩, rfl, q2, q3, q4, q5, rfl, Or.inr q6, q7⟩
theorem kid_at {Q : List NP} : ∀ {ks : Tr} {v : Value} {l : KV}, TreeIn Q 0 ks v l → TOk ks → IsK ks → Can ks → ∀ c, ∃ (a : Option Addr), (kget l c).getD (.pointer none) = .pointer a ∧ TreeV Q (kidT ks c) (.pointer a) ∧ TOk (kidT ks c) ∧ Can (kidT ks c) ∧ (kidT ks c = .nil ∨ 1 + tway (kidT ks c) ≤ tway ks) ∧ tdep (kidT ks c) ≤ tdep ks
  | .nil, v, l, h, _, _, _, c => by
    have h : l = [] := h
    subst h
    exact ⟨none, rfl, Or.inl ⟨rfl, rfl⟩, trivial, trivial, Or.inl rfl, Nat.zero_le _⟩
  | .node .., _, _, _, _, hk, _, _ => hk.elim
  | .kid b t r, v, l, ⟨x, l', h1, h2, h3⟩, ⟨k1, k2, k3, k4, k5, k6⟩, _, ⟨c1, c2⟩, c => by
    subst h1
    by_cases e : b = c
    · subst e
      obtain ⟨q, rfl⟩ := h2.isN k2
      simp only [kidT, if_true]
      exact ⟨some ⟨q, 0, none⟩, by simp [kget], Or.inr ⟨k2, h2⟩, k3, c1, Or.inr (by simp only [tway]; omega), by simp only [tdep]; omega⟩
    · obtain ⟨a, q1, q2, q3, q4, q5, q6⟩ := kid_at h3 k5 k4 c2 c
      simp only [kidT, if_neg e]
      refine ⟨a, ?_, q2, q3, q4, q5.imp id (fun h => by simp only [tway]; omega), by simp only [tdep]; omega⟩
      rw [← q1]
      have : kget ((b, x) :: l') c = kget l' c := by simp [kget, List.find?_cons, e]
      rw [this]
/-! A node's own pair. -/
theorem res_put {w w8 : World} {rb : Nat} (h : ResC w rb) {a : Option Addr} {m c : Nat} {y : Int} (e8 : w8 = (w.setCell ⟨rb, 0, none⟩ (.slice a m c)).setCell ⟨rb, 1, none⟩ (.int .u64 y)) : w8.cell? ⟨rb, 0, none⟩ = some (.slice a m c) ∧ w8.cell? ⟨rb, 1, none⟩ = some (.int .u64 y) ∧ Mod (fun j => j = rb) w w8 := by
  have x3 : w.heap[rb]? = some (.cells [.slice none 0 0, .int .u64 0].toArray apT (0, 0)) := h
  have z1 : (w.setCell ⟨rb, 0, none⟩ (.slice a m c)).heap[rb]? = some (.cells [.slice a m c, .int .u64 0].toArray apT (0, 0)) := by
    rw [setCell_list _ _ _ _ _ _ x3, setRow_heap _ _ _ _ _ _ x3]; rfl
  have z2 : w8.heap[rb]? = some (.cells [.slice a m c, .int .u64 y].toArray apT (0, 0)) := by
    rw [e8]
    show (((w.setCell ⟨rb, 0, none⟩ (.slice a m c)).setCell ⟨rb, 1, none⟩ (.int .u64 y)).heap[rb]?) = _
    rw [setCell_list _ _ _ _ _ _ z1, setRow_heap _ _ _ _ _ _ z1]; rfl
  refine ⟨by rw [cell_of_blk z2]; rfl, by rw [cell_of_blk z2]; rfl, ?_⟩
  rw [e8]
  exact ((Mod.refl (fun j => j = rb) w).setCell ⟨rb, 0, none⟩ _ (fun _ => rfl)).setCell ⟨rb, 1, none⟩ _ (fun _ => rfl)
theorem mod_new {w w1 w8 : World} {rb : Nat} (h : Below w.heap.size w w1) (hm : Mod (fun j => j = rb) w1 w8) (hrb : w.heap.size ≤ rb) : Below w.heap.size w w8 :=
  h.trans (hm.belowLo (fun j (e : j = rb) => by omega) h.size)
set_option maxHeartbeats 1000000 in
theorem own_some {w X : World} {n : Nat} {bs : List Nat} {val : Int} {leaf : Bool} {q : Nat} {kk : KV} (h : NodeW w n bs val true leaf q kk) (hb : Below w.heap.size w X) (a : Option Addr) (m c : Nat) : Calls Try.prog 173 #[.pointer (some ⟨n, 0, none⟩), .slice a m c] X fun e X' => e = .returned (.tuple #[.agg #[(.slice a m c), .int .u64 val], .bool true]) ∧ Below X.heap.size X X' := by
  obtain ⟨X1, hX1⟩ : ∃ X1, X1 = X.alloc (.cells #[.slice none 0 0, .int .u64 0] apT) := ⟨_, rfl⟩
  have hA : Below X.heap.size X X1 := by rw [hX1]; exact (Below.refl _ X).alloc (Nat.le_refl _) _
  have hR : ResC X1 X.heap.size := by rw [hX1]; exact resC_new X
  have hV := Lib.hid (h.val X1 (hb.trans (hA.mono hb.size)))
  have HR := Lib.hid hR
  have HA := Lib.hid hA
  obtain ⟨r0, r1, r2, r3⟩ := hR.facts
  obtain ⟨c0, c1, hm⟩ := res_put hR (a := a) (m := m) (c := c) (y := val) rfl
  have HM := Lib.hid hm
  clear h hb hA hR hm
  go_enter Try.func173, Try.ntmps173
  go_upto_region 1 with fail
  rw [← hX1]
  clear hX1
  go_wp2_with (go_at_call 17; refine hV.out.mono ?_; rintro e w' ⟨rfl, rfl⟩)
  (try simp only [Exit.inBlock, Exit.then])
  exact bodyPost_ret (v := .tuple #[.agg #[(.slice a m c), .int .u64 val], .bool true]) (by simp [results, Try.results173, go_sem, c0, c1]) rfl ⟨rfl, mod_new HA.out HM.out (Nat.le_refl _)⟩

set_option maxHeartbeats 1000000 in
theorem own_none {w X : World} {n : Nat} {bs : List Nat} {val : Int} {leaf : Bool} {q : Nat} {kk : KV} (h : NodeW w n bs val false leaf q kk) (hb : Below w.heap.size w X) (a : Option Addr) (m c : Nat) : Calls Try.prog 173 #[.pointer (some ⟨n, 0, none⟩), .slice a m c] X fun e X' => e = .returned (.tuple #[.agg #[(.slice none 0 0), .int .u64 0], .bool false]) ∧ Below X.heap.size X X' := by
  obtain ⟨X1, hX1⟩ : ∃ X1, X1 = X.alloc (.cells #[.slice none 0 0, .int .u64 0] apT) := ⟨_, rfl⟩
  have hA : Below X.heap.size X X1 := by rw [hX1]; exact (Below.refl _ X).alloc (Nat.le_refl _) _
  have hR : ResC X1 X.heap.size := by rw [hX1]; exact resC_new X
  have hV := Lib.hid (h.val X1 (hb.trans (hA.mono hb.size)))
  have HR := Lib.hid hR
  have HA := Lib.hid hA
  obtain ⟨r0, r1, r2, r3⟩ := hR.facts
  obtain ⟨c0, c1, hm⟩ := res_put hR (a := none) (m := 0) (c := 0) (y := 0) rfl
  have HM := Lib.hid hm
  clear h hb hA hR hm
  go_enter Try.func173, Try.ntmps173
  go_upto_region 1 with fail
  rw [← hX1]
  clear hX1
  go_wp2_with (go_at_call 17; refine hV.out.mono ?_; rintro e w' ⟨rfl, rfl⟩)
  (try simp only [Exit.inBlock, Exit.then])
  exact bodyPost_ret (v := .tuple #[.agg #[(.slice none 0 0), .int .u64 0], .bool false]) (by simp [results, Try.results173, go_sem, c0, c1]) rfl ⟨rfl, mod_new HA.out HM.out (Nat.le_refl _)⟩
end Go.Proofs.Ytkonbldjmcccmaa
/- near.least and near.most: the first and the last pair of a tree. -/
namespace Go.Proofs.Ytkonbldjmcccmaa
open Go.RowKit
theorem nil_lt {t : Tr} {k : Nat} (h : t = .nil ∨ k + tway t ≤ 900000) (bs : List Nat) (v : Int) (has leaf : Bool) (ks : Tr) (e : t = .node bs v has leaf ks) : k + bs.length + tway ks ≤ 900000 := by
  subst e
  rcases h with h | h
  · cases h
  · simp only [tway] at h; omega
/-- where a walk down stands -/
structure LeS (Q : List NP) (O : PO) (L : PL → PO) (t : Tr) (p : Option Addr) (k : List Nat) : Prop where
  tree : TreeV Q t (.pointer p)
  ok : TOk t
  can : Can t
  k8 : ∀ x ∈ k, x < 256
  len : t = .nil ∨ k.length + tway t ≤ 900000
  out : prO k (L (tl t)) = O
set_option maxHeartbeats 4000000 in
set_option maxRecDepth 100000 in
theorem near_least {w0 w X : World} {Q : List NP} (hQ : StoreP NoB w0 w Q) {t : Tr} {p : Option Addr} (hT : TreeV Q t (.pointer p)) (hO : TOk t) (hC : Can t) (hb : Below w.heap.size w X) {v : Value} {k : List Nat} {bo : Option Nat} {cap : Nat} (hW : WayAt X v k bo cap) (hlo : ∀ g, bo = some g → w.heap.size ≤ g) (hk : ∀ x ∈ k, x < 256) (hway : t = .nil ∨ k.length + tway t ≤ 900000) : Calls Try.prog 116 #[.pointer p, v] X (nrPost v k bo cap (prO k (tl t).head?) X) := by
  obtain ⟨X1, hX1⟩ : ∃ X1, X1 = X.alloc (.cells #[.slice none 0 0, .int .u64 0] apT) := ⟨_, rfl⟩
  have hA : Below X.heap.size X X1 := by rw [hX1]; exact (Below.refl _ X).alloc (Nat.le_refl _) _
  have hR : ResC X1 X.heap.size := by rw [hX1]; exact resC_new X
  have HR := Lib.hid hR
  have HA := Lib.hid hA
  have HQ := Lib.hid hQ
  have HB1 := Lib.hid (hb.trans (hA.mono hb.size))
  have HLO := Lib.hid hlo
  have HNE : Hid (bo ≠ some X.heap.size) := fun e => by have := hW.lt e; omega
  have HXL : Hid (X.heap.size < X1.heap.size) := (Array.getElem?_eq_some_iff.1 hR).1
  obtain ⟨O, hOe⟩ : ∃ O, O = prO k (tl t).head? := ⟨_, rfl⟩
  have H0 : Hid (WayS X1 v k bo cap v k bo cap X1) := WayS.start (hW.below hA)
  have H1 : Hid (LeS Q O (fun l => l.head?) t p k) := ⟨hT, hO, hC, hk, hway, hOe.symm⟩
  have h1m : Hid (1 ≤ 1000000) := by show _ ≤ _; omega
  rw [← hOe]
  obtain ⟨G, hG⟩ : ∃ G, G = tdep t + 1 := ⟨_, rfl⟩
  have HG0 : Hid (tdep t < G) := by show _ < _; omega
  clear hQ hT hO hC hb hW hlo hk hway hA hR hOe hG
  go_enter Try.func116, Try.ntmps116
  go_upto_region 1 with fail
  rw [← hX1]
  clear hX1
  go_loopg [0, 1] G (fun g s0 s1 wr => ∃ (t' : Tr) (p' : Option Addr) (k' : List Nat) (bo' : Option Nat) (cap' : Nat), s0 = .pointer p' ∧ Hid (WayS X1 v k bo cap s1 k' bo' cap' wr) ∧ Hid (LeS Q O (fun l => l.head?) t' p' k') ∧ Hid (tdep t' < g))
  case atStart => exact ⟨t, p, k, bo, cap, rfl, H0, H1, HG0⟩
  case round =>
    clear H0 H1 HG0
    obtain ⟨t', p', k', bo', cap', rfl, hS, hL, hg⟩ := hrel
    have hres : Hid (∀ X2, Below wr.heap.size wr X2 → ResC X2 X.heap.size) := fun X2 hb => ((hS.out.below hb).block HXL.out HNE.out).trans HR.out
    rcases hL.out.tree with ⟨rfl, ev⟩ | ⟨hn, hin⟩
    · obtain rfl : p' = none := by injection ev
      obtain ⟨r0, r1, r2, r3⟩ := (hres.out wr (Below.refl _ _)).facts
      have e := hL.out.out
      simp only [tl, List.head?_nil, prO_none] at e
      subst e
      obtain ⟨c0, c1, q⟩ := nr_tell hS.out HA.out HR.out (Nat.le_refl _) HNE.out (o := none) (a := none) (m := 0) (c := 0) (sl_nil _) (y := 0) rfl (b := false) rfl rfl
      have q := Lib.hid q
      clear ev
      go_wp2_with fail
      (try simp only [Exit.inBlock, Exit.then])
      exact bodyPost_ret (v := .tuple #[.agg #[.slice none 0 0, .int .u64 0], .bool false]) (by simp [results, Try.results116, go_sem, c0, c1]) rfl q.out
    · cases t' with
      | nil => exact hn.elim
      | kid => exact hn.elim
      | node bs val has leaf ks =>
        obtain ⟨n, kk, rfl, hN, hKs, hk0, _⟩ := nodew_of HQ.out hin hL.out.ok
        obtain ⟨o1, o2, o3, o4, o5, o6, o7⟩ := hL.out.ok
        have hlen := nil_lt hL.out.len _ _ _ _ _ rfl
        have hSB := hS.out.since HB1.out HLO.out
        have hPart := Lib.hid (hN.part wr hSB.1)
        have HN := Lib.hid hN
        obtain ⟨kb, hkb⟩ : ∃ kb, kb = k' ++ bs := ⟨_, rfl⟩
        have HKB := Lib.hid hkb
        have hk8 : Hid (∀ x ∈ kb, x < 256) := fun x hx => by
          rw [hkb] at hx
          rcases List.mem_append.1 hx with hx | hx
          · exact hL.out.k8 x hx
          · exact o1 x hx
        have hkl : Hid (k'.length ≤ 1000000) := by show _ ≤ _; omega
        have hbl : Hid (bs.length ≤ 1000000) := by show _ ≤ _; omega
        have hkbl : Hid (kb.length + tway ks ≤ 900000) := by show _ ≤ _; rw [hkb, List.length_append]; exact hlen
        cases has with
        | true =>
          have hOe : Hid (O = some (kb, val)) := by
            show _ = _
            rw [← hL.out.out, hkb]; rfl
          clear hin hKs hk0 hlen hSB o1 o2 o3 o4 o5 o6 o7 hkb hN
          go_wp2_with (first
            | (go_at_call 173; refine (hOwn.out _ _ _).mono ?_; rintro e w3 ⟨rfl, b3⟩
               have hA3 : Below w2.heap.size w2 (w3.alloc (.cells #[.slice a2 kb.length cap2, .int .u64 val] apT)) := b3.alloc b3.size _
               have S3 := S2.out.below hA3
               obtain ⟨r0, r1, r2, r3⟩ := (hres2.out _ hA3).facts
               obtain ⟨c0, c1, q⟩ := nr_tell S3 HA.out HR.out (Nat.le_refl _) HNE.out (o := some (kb, val)) (hSl.out.below hA3) (y := val) rfl (b := true) rfl rfl
               have q := Lib.hid q
               clear hA3 S3 b3)
            | (at_builtin; go_loud (refine wpList_append_way rfl (.tmp 12) (.tmp 14) rfl rfl S1.out.way ⟨wr.heap.size, 0, none⟩ bs.length bs.length bs rfl rfl hnews.out hkl.out hbl.out ?_); intro v2 w2 bo2 cap2 HW HG HM HK
               have q1 := S1.out.app HW.out HG.out HM.out HK.out
               rw [← HKB.out] at q1
               have S2 := Lib.hid q1
               obtain ⟨a2, hv2, sl2⟩ := q1.way.sl hk8.out
               subst hv2
               have hSl := Lib.hid sl2
               have hOwn := Lib.hid (own_some HN.out (q1.since HB1.out HLO.out).1)
               have hres2 : Hid (∀ X2, Below w2.heap.size w2 X2 → ResC X2 X.heap.size) := fun X2 hb => ((q1.below hb).block HXL.out HNE.out).trans HR.out
               clear q1 sl2 HW HG HM HK)
            | (go_at_call 32; refine hPart.out.mono ?_; rintro e w1 ⟨rfl, s1, b1⟩
               have S1 := Lib.hid (hS.out.below b1)
               have hnews := Lib.hid (sl_news s1 (Below.refl _ w1))
               clear s1 b1))
          rw [hOe.out]
          (try simp only [Exit.inBlock, Exit.then])
          exact bodyPost_ret (v := .tuple #[.agg #[.slice a2 kb.length cap2, .int .u64 val], .bool true]) (by simp [results, Try.results116, go_sem, c0, c1]) rfl q.out
        | false =>
          obtain ⟨c, t2, a, q1, q2, q3, q4, q5, q6, q7, q8⟩ := next_find hKs.tree o7 o6 hL.out.can.1 0
          have hNx : Hid (∀ X2, Below w.heap.size w X2 → Calls Try.prog 18 #[.pointer (some ⟨n, 0, none⟩), .int .i64 0] X2 fun e w' => e = .returned (.tuple #[.int .u8 (c : Nat), .pointer a]) ∧ Below X2.heap.size X2 w') := fun X2 hX => by
            have := hN.next X2 0 hX (by omega) (by omega)
            rw [q1] at this
            exact this
          obtain ⟨kc, hkc⟩ : ∃ kc, kc = kb ++ [c] := ⟨_, rfl⟩
          have HKC := Lib.hid hkc
          have hL2 : Hid (LeS Q O (fun l => l.head?) t2 a kc) := by
            refine ⟨q2, q3, q4, fun x hx => ?_, ?_, ?_⟩
            · rw [hkc] at hx
              rcases List.mem_append.1 hx with hx | hx
              · exact hk8.out x hx
              · obtain rfl := List.mem_singleton.1 hx; exact q5
            · rcases q7 with q7 | q7
              · exact Or.inl q7
              · right; rw [hkc, List.length_append, List.length_singleton]; have := hkbl.out; omega
            · rw [← hL.out.out, hkc, hkb]
              simp only [tl, Bool.false_eq_true, if_false, List.nil_append]
              rw [head_pre, nxt_head (f := 0) o6 o7 hL.out.can.1 (fun b t q _ => by omega), q6]
              simp only [prO_prO, List.append_assoc]
          have hg2 : Hid (tdep t2 < gk - 1 ∧ gk - 1 < gk) := by
            have := hg.out
            simp only [tdep] at this
            exact ⟨by omega, by omega⟩
          have hkbL : Hid (kb.length ≤ 1000000) := by show _ ≤ _; have := hkbl.out; omega
          clear hin hKs hk0 hlen hSB o1 o2 o3 o4 o5 o6 o7 hkb hN q1 q2 q3 q4 q5 q6 q7 q8 hkc
          go_wp2_with (first
            | (at_builtin; have hg5 := hNews5; go_loud (refine wpList_append_way (v := .slice a2 kb.length cap2) rfl (.tmp 29) (.tmp 31) rfl rfl S5.out.way ⟨w4.heap.size, 0, none⟩ 1 1 [c] rfl rfl hNews5.out hkbL.out h1m.out ?_); intro v6 w6 bo6 cap6 HW HG HM HK
               have q1 := S5.out.app HW.out HG.out HM.out HK.out
               rw [← HKC.out] at q1
               have S6 := Lib.hid q1
               clear q1 HW HG HM HK)
            | (go_at_call 18; refine (hNx.out _ B3.out).mono ?_; rintro e w4 ⟨rfl, b4⟩
               have S5 := Lib.hid ((S3.out.below b4).below ((Below.refl _ w4).alloc (Nat.le_refl _) (.cells #[.int .u8 (c : Nat)] 5)))
               have hNews5 := Lib.hid (news_alloc w4 [.int .u8 (c : Nat)] 5)
               clear b4)
            | (go_at_call 173; refine (hOwn.out _ _ _).mono ?_; rintro e w3 ⟨rfl, b3⟩
               have hA3 : Below w2.heap.size w2 (w3.alloc (.cells #[.slice none 0 0, .int .u64 0] apT)) := b3.alloc b3.size _
               have S3 := Lib.hid (S2.out.below hA3)
               have B3 := Lib.hid (S3.out.since HB1.out HLO.out).1
               clear hA3 b3)
            | (at_builtin; go_loud (refine wpList_append_way rfl (.tmp 12) (.tmp 14) rfl rfl S1.out.way ⟨wr.heap.size, 0, none⟩ bs.length bs.length bs rfl rfl hnews.out hkl.out hbl.out ?_); intro v2 w2 bo2 cap2 HW HG HM HK
               have q1 := S1.out.app HW.out HG.out HM.out HK.out
               rw [← HKB.out] at q1
               have S2 := Lib.hid q1
               obtain ⟨a2, hv2, sl2⟩ := q1.way.sl hk8.out
               subst hv2
               have hOwn := Lib.hid (own_none HN.out (q1.since HB1.out HLO.out).1)
               clear q1 sl2 HW HG HM HK)
            | (go_at_call 32; refine hPart.out.mono ?_; rintro e w1 ⟨rfl, s1, b1⟩
               have S1 := Lib.hid (hS.out.below b1)
               have hnews := Lib.hid (sl_news s1 (Below.refl _ w1))
               clear s1 b1))
          go_roundg (gk - 1)
          case measure => exact hg2.out.2
          case rel => exact ⟨t2, a, kc, bo6, cap6, rfl, S6, hL2, hg2.out.1⟩
set_option maxHeartbeats 4000000 in
set_option maxRecDepth 100000 in
theorem near_most {w0 w X : World} {Q : List NP} (hQ : StoreP NoB w0 w Q) {t : Tr} {p : Option Addr} (hT : TreeV Q t (.pointer p)) (hO : TOk t) (hC : Can t) (hb : Below w.heap.size w X) {v : Value} {k : List Nat} {bo : Option Nat} {cap : Nat} (hW : WayAt X v k bo cap) (hlo : ∀ g, bo = some g → w.heap.size ≤ g) (hk : ∀ x ∈ k, x < 256) (hway : t = .nil ∨ k.length + tway t ≤ 900000) : Calls Try.prog 118 #[.pointer p, v] X (nrPost v k bo cap (prO k (tl t).getLast?) X) := by
  obtain ⟨X1, hX1⟩ : ∃ X1, X1 = X.alloc (.cells #[.slice none 0 0, .int .u64 0] apT) := ⟨_, rfl⟩
  have hA : Below X.heap.size X X1 := by rw [hX1]; exact (Below.refl _ X).alloc (Nat.le_refl _) _
  have hR : ResC X1 X.heap.size := by rw [hX1]; exact resC_new X
  have HR := Lib.hid hR
  have HA := Lib.hid hA
  have HQ := Lib.hid hQ
  have HB1 := Lib.hid (hb.trans (hA.mono hb.size))
  have HLO := Lib.hid hlo
  have HNE : Hid (bo ≠ some X.heap.size) := fun e => by have := hW.lt e; omega
  have HXL : Hid (X.heap.size < X1.heap.size) := (Array.getElem?_eq_some_iff.1 hR).1
  obtain ⟨O, hOe⟩ : ∃ O, O = prO k (tl t).getLast? := ⟨_, rfl⟩
  have H0 : Hid (WayS X1 v k bo cap v k bo cap X1) := WayS.start (hW.below hA)
  have H1 : Hid (LeS Q O (fun l => l.getLast?) t p k) := ⟨hT, hO, hC, hk, hway, hOe.symm⟩
  have h1m : Hid (1 ≤ 1000000) := by show _ ≤ _; omega
  rw [← hOe]
  obtain ⟨G, hG⟩ : ∃ G, G = tdep t + 1 := ⟨_, rfl⟩
  have HG0 : Hid (tdep t < G) := by show _ < _; omega
  clear hQ hT hO hC hb hW hlo hk hway hA hR hOe hG
  go_enter Try.func118, Try.ntmps118
  go_upto_region 1 with fail
  rw [← hX1]
  clear hX1
  go_loopg [0, 1] G (fun g s0 s1 wr => ∃ (t' : Tr) (p' : Option Addr) (k' : List Nat) (bo' : Option Nat) (cap' : Nat), s0 = .pointer p' ∧ Hid (WayS X1 v k bo cap s1 k' bo' cap' wr) ∧ Hid (LeS Q O (fun l => l.getLast?) t' p' k') ∧ Hid (tdep t' < g))
  case atStart => exact ⟨t, p, k, bo, cap, rfl, H0, H1, HG0⟩
  case round =>
    clear H0 H1 HG0
    obtain ⟨t', p', k', bo', cap', rfl, hS, hL, hg⟩ := hrel
    have hres : Hid (∀ X2, Below wr.heap.size wr X2 → ResC X2 X.heap.size) := fun X2 hb => ((hS.out.below hb).block HXL.out HNE.out).trans HR.out
    rcases hL.out.tree with ⟨rfl, ev⟩ | ⟨hn, hin⟩
    · obtain rfl : p' = none := by injection ev
      obtain ⟨r0, r1, r2, r3⟩ := (hres.out wr (Below.refl _ _)).facts
      have e := hL.out.out
      simp only [tl, List.getLast?_nil, prO_none] at e
      subst e
      obtain ⟨c0, c1, q⟩ := nr_tell hS.out HA.out HR.out (Nat.le_refl _) HNE.out (o := none) (a := none) (m := 0) (c := 0) (sl_nil _) (y := 0) rfl (b := false) rfl rfl
      have q := Lib.hid q
      clear ev
      go_wp2_with fail
      (try simp only [Exit.inBlock, Exit.then])
      exact bodyPost_ret (v := .tuple #[.agg #[.slice none 0 0, .int .u64 0], .bool false]) (by simp [results, Try.results118, go_sem, c0, c1]) rfl q.out
    · cases t' with
      | nil => exact hn.elim
      | kid => exact hn.elim
      | node bs val has leaf ks =>
        obtain ⟨n, kk, rfl, hN, hKs, hk0, hlf⟩ := nodew_of HQ.out hin hL.out.ok
        obtain ⟨o1, o2, o3, o4, o5, o6, o7⟩ := hL.out.ok
        have hlen := nil_lt hL.out.len _ _ _ _ _ rfl
        have hSB := hS.out.since HB1.out HLO.out
        have hPart := Lib.hid (hN.part wr hSB.1)
        have HN := Lib.hid hN
        obtain ⟨kb, hkb⟩ : ∃ kb, kb = k' ++ bs := ⟨_, rfl⟩
        have HKB := Lib.hid hkb
        have hk8 : Hid (∀ x ∈ kb, x < 256) := fun x hx => by
          rw [hkb] at hx
          rcases List.mem_append.1 hx with hx | hx
          · exact hL.out.k8 x hx
          · exact o1 x hx
        have hkl : Hid (k'.length ≤ 1000000) := by show _ ≤ _; omega
        have hbl : Hid (bs.length ≤ 1000000) := by show _ ≤ _; omega
        have hkbl : Hid (kb.length + tway ks ≤ 900000) := by show _ ≤ _; rw [hkb, List.length_append]; exact hlen
        by_cases hch : chain ks = []
        · -- no kids: it is a leaf
          have hks0 : ks = .nil := by rw [← ofL_chain ks o6 o7, hch]; rfl
          have hhas : has = true := by
            cases leaf with
            | true => exact (o5 rfl).1
            | false =>
              have := hL.out.can.2 rfl
              rw [hch] at this
              cases has
              · simp at this
              · rfl
          subst hhas
          have hOe : Hid (O = some (kb, val)) := by
            show _ = _
            rw [← hL.out.out, hkb, hks0]; rfl
          have hLn : Hid (∀ X2, Below w.heap.size w X2 → Calls Try.prog 30 #[.pointer (some ⟨n, 0, none⟩)] X2 fun e w' => e = .returned (.int .i64 ((0 : Nat) : Int)) ∧ X2 = w') := fun X2 hX => by
            have := hN.len X2 hX
            rw [hch] at this
            exact this
          clear hin hKs hk0 hlen hSB o1 o2 o3 o4 o5 o6 o7 hkb hN hks0 hch
          go_wp2_with (first
            | (go_at_call 30; refine (hLn.out _ B2.out).mono ?_; rintro e w' ⟨rfl, rfl⟩)
            | (go_at_call 173; refine (hOwn.out _ _ _).mono ?_; rintro e w3 ⟨rfl, b3⟩
               have S3 := S2.out.below b3
               obtain ⟨r0, r1, r2, r3⟩ := (hres2.out _ b3).facts
               obtain ⟨c0, c1, q⟩ := nr_tell S3 HA.out HR.out (Nat.le_refl _) HNE.out (o := some (kb, val)) (hSl.out.below b3) (y := val) rfl (b := true) rfl rfl
               have q := Lib.hid q
               clear S3 b3)
            | (at_builtin; go_loud (refine wpList_append_way rfl (.tmp 10) (.tmp 12) rfl rfl S1.out.way ⟨wr.heap.size, 0, none⟩ bs.length bs.length bs rfl rfl hnews.out hkl.out hbl.out ?_); intro v2 w2 bo2 cap2 HW HG HM HK
               have q1 := S1.out.app HW.out HG.out HM.out HK.out
               rw [← HKB.out] at q1
               have S2 := Lib.hid q1
               obtain ⟨a2, hv2, sl2⟩ := q1.way.sl hk8.out
               subst hv2
               have hSl := Lib.hid sl2
               have B2 := Lib.hid (q1.since HB1.out HLO.out).1
               have hOwn := Lib.hid (own_some HN.out B2.out)
               have hres2 : Hid (∀ X2, Below w2.heap.size w2 X2 → ResC X2 X.heap.size) := fun X2 hb => ((q1.below hb).block HXL.out HNE.out).trans HR.out
               clear q1 sl2 HW HG HM HK)
            | (go_at_call 32; refine hPart.out.mono ?_; rintro e w1 ⟨rfl, s1, b1⟩
               have S1 := Lib.hid (hS.out.below b1)
               have hnews := Lib.hid (sl_news s1 (Below.refl _ w1))
               clear s1 b1))
          rw [hOe.out]
          (try simp only [Exit.inBlock, Exit.then])
          exact bodyPost_ret (v := .tuple #[.agg #[.slice a2 kb.length cap2, .int .u64 val], .bool true]) (by simp [results, Try.results118, go_sem, c0, c1]) rfl q.out
        · obtain ⟨c, t2, a, q1, q2, q3, q4, q5, q6, q7, q8⟩ := prev_find' hKs.tree o7 o6 hL.out.can.1 255
          have hNx : Hid (∀ X2, Below w.heap.size w X2 → Calls Try.prog 19 #[.pointer (some ⟨n, 0, none⟩), .int .i64 255] X2 fun e w' => e = .returned (.tuple #[.int .u8 (c : Nat), .pointer a]) ∧ Below X2.heap.size X2 w') := fun X2 hX => by
            have := hN.prev X2 255 hX (by omega) (by omega)
            rw [q1] at this
            exact this
          obtain ⟨MM, hMM⟩ : ∃ MM, MM = (chain ks).length := ⟨_, rfl⟩
          have hMM0 : ((MM : Int) == 0) = false := by
            rw [beq_eq_false_iff_ne]
            intro e
            have : (chain ks).length = 0 := by omega
            exact hch (List.eq_nil_of_length_eq_zero this)
          have hLn : Hid (∀ X2, Below w.heap.size w X2 → Calls Try.prog 30 #[.pointer (some ⟨n, 0, none⟩)] X2 fun e w' => e = .returned (.int .i64 ((MM : Nat) : Int)) ∧ X2 = w') := fun X2 hX => by
            have := hN.len X2 hX
            rw [← hMM] at this
            exact this
          obtain ⟨kc, hkc⟩ : ∃ kc, kc = kb ++ [c] := ⟨_, rfl⟩
          have HKC := Lib.hid hkc
          have hL2 : Hid (LeS Q O (fun l => l.getLast?) t2 a kc) := by
            refine ⟨q2, q3, q4, fun x hx => ?_, ?_, ?_⟩
            · rw [hkc] at hx
              rcases List.mem_append.1 hx with hx | hx
              · exact hk8.out x hx
              · obtain rfl := List.mem_singleton.1 hx; exact q5
            · rcases q7 with q7 | q7
              · exact Or.inl q7
              · right; rw [hkc, List.length_append, List.length_singleton]; have := hkbl.out; omega
            · have hne : tl ks ≠ [] := by
                cases ks with
                | nil => exact absurd rfl hch
                | node => exact o6.elim
                | kid b x r =>
                  have := tl_ne x o7.2.1 o7.2.2.1 hL.out.can.1.1
                  simp only [tl]
                  intro e
                  obtain ⟨e1, _⟩ := List.append_eq_nil_iff.1 e
                  exact this (List.map_eq_nil_iff.1 e1)
              have hpn : pre bs (tl ks) ≠ [] := fun e => hne (List.map_eq_nil_iff.1 e)
              rw [← hL.out.out, hkc, hkb]
              show _ = prO k' ((if has then [(bs, val)] else []) ++ pre bs (tl ks)).getLast?
              rw [List.getLast?_append, last_pre, last_prv o6 o7 hL.out.can.1, q6]
              have : ((prO bs (prO [c] (tl t2).getLast?)).or ((if has then [(bs, val)] else []) : PL).getLast?) = prO bs (prO [c] (tl t2).getLast?) := by
                rw [← q6, ← last_prv o6 o7 hL.out.can.1, List.getLast?_eq_some_getLast hne]
                rfl
              rw [this]
              simp only [prO_prO, List.append_assoc]
          have hg2 : Hid (tdep t2 < gk - 1 ∧ gk - 1 < gk) := by
            have := hg.out
            simp only [tdep] at this
            exact ⟨by omega, by omega⟩
          have hkbL : Hid (kb.length ≤ 1000000) := by show _ ≤ _; have := hkbl.out; omega
          clear hin hKs hk0 hlen hSB o1 o2 o3 o4 o5 o6 o7 hkb hN q1 q2 q3 q4 q5 q6 q7 q8 hkc hMM hch
          go_wp2_with (first
            | (at_builtin; have hg5 := hNews5; go_loud (refine wpList_append_way (v := .slice a2 kb.length cap2) rfl (.tmp 27) (.tmp 29) rfl rfl S5.out.way ⟨w4.heap.size, 0, none⟩ 1 1 [c] rfl rfl hNews5.out hkbL.out h1m.out ?_); intro v6 w6 bo6 cap6 HW HG HM HK
               have q1 := S5.out.app HW.out HG.out HM.out HK.out
               rw [← HKC.out] at q1
               have S6 := Lib.hid q1
               clear q1 HW HG HM HK)
            | (go_at_call 19; refine (hNx.out _ B2.out).mono ?_; rintro e w4 ⟨rfl, b4⟩
               have S5 := Lib.hid ((S2.out.below b4).below ((Below.refl _ w4).alloc (Nat.le_refl _) (.cells #[.int .u8 (c : Nat)] 5)))
               have hNews5 := Lib.hid (news_alloc w4 [.int .u8 (c : Nat)] 5)
               clear b4)
            | (go_at_call 30; refine (hLn.out _ B2.out).mono ?_; rintro e w' ⟨rfl, rfl⟩)
            | (at_builtin; go_loud (refine wpList_append_way rfl (.tmp 10) (.tmp 12) rfl rfl S1.out.way ⟨wr.heap.size, 0, none⟩ bs.length bs.length bs rfl rfl hnews.out hkl.out hbl.out ?_); intro v2 w2 bo2 cap2 HW HG HM HK
               have q1 := S1.out.app HW.out HG.out HM.out HK.out
               rw [← HKB.out] at q1
               have S2 := Lib.hid q1
               obtain ⟨a2, hv2, sl2⟩ := q1.way.sl hk8.out
               subst hv2
               have B2 := Lib.hid (q1.since HB1.out HLO.out).1
               clear q1 sl2 HW HG HM HK)
            | (go_at_call 32; refine hPart.out.mono ?_; rintro e w1 ⟨rfl, s1, b1⟩
               have S1 := Lib.hid (hS.out.below b1)
               have hnews := Lib.hid (sl_news s1 (Below.refl _ w1))
               clear s1 b1))
          go_roundg (gk - 1)
          case measure => exact hg2.out.2
          case rel => exact ⟨t2, a, kc, bo6, cap6, rfl, S6, hL2, hg2.out.1⟩
end Go.Proofs.Ytkonbldjmcccmaa
/- near.beside: the first pair of the next kid, the last one of the kid ahead. -/
namespace Go.Proofs.Ytkonbldjmcccmaa
open Go.RowKit
set_option maxHeartbeats 2000000 in
set_option maxRecDepth 100000 in
theorem beside_next {w0 w X : World} {Q : List NP} (hQ : StoreP NoB w0 w Q) {n c : Nat} {f : Int} {t : Tr} {a : Option Addr} (hNx : ∀ X2, Below w.heap.size w X2 → Calls Try.prog 18 #[.pointer (some ⟨n, 0, none⟩), .int .i64 f] X2 fun e w' => e = .returned (.tuple #[.int .u8 (c : Nat), .pointer a]) ∧ Below X2.heap.size X2 w') (hT : TreeV Q t (.pointer a)) (hO : TOk t) (hC : Can t) (hc : c < 256) (hb : Below w.heap.size w X) {av : Option Addr} {vn vc : Nat} {k : List Nat} {bo : Option Nat} {cap : Nat} (hW : WayAt X (.slice av vn vc) k bo cap) (hlo : ∀ g, bo = some g → w.heap.size ≤ g) (hk : ∀ x ∈ k, x < 256) (hkl : k.length ≤ 900000) (hway : t = .nil ∨ k.length + 1 + tway t ≤ 900000) : Calls Try.prog 175 #[.func (.func 18) #[.pointer (some ⟨n, 0, none⟩)] #[], .int .i64 f, .slice av vn vc, .func (.func 116) #[] #[]] X (nrPost (.slice av vn vc) k bo cap (prO (k ++ [c]) (tl t).head?) X) := by
  obtain ⟨X1, hX1⟩ : ∃ X1, X1 = X.alloc (.cells #[.slice none 0 0, .int .u64 0] apT) := ⟨_, rfl⟩
  have hA : Below X.heap.size X X1 := by rw [hX1]; exact (Below.refl _ X).alloc (Nat.le_refl _) _
  have hR : ResC X1 X.heap.size := by rw [hX1]; exact resC_new X
  have HR := Lib.hid hR
  have HA := Lib.hid hA
  have HB1 := Lib.hid (hb.trans (hA.mono hb.size))
  have HLO := Lib.hid hlo
  have HNE : Hid (bo ≠ some X.heap.size) := fun e => by have := hW.lt e; omega
  have HXL : Hid (X.heap.size < X1.heap.size) := (Array.getElem?_eq_some_iff.1 hR).1
  have S1 : Hid (WayS X1 (.slice av vn vc) k bo cap (.slice av vn vc) k bo cap X1) := WayS.start (hW.below hA)
  have hStep := Lib.hid (hNx X1 HB1.out)
  obtain ⟨kc, hkc⟩ : ∃ kc, kc = k ++ [c] := ⟨_, rfl⟩
  have HKC := Lib.hid hkc
  have hk8 : Hid (∀ x ∈ kc, x < 256) := fun x hx => by
    rw [hkc] at hx
    rcases List.mem_append.1 hx with hx | hx
    · exact hk x hx
    · obtain rfl := List.mem_singleton.1 hx; exact hc
  have hEnd : Hid (∀ X2 v2 bo2 cap2, Below w.heap.size w X2 → (∀ g, bo2 = some g → w.heap.size ≤ g) → WayAt X2 v2 kc bo2 cap2 → Calls Try.prog 116 #[.pointer a, v2] X2 (nrPost v2 kc bo2 cap2 (prO kc (tl t).head?) X2)) := fun X2 v2 bo2 cap2 h1 h2 h3 =>
    near_least hQ hT hO hC h1 h3 h2 hk8.out (hway.imp id fun h => by rw [hkc, List.length_append, List.length_singleton]; exact h)
  have h1m : Hid (1 ≤ 1000000) := by show _ ≤ _; omega
  have hkL : Hid (k.length ≤ 1000000) := by show _ ≤ _; omega
  rw [← hkc]
  generalize hOe : prO kc (tl t).head? = O at *
  clear hQ hNx hT hO hC hc hb hW hlo hk hkl hway hA hR hOe hkc
  go_enter Try.func175, Try.ntmps175
  go_upto_region 1 with fail
  rw [← hX1]
  clear hX1
  go_wp2_with (first
    | (go_at_call 116; go_loud (refine hE3.out.mono ?_); rintro e w4 ⟨a4, m4, c4, rfl, s4, m4m, k4⟩
       go_loud (have S4 := S3.out.told m4m k4)
       have hrr : ResC w4 X.heap.size := (S4.block HXL.out HNE.out).trans HR.out
       obtain ⟨r0, r1, r2, r3⟩ := hrr.facts
       go_loud (obtain ⟨y0, y1, q⟩ := nr_tell S4 HA.out HR.out (Nat.le_refl _) HNE.out (o := O) (a := a4) (m := m4) (c := c4) s4 (y := (O.getD ([], 0)).2) rfl (b := O.isSome) rfl rfl)
       have q := Lib.hid q
       clear hrr S4 s4 m4m k4)
    | (at_builtin; have hg5 := hNews2; go_loud (refine wpList_append_way (v := .slice av vn vc) rfl (.tmp 20) (.tmp 22) rfl rfl S2.out.way ⟨w2.heap.size, 0, none⟩ 1 1 [c] rfl rfl hNews2.out hkL.out h1m.out ?_); intro v3 w3 bo3 cap3 HW HG HM HK
       have q1 := S2.out.app HW.out HG.out HM.out HK.out
       rw [← HKC.out] at q1
       have S3 := Lib.hid q1
       have q2 := q1.since HB1.out HLO.out
       have hE3 := Lib.hid (hEnd.out w3 v3 bo3 cap3 q2.1 q2.2 q1.way)
       clear q1 q2 HW HG HM HK)
    | (go_at_call 18; refine hStep.out.mono ?_; rintro e w2 ⟨rfl, b2⟩
       have S2 := Lib.hid ((S1.out.below b2).below ((Below.refl _ w2).alloc (Nat.le_refl _) (.cells #[.int .u8 (c : Nat)] 5)))
       have hNews2 := Lib.hid (news_alloc w2 [.int .u8 (c : Nat)] 5)
       clear b2))
  (try simp only [Exit.inBlock, Exit.then])
  exact bodyPost_ret (v := .tuple #[.agg #[.slice a4 m4 c4, .int .u64 (O.getD ([], 0)).2], .bool O.isSome]) (by simp [results, Try.results175, go_sem, y0, y1]) rfl q.out

set_option maxHeartbeats 2000000 in
set_option maxRecDepth 100000 in
theorem beside_prev {w0 w X : World} {Q : List NP} (hQ : StoreP NoB w0 w Q) {n c : Nat} {f : Int} {t : Tr} {a : Option Addr} (hNx : ∀ X2, Below w.heap.size w X2 → Calls Try.prog 19 #[.pointer (some ⟨n, 0, none⟩), .int .i64 f] X2 fun e w' => e = .returned (.tuple #[.int .u8 (c : Nat), .pointer a]) ∧ Below X2.heap.size X2 w') (hT : TreeV Q t (.pointer a)) (hO : TOk t) (hC : Can t) (hc : c < 256) (hb : Below w.heap.size w X) {av : Option Addr} {vn vc : Nat} {k : List Nat} {bo : Option Nat} {cap : Nat} (hW : WayAt X (.slice av vn vc) k bo cap) (hlo : ∀ g, bo = some g → w.heap.size ≤ g) (hk : ∀ x ∈ k, x < 256) (hkl : k.length ≤ 900000) (hway : t = .nil ∨ k.length + 1 + tway t ≤ 900000) : Calls Try.prog 175 #[.func (.func 19) #[.pointer (some ⟨n, 0, none⟩)] #[], .int .i64 f, .slice av vn vc, .func (.func 118) #[] #[]] X (nrPost (.slice av vn vc) k bo cap (prO (k ++ [c]) (tl t).getLast?) X) := by
  obtain ⟨X1, hX1⟩ : ∃ X1, X1 = X.alloc (.cells #[.slice none 0 0, .int .u64 0] apT) := ⟨_, rfl⟩
  have hA : Below X.heap.size X X1 := by rw [hX1]; exact (Below.refl _ X).alloc (Nat.le_refl _) _
  have hR : ResC X1 X.heap.size := by rw [hX1]; exact resC_new X
  have HR := Lib.hid hR
  have HA := Lib.hid hA
  have HB1 := Lib.hid (hb.trans (hA.mono hb.size))
  have HLO := Lib.hid hlo
  have HNE : Hid (bo ≠ some X.heap.size) := fun e => by have := hW.lt e; omega
  have HXL : Hid (X.heap.size < X1.heap.size) := (Array.getElem?_eq_some_iff.1 hR).1
  have S1 : Hid (WayS X1 (.slice av vn vc) k bo cap (.slice av vn vc) k bo cap X1) := WayS.start (hW.below hA)
  have hStep := Lib.hid (hNx X1 HB1.out)
  obtain ⟨kc, hkc⟩ : ∃ kc, kc = k ++ [c] := ⟨_, rfl⟩
  have HKC := Lib.hid hkc
  have hk8 : Hid (∀ x ∈ kc, x < 256) := fun x hx => by
    rw [hkc] at hx
    rcases List.mem_append.1 hx with hx | hx
    · exact hk x hx
    · obtain rfl := List.mem_singleton.1 hx; exact hc
  have hEnd : Hid (∀ X2 v2 bo2 cap2, Below w.heap.size w X2 → (∀ g, bo2 = some g → w.heap.size ≤ g) → WayAt X2 v2 kc bo2 cap2 → Calls Try.prog 118 #[.pointer a, v2] X2 (nrPost v2 kc bo2 cap2 (prO kc (tl t).getLast?) X2)) := fun X2 v2 bo2 cap2 h1 h2 h3 =>
    near_most hQ hT hO hC h1 h3 h2 hk8.out (hway.imp id fun h => by rw [hkc, List.length_append, List.length_singleton]; exact h)
  have h1m : Hid (1 ≤ 1000000) := by show _ ≤ _; omega
  have hkL : Hid (k.length ≤ 1000000) := by show _ ≤ _; omega
  rw [← hkc]
  generalize hOe : prO kc (tl t).getLast? = O at *
  clear hQ hNx hT hO hC hc hb hW hlo hk hkl hway hA hR hOe hkc
  go_enter Try.func175, Try.ntmps175
  go_upto_region 1 with fail
  rw [← hX1]
  clear hX1
  go_wp2_with (first
    | (go_at_call 118; go_loud (refine hE3.out.mono ?_); rintro e w4 ⟨a4, m4, c4, rfl, s4, m4m, k4⟩
       go_loud (have S4 := S3.out.told m4m k4)
       have hrr : ResC w4 X.heap.size := (S4.block HXL.out HNE.out).trans HR.out
       obtain ⟨r0, r1, r2, r3⟩ := hrr.facts
       go_loud (obtain ⟨y0, y1, q⟩ := nr_tell S4 HA.out HR.out (Nat.le_refl _) HNE.out (o := O) (a := a4) (m := m4) (c := c4) s4 (y := (O.getD ([], 0)).2) rfl (b := O.isSome) rfl rfl)
       have q := Lib.hid q
       clear hrr S4 s4 m4m k4)
    | (at_builtin; have hg5 := hNews2; go_loud (refine wpList_append_way (v := .slice av vn vc) rfl (.tmp 20) (.tmp 22) rfl rfl S2.out.way ⟨w2.heap.size, 0, none⟩ 1 1 [c] rfl rfl hNews2.out hkL.out h1m.out ?_); intro v3 w3 bo3 cap3 HW HG HM HK
       have q1 := S2.out.app HW.out HG.out HM.out HK.out
       rw [← HKC.out] at q1
       have S3 := Lib.hid q1
       have q2 := q1.since HB1.out HLO.out
       have hE3 := Lib.hid (hEnd.out w3 v3 bo3 cap3 q2.1 q2.2 q1.way)
       clear q1 q2 HW HG HM HK)
    | (go_at_call 19; refine hStep.out.mono ?_; rintro e w2 ⟨rfl, b2⟩
       have S2 := Lib.hid ((S1.out.below b2).below ((Below.refl _ w2).alloc (Nat.le_refl _) (.cells #[.int .u8 (c : Nat)] 5)))
       have hNews2 := Lib.hid (news_alloc w2 [.int .u8 (c : Nat)] 5)
       clear b2))
  (try simp only [Exit.inBlock, Exit.then])
  exact bodyPost_ret (v := .tuple #[.agg #[.slice a4 m4 c4, .int .u64 (O.getD ([], 0)).2], .bool O.isSome]) (by simp [results, Try.results175, go_sem, y0, y1]) rfl q.out
end Go.Proofs.Ytkonbldjmcccmaa
/- near.up and near.down where a node's part is not gone through. -/
namespace Go.Proofs.Ytkonbldjmcccmaa
open Go.RowKit
abbrev skT : Nat := 131
theorem WayS.reset {X1 wr : World} {v0 v : Value} {k0 k : List Nat} {bo0 bo : Option Nat} {cap0 cap : Nat} (h : WayS X1 v0 k0 bo0 cap0 v k bo cap wr) : WayS X1 v0 k0 bo0 cap0 v0 k0 bo0 cap0 wr := by
  refine ⟨h.base, h.base, ?_, h.mod, h.lt0⟩
  cases bo0 with
  | none => exact Or.inr (Or.inl rfl)
  | some g => exact Or.inl ⟨rfl, rfl, by simp, List.prefix_refl _⟩
/-- the world behind a seeker's first lines: its box, and the result's cells -/
structure SkW (s : Bool) (X X1 : World) : Prop where
  since : Below X.heap.size X X1
  res : ResC X1 (X.heap.size + 1)
  box : X1.heap[X.heap.size]? = some (.cells [.bool s].toArray skT (0, 0))
theorem skw_new (s : Bool) (X : World) : SkW s X ((X.alloc (.cells #[.bool s] skT)).alloc (.cells #[.slice none 0 0, .int .u64 0] apT)) := by
  have h1 : (X.alloc (.cells #[.bool s] skT)).heap.size = X.heap.size + 1 := World.size_alloc _ _
  refine ⟨((Below.refl _ X).alloc (Nat.le_refl _) _).alloc (by simp) _, ?_, ?_⟩
  · have := resC_new (X.alloc (.cells #[.bool s] skT))
    rw [h1] at this
    exact this
  · rw [Below.heap_alloc _ _ _ (by simp)]
    exact heap_alloc_new X _
theorem SkW.lt {s : Bool} {X X1 : World} (h : SkW s X X1) : X.heap.size + 1 < X1.heap.size := (Array.getElem?_eq_some_iff.1 h.res).1
theorem part_is {w X : World} {n : Nat} {bs : List Nat} {val : Int} {has leaf : Bool} {q m : Nat} {kk : KV} (h : NodeW w n bs val has leaf q kk) (hb : Below w.heap.size w X) (hm : m = bs.length) : Calls Try.prog 32 #[.pointer (some ⟨n, 0, none⟩)] X fun e w' => e = .returned (.slice (some ⟨X.heap.size, 0, none⟩) m m) ∧ Sl w' (some ⟨X.heap.size, 0, none⟩) m m bs ∧ Below X.heap.size X w' := by
  have := h.part X hb
  unfold partAt at this
  rw [← hm] at this
  exact this
set_option maxHeartbeats 4000000 in
set_option maxRecDepth 100000 in
theorem up_lt_w {w0 w X : World} {Q : List NP} (hQ : StoreP NoB w0 w Q) (s : Bool) {n : Nat} {bs : List Nat} {val : Int} {has leaf : Bool} {ks : Tr} {kk : KV} (hN : NodeW w n bs val has leaf (chain ks).length kk) (hT : TreeV Q (.node bs val has leaf ks) (.pointer (some ⟨n, 0, none⟩))) (hO : TOk (.node bs val has leaf ks)) (hC : Can (.node bs val has leaf ks)) (hb : Below w.heap.size w X) {v : Value} {k : List Nat} {bo : Option Nat} {cap : Nat} (hW : WayAt X v k bo cap) (hlo : ∀ g, bo = some g → w.heap.size ≤ g) (hk : ∀ x ∈ k, x < 256) (hway : k.length + bs.length + tway ks ≤ 900000) {ka : Option Addr} {kn kc : Nat} {key : List Nat} (hK : Sl w ka kn kc key) (hkn : kn ≤ 1000) {l : Nat} (hl : lcp bs key = l) (h1 : l < bs.length)
    (h2 : l < kn) (h3 : bs.getD l 0 < key.getD l 0)
    : Calls Try.prog 121 #[.agg #[.bool s], .pointer (some ⟨n, 0, none⟩), v, .slice ka kn kc] X (nrPost v k bo cap
      none
      X) := by
  obtain ⟨X1, hX1⟩ : ∃ X1, X1 = (X.alloc (.cells #[.bool s] skT)).alloc (.cells #[.slice none 0 0, .int .u64 0] apT) := ⟨_, rfl⟩
  have hSk : SkW s X X1 := by rw [hX1]; exact skw_new s X
  have HS := Lib.hid hSk
  have HA := Lib.hid hSk.since
  have HR := Lib.hid hSk.res
  have HB1 := Lib.hid (hb.trans (hSk.since.mono hb.size))
  have HLO := Lib.hid hlo
  have HNE : Hid (bo ≠ some (X.heap.size + 1)) := fun e => by have := hW.lt e; omega
  have HXL : Hid (X.heap.size + 1 < X1.heap.size) := hSk.lt
  have S0 : Hid (WayS X1 v k bo cap v k bo cap X1) := WayS.start (hW.below hSk.since)
  obtain ⟨m, hm⟩ : ∃ m, m = bs.length := ⟨_, rfl⟩
  have hPart := Lib.hid (part_is hN HB1.out hm)
  have hHM : Hid (bs.length = m) := hm.symm
  have hkl : Hid (k.length ≤ 1000000) := by show _ ≤ _; omega
  have hbl : Hid (bs.length ≤ 1000000) := by show _ ≤ _; omega
  rw [← hm] at h1
  have HK := Lib.hid hK
  have hmm : m ≤ 1000000 := by omega
  have HMM := Lib.hid hmm
  have hCm : Hid (∀ X2 b d, Below w.heap.size w X2 → Sl X2 b m d bs → d ≤ maxLen → Calls Try.prog 174 #[.slice b m d, .slice ka kn kc] X2 fun e w' => e = .returned (.int .i64 (l : Nat)) ∧ Below X2.heap.size X2 w') := fun X2 b d q1 q2 q3 =>
    (keys_common X2 b ka m d kn kc bs key q2.at_ (hK.below q1).at_ q2.len hK.len (Nat.le_trans q2.cap q3) (Nat.le_trans hK.cap hK.capm)).mono fun e w' ⟨e1, q, e2⟩ => ⟨by rw [e1, hl], by rw [e2]; exact below_drewN (Below.refl _ _) q⟩
  have j1 : (l : Int) < (m : Int) := by omega
  have j0 : (0 : Int) ≤ (l : Int) := by omega
  have j2 : (l : Int) < (kn : Int) := by omega
  obtain ⟨pk, rfl, y1, y2⟩ := hK.at_.2 l (by rw [hK.len]; exact h2)
  generalize hB : bs.getD l 0 = B at *
  generalize hCe : key.getD l 0 = C at *
  have j3 : (B : Int) < (C : Int) := by omega
  have hBc : Hid (∀ X2 g d, Sl X2 (some ⟨g, 0, none⟩) m d bs → X2.cell? ⟨g, l, none⟩ = some (.int .u8 (B : Nat))) := fun X2 g d q => by
    obtain ⟨p, e, _, q2⟩ := q.at_.2 l (by rw [← hm]; exact h1)
    cases e
    rw [add0] at q2
    rw [q2, hB]
  have hCc : Hid (∀ X2, Below w.heap.size w X2 → X2.cell? (pk.add l) = some (.int .u8 (C : Nat))) := fun X2 q => (q.cell y1).trans y2
  clear hB hCe y1 y2
  clear hQ hN hT hO hC hb hW hlo hk hway hK hl hSk hm
  (try clear hOe)
  go_enter Try.func121, Try.ntmps121
  go_upto_region 1 with fail
  rw [← hX1]
  clear hX1
  go_upto_region 6 with (first
    | (at_builtin; have hg := S2; go_loud (refine wpList_append_way rfl (.tmp 26) (.tmp 27) rfl rfl S2.out.way ⟨X1.heap.size, 0, none⟩ m m bs hHM.out rfl hnews.out hkl.out hbl.out ?_); intro v3 w3 bo3 cap3 HW HG HM HKp
       have q1 := S2.out.app HW.out HG.out HM.out HKp.out
       have S3 := Lib.hid q1
       have B3 := Lib.hid (q1.since HB1.out HLO.out).1
       have P3 := Lib.hid (sl_mod P2.out HM.out (fun p e q => by cases e; have := S2.out.lt0 _ q; exact absurd this (Nat.lt_irrefl _)))
       clear q1 HW HG HM HKp)
    | (go_at_call 174; refine (hCm.out _ _ _ B1.out P1.out (by unfold maxLen; have := HMM.out; omega)).mono ?_; rintro e w2 ⟨rfl, z2⟩
       have S2 := Lib.hid (S1.out.below z2)
       have P2 := Lib.hid (P1.out.below z2)
       have hnews := Lib.hid (sl_news P2.out (Below.refl _ w2))
       clear z2)
    | (go_at_call 32; refine hPart.out.mono ?_; rintro e w1 ⟨rfl, s1, b1⟩
       have S1 := Lib.hid (S0.out.below b1)
       have P1 := Lib.hid s1
       have B1 := Lib.hid (HB1.out.trans (b1.mono HB1.out.size))
       clear s1 b1))
  have f1 := hBc.out w3 _ _ P3.out
  have f2 := hCc.out w3 B3.out
  clear hnews hPart hCm S0 S1 S2 P1 P2
  go_quiet (fail)
  have S4 : Hid (WayS X1 v k bo cap v3 (k ++ bs) bo3 cap3 (w3.drewN nq)) := S3.out.below (below_drewN (Below.refl _ _) nq)
  have B4 : Hid (Below w.heap.size w (w3.drewN nq)) := below_drewN B3.out nq
  generalize w3.drewN nq = w4 at *
  clear S3 B3 P3
  have hrr : ResC w4 (X.heap.size + 1) := (S4.out.block HXL.out HNE.out).trans HR.out
  obtain ⟨r0, r1, r2, r3⟩ := hrr.facts
  obtain ⟨c0, c1, q⟩ := nr_tell S4.out HA.out HR.out (by omega) HNE.out (o := none) (a := none) (m := 0) (c := 0) (sl_nil _) (y := 0) rfl (b := false) rfl rfl
  have q := Lib.hid q
  clear hrr
  go_wp2_with fail
  (try simp only [Exit.inBlock, Exit.then])
  exact bodyPost_ret (v := .tuple #[.agg #[.slice none 0 0, .int .u64 0], .bool false]) (by simp [results, Try.results121, go_sem, c0, c1]) rfl q.out

set_option maxHeartbeats 4000000 in
set_option maxRecDepth 100000 in
theorem up_ge_w {w0 w X : World} {Q : List NP} (hQ : StoreP NoB w0 w Q) (s : Bool) {n : Nat} {bs : List Nat} {val : Int} {has leaf : Bool} {ks : Tr} {kk : KV} (hN : NodeW w n bs val has leaf (chain ks).length kk) (hT : TreeV Q (.node bs val has leaf ks) (.pointer (some ⟨n, 0, none⟩))) (hO : TOk (.node bs val has leaf ks)) (hC : Can (.node bs val has leaf ks)) (hb : Below w.heap.size w X) {v : Value} {k : List Nat} {bo : Option Nat} {cap : Nat} (hW : WayAt X v k bo cap) (hlo : ∀ g, bo = some g → w.heap.size ≤ g) (hk : ∀ x ∈ k, x < 256) (hway : k.length + bs.length + tway ks ≤ 900000) {ka : Option Addr} {kn kc : Nat} {key : List Nat} (hK : Sl w ka kn kc key) (hkn : kn ≤ 1000) {l : Nat} (hl : lcp bs key = l) (h1 : l < bs.length)
    (h2 : l < kn) (h3 : ¬ bs.getD l 0 < key.getD l 0)
    : Calls Try.prog 121 #[.agg #[.bool s], .pointer (some ⟨n, 0, none⟩), v, .slice ka kn kc] X (nrPost v k bo cap
      (prO k (tl (.node bs val has leaf ks)).head?)
      X) := by
  obtain ⟨X1, hX1⟩ : ∃ X1, X1 = (X.alloc (.cells #[.bool s] skT)).alloc (.cells #[.slice none 0 0, .int .u64 0] apT) := ⟨_, rfl⟩
  have hSk : SkW s X X1 := by rw [hX1]; exact skw_new s X
  have HS := Lib.hid hSk
  have HA := Lib.hid hSk.since
  have HR := Lib.hid hSk.res
  have HB1 := Lib.hid (hb.trans (hSk.since.mono hb.size))
  have HLO := Lib.hid hlo
  have HNE : Hid (bo ≠ some (X.heap.size + 1)) := fun e => by have := hW.lt e; omega
  have HXL : Hid (X.heap.size + 1 < X1.heap.size) := hSk.lt
  have S0 : Hid (WayS X1 v k bo cap v k bo cap X1) := WayS.start (hW.below hSk.since)
  obtain ⟨m, hm⟩ : ∃ m, m = bs.length := ⟨_, rfl⟩
  have hPart := Lib.hid (part_is hN HB1.out hm)
  have hHM : Hid (bs.length = m) := hm.symm
  have hkl : Hid (k.length ≤ 1000000) := by show _ ≤ _; omega
  have hbl : Hid (bs.length ≤ 1000000) := by show _ ≤ _; omega
  rw [← hm] at h1
  have HK := Lib.hid hK
  have hmm : m ≤ 1000000 := by omega
  have HMM := Lib.hid hmm
  have hCm : Hid (∀ X2 b d, Below w.heap.size w X2 → Sl X2 b m d bs → d ≤ maxLen → Calls Try.prog 174 #[.slice b m d, .slice ka kn kc] X2 fun e w' => e = .returned (.int .i64 (l : Nat)) ∧ Below X2.heap.size X2 w') := fun X2 b d q1 q2 q3 =>
    (keys_common X2 b ka m d kn kc bs key q2.at_ (hK.below q1).at_ q2.len hK.len (Nat.le_trans q2.cap q3) (Nat.le_trans hK.cap hK.capm)).mono fun e w' ⟨e1, q, e2⟩ => ⟨by rw [e1, hl], by rw [e2]; exact below_drewN (Below.refl _ _) q⟩
  have j1 : (l : Int) < (m : Int) := by omega
  have j0 : (0 : Int) ≤ (l : Int) := by omega
  have hEnd : Hid (∀ X2, Below w.heap.size w X2 → WayAt X2 v k bo cap → _) := fun X2 q1 q2 => near_least hQ hT hO hC q1 q2 hlo hk (Or.inr (by simp only [tway]; omega))
  generalize hOe : prO k (tl (.node bs val has leaf ks)).head? = O at *
  have j2 : (l : Int) < (kn : Int) := by omega
  obtain ⟨pk, rfl, y1, y2⟩ := hK.at_.2 l (by rw [hK.len]; exact h2)
  generalize hB : bs.getD l 0 = B at *
  generalize hCe : key.getD l 0 = C at *
  have j3 : ¬ (B : Int) < (C : Int) := by omega
  have hBc : Hid (∀ X2 g d, Sl X2 (some ⟨g, 0, none⟩) m d bs → X2.cell? ⟨g, l, none⟩ = some (.int .u8 (B : Nat))) := fun X2 g d q => by
    obtain ⟨p, e, _, q2⟩ := q.at_.2 l (by rw [← hm]; exact h1)
    cases e
    rw [add0] at q2
    rw [q2, hB]
  have hCc : Hid (∀ X2, Below w.heap.size w X2 → X2.cell? (pk.add l) = some (.int .u8 (C : Nat))) := fun X2 q => (q.cell y1).trans y2
  clear hB hCe y1 y2
  clear hQ hN hT hO hC hb hW hlo hk hway hK hl hSk hm
  (try clear hOe)
  go_enter Try.func121, Try.ntmps121
  go_upto_region 1 with fail
  rw [← hX1]
  clear hX1
  go_upto_region 6 with (first
    | (at_builtin; have hg := S2; go_loud (refine wpList_append_way rfl (.tmp 26) (.tmp 27) rfl rfl S2.out.way ⟨X1.heap.size, 0, none⟩ m m bs hHM.out rfl hnews.out hkl.out hbl.out ?_); intro v3 w3 bo3 cap3 HW HG HM HKp
       have q1 := S2.out.app HW.out HG.out HM.out HKp.out
       have S3 := Lib.hid q1
       have B3 := Lib.hid (q1.since HB1.out HLO.out).1
       have P3 := Lib.hid (sl_mod P2.out HM.out (fun p e q => by cases e; have := S2.out.lt0 _ q; exact absurd this (Nat.lt_irrefl _)))
       clear q1 HW HG HM HKp)
    | (go_at_call 174; refine (hCm.out _ _ _ B1.out P1.out (by unfold maxLen; have := HMM.out; omega)).mono ?_; rintro e w2 ⟨rfl, z2⟩
       have S2 := Lib.hid (S1.out.below z2)
       have P2 := Lib.hid (P1.out.below z2)
       have hnews := Lib.hid (sl_news P2.out (Below.refl _ w2))
       clear z2)
    | (go_at_call 32; refine hPart.out.mono ?_; rintro e w1 ⟨rfl, s1, b1⟩
       have S1 := Lib.hid (S0.out.below b1)
       have P1 := Lib.hid s1
       have B1 := Lib.hid (HB1.out.trans (b1.mono HB1.out.size))
       clear s1 b1))
  have f1 := hBc.out w3 _ _ P3.out
  have f2 := hCc.out w3 B3.out
  clear hnews hPart hCm S0 S1 S2 P1 P2
  go_quiet (fail)
  have S4 : Hid (WayS X1 v k bo cap v3 (k ++ bs) bo3 cap3 (w3.drewN nq)) := S3.out.below (below_drewN (Below.refl _ _) nq)
  have B4 : Hid (Below w.heap.size w (w3.drewN nq)) := below_drewN B3.out nq
  generalize w3.drewN nq = w4 at *
  clear S3 B3 P3
  have hrr : ResC w4 (X.heap.size + 1) := (S4.out.block HXL.out HNE.out).trans HR.out
  obtain ⟨r0, r1, r2, r3⟩ := hrr.facts
  have hE4 := Lib.hid (hEnd.out w4 B4.out S4.out.base)
  clear hrr
  go_wp2_with (first
    | (go_at_call 116; refine hE4.out.mono ?_; rintro e w5 ⟨a5, m5, c5, rfl, s5, z1, z2⟩
       have S5 := S4.out.reset.told z1 z2
       have hrr : ResC w5 (X.heap.size + 1) := (S5.block HXL.out HNE.out).trans HR.out
       obtain ⟨r0, r1, r2, r3⟩ := hrr.facts
       obtain ⟨y0, y1, q⟩ := nr_tell S5 HA.out HR.out (by omega) HNE.out (o := O) (a := a5) (m := m5) (c := c5) s5 (y := (O.getD ([], 0)).2) rfl (b := O.isSome) rfl rfl
       have q := Lib.hid q
       clear hrr S5 s5 z1 z2))
  (try simp only [Exit.inBlock, Exit.then])
  exact bodyPost_ret (v := .tuple #[.agg #[.slice a5 m5 c5, .int .u64 (O.getD ([], 0)).2], .bool O.isSome]) (by simp [results, Try.results121, go_sem, y0, y1]) rfl q.out

set_option maxHeartbeats 4000000 in
set_option maxRecDepth 100000 in
theorem up_end_w {w0 w X : World} {Q : List NP} (hQ : StoreP NoB w0 w Q) (s : Bool) {n : Nat} {bs : List Nat} {val : Int} {has leaf : Bool} {ks : Tr} {kk : KV} (hN : NodeW w n bs val has leaf (chain ks).length kk) (hT : TreeV Q (.node bs val has leaf ks) (.pointer (some ⟨n, 0, none⟩))) (hO : TOk (.node bs val has leaf ks)) (hC : Can (.node bs val has leaf ks)) (hb : Below w.heap.size w X) {v : Value} {k : List Nat} {bo : Option Nat} {cap : Nat} (hW : WayAt X v k bo cap) (hlo : ∀ g, bo = some g → w.heap.size ≤ g) (hk : ∀ x ∈ k, x < 256) (hway : k.length + bs.length + tway ks ≤ 900000) {ka : Option Addr} {kn kc : Nat} {key : List Nat} (hK : Sl w ka kn kc key) (hkn : kn ≤ 1000) {l : Nat} (hl : lcp bs key = l) (h1 : l < bs.length)
    (h2 : ¬ l < kn)
    : Calls Try.prog 121 #[.agg #[.bool s], .pointer (some ⟨n, 0, none⟩), v, .slice ka kn kc] X (nrPost v k bo cap
      (prO k (tl (.node bs val has leaf ks)).head?)
      X) := by
  obtain ⟨X1, hX1⟩ : ∃ X1, X1 = (X.alloc (.cells #[.bool s] skT)).alloc (.cells #[.slice none 0 0, .int .u64 0] apT) := ⟨_, rfl⟩
  have hSk : SkW s X X1 := by rw [hX1]; exact skw_new s X
  have HS := Lib.hid hSk
  have HA := Lib.hid hSk.since
  have HR := Lib.hid hSk.res
  have HB1 := Lib.hid (hb.trans (hSk.since.mono hb.size))
  have HLO := Lib.hid hlo
  have HNE : Hid (bo ≠ some (X.heap.size + 1)) := fun e => by have := hW.lt e; omega
  have HXL : Hid (X.heap.size + 1 < X1.heap.size) := hSk.lt
  have S0 : Hid (WayS X1 v k bo cap v k bo cap X1) := WayS.start (hW.below hSk.since)
  obtain ⟨m, hm⟩ : ∃ m, m = bs.length := ⟨_, rfl⟩
  have hPart := Lib.hid (part_is hN HB1.out hm)
  have hHM : Hid (bs.length = m) := hm.symm
  have hkl : Hid (k.length ≤ 1000000) := by show _ ≤ _; omega
  have hbl : Hid (bs.length ≤ 1000000) := by show _ ≤ _; omega
  rw [← hm] at h1
  have HK := Lib.hid hK
  have hmm : m ≤ 1000000 := by omega
  have HMM := Lib.hid hmm
  have hCm : Hid (∀ X2 b d, Below w.heap.size w X2 → Sl X2 b m d bs → d ≤ maxLen → Calls Try.prog 174 #[.slice b m d, .slice ka kn kc] X2 fun e w' => e = .returned (.int .i64 (l : Nat)) ∧ Below X2.heap.size X2 w') := fun X2 b d q1 q2 q3 =>
    (keys_common X2 b ka m d kn kc bs key q2.at_ (hK.below q1).at_ q2.len hK.len (Nat.le_trans q2.cap q3) (Nat.le_trans hK.cap hK.capm)).mono fun e w' ⟨e1, q, e2⟩ => ⟨by rw [e1, hl], by rw [e2]; exact below_drewN (Below.refl _ _) q⟩
  have j1 : (l : Int) < (m : Int) := by omega
  have j0 : (0 : Int) ≤ (l : Int) := by omega
  have hEnd : Hid (∀ X2, Below w.heap.size w X2 → WayAt X2 v k bo cap → _) := fun X2 q1 q2 => near_least hQ hT hO hC q1 q2 hlo hk (Or.inr (by simp only [tway]; omega))
  generalize hOe : prO k (tl (.node bs val has leaf ks)).head? = O at *
  have j2 : ¬ (l : Int) < (kn : Int) := by omega
  have j2' : decide ((l : Int) < (kn : Int)) = false := by simpa using j2
  clear hQ hN hT hO hC hb hW hlo hk hway hK hl hSk hm
  (try clear hOe)
  go_enter Try.func121, Try.ntmps121
  go_upto_region 1 with fail
  rw [← hX1]
  clear hX1
  go_upto_region 6 with (first
    | (at_builtin; have hg := S2; go_loud (refine wpList_append_way rfl (.tmp 26) (.tmp 27) rfl rfl S2.out.way ⟨X1.heap.size, 0, none⟩ m m bs hHM.out rfl hnews.out hkl.out hbl.out ?_); intro v3 w3 bo3 cap3 HW HG HM HKp
       have q1 := S2.out.app HW.out HG.out HM.out HKp.out
       have S3 := Lib.hid q1
       have B3 := Lib.hid (q1.since HB1.out HLO.out).1
       have P3 := Lib.hid (sl_mod P2.out HM.out (fun p e q => by cases e; have := S2.out.lt0 _ q; exact absurd this (Nat.lt_irrefl _)))
       clear q1 HW HG HM HKp)
    | (go_at_call 174; refine (hCm.out _ _ _ B1.out P1.out (by unfold maxLen; have := HMM.out; omega)).mono ?_; rintro e w2 ⟨rfl, z2⟩
       have S2 := Lib.hid (S1.out.below z2)
       have P2 := Lib.hid (P1.out.below z2)
       have hnews := Lib.hid (sl_news P2.out (Below.refl _ w2))
       clear z2)
    | (go_at_call 32; refine hPart.out.mono ?_; rintro e w1 ⟨rfl, s1, b1⟩
       have S1 := Lib.hid (S0.out.below b1)
       have P1 := Lib.hid s1
       have B1 := Lib.hid (HB1.out.trans (b1.mono HB1.out.size))
       clear s1 b1))
  clear hnews hPart hCm S0 S1 S2 P1 P2
  go_quiet (fail)
  have S4 : Hid (WayS X1 v k bo cap v3 (k ++ bs) bo3 cap3 (w3.drewN nq)) := S3.out.below (below_drewN (Below.refl _ _) nq)
  have B4 : Hid (Below w.heap.size w (w3.drewN nq)) := below_drewN B3.out nq
  generalize w3.drewN nq = w4 at *
  clear S3 B3 P3
  have hrr : ResC w4 (X.heap.size + 1) := (S4.out.block HXL.out HNE.out).trans HR.out
  obtain ⟨r0, r1, r2, r3⟩ := hrr.facts
  have hE4 := Lib.hid (hEnd.out w4 B4.out S4.out.base)
  clear hrr
  go_wp2_with (first
    | (go_at_call 116; refine hE4.out.mono ?_; rintro e w5 ⟨a5, m5, c5, rfl, s5, z1, z2⟩
       have S5 := S4.out.reset.told z1 z2
       have hrr : ResC w5 (X.heap.size + 1) := (S5.block HXL.out HNE.out).trans HR.out
       obtain ⟨r0, r1, r2, r3⟩ := hrr.facts
       obtain ⟨y0, y1, q⟩ := nr_tell S5 HA.out HR.out (by omega) HNE.out (o := O) (a := a5) (m := m5) (c := c5) s5 (y := (O.getD ([], 0)).2) rfl (b := O.isSome) rfl rfl
       have q := Lib.hid q
       clear hrr S5 s5 z1 z2))
  (try simp only [Exit.inBlock, Exit.then])
  exact bodyPost_ret (v := .tuple #[.agg #[.slice a5 m5 c5, .int .u64 (O.getD ([], 0)).2], .bool O.isSome]) (by simp [results, Try.results121, go_sem, y0, y1]) rfl q.out

set_option maxHeartbeats 4000000 in
set_option maxRecDepth 100000 in
theorem down_lt_w {w0 w X : World} {Q : List NP} (hQ : StoreP NoB w0 w Q) (s : Bool) {n : Nat} {bs : List Nat} {val : Int} {has leaf : Bool} {ks : Tr} {kk : KV} (hN : NodeW w n bs val has leaf (chain ks).length kk) (hT : TreeV Q (.node bs val has leaf ks) (.pointer (some ⟨n, 0, none⟩))) (hO : TOk (.node bs val has leaf ks)) (hC : Can (.node bs val has leaf ks)) (hb : Below w.heap.size w X) {v : Value} {k : List Nat} {bo : Option Nat} {cap : Nat} (hW : WayAt X v k bo cap) (hlo : ∀ g, bo = some g → w.heap.size ≤ g) (hk : ∀ x ∈ k, x < 256) (hway : k.length + bs.length + tway ks ≤ 900000) {ka : Option Addr} {kn kc : Nat} {key : List Nat} (hK : Sl w ka kn kc key) (hkn : kn ≤ 1000) {l : Nat} (hl : lcp bs key = l) (h1 : l < bs.length)
    (h2 : l < kn) (h3 : bs.getD l 0 < key.getD l 0)
    : Calls Try.prog 119 #[.agg #[.bool s], .pointer (some ⟨n, 0, none⟩), v, .slice ka kn kc] X (nrPost v k bo cap
      (prO k (tl (.node bs val has leaf ks)).getLast?)
      X) := by
  obtain ⟨X1, hX1⟩ : ∃ X1, X1 = (X.alloc (.cells #[.bool s] skT)).alloc (.cells #[.slice none 0 0, .int .u64 0] apT) := ⟨_, rfl⟩
  have hSk : SkW s X X1 := by rw [hX1]; exact skw_new s X
  have HS := Lib.hid hSk
  have HA := Lib.hid hSk.since
  have HR := Lib.hid hSk.res
  have HB1 := Lib.hid (hb.trans (hSk.since.mono hb.size))
  have HLO := Lib.hid hlo
  have HNE : Hid (bo ≠ some (X.heap.size + 1)) := fun e => by have := hW.lt e; omega
  have HXL : Hid (X.heap.size + 1 < X1.heap.size) := hSk.lt
  have S0 : Hid (WayS X1 v k bo cap v k bo cap X1) := WayS.start (hW.below hSk.since)
  obtain ⟨m, hm⟩ : ∃ m, m = bs.length := ⟨_, rfl⟩
  have hPart := Lib.hid (part_is hN HB1.out hm)
  have hHM : Hid (bs.length = m) := hm.symm
  have hkl : Hid (k.length ≤ 1000000) := by show _ ≤ _; omega
  have hbl : Hid (bs.length ≤ 1000000) := by show _ ≤ _; omega
  rw [← hm] at h1
  have HK := Lib.hid hK
  have hmm : m ≤ 1000000 := by omega
  have HMM := Lib.hid hmm
  have hCm : Hid (∀ X2 b d, Below w.heap.size w X2 → Sl X2 b m d bs → d ≤ maxLen → Calls Try.prog 174 #[.slice b m d, .slice ka kn kc] X2 fun e w' => e = .returned (.int .i64 (l : Nat)) ∧ Below X2.heap.size X2 w') := fun X2 b d q1 q2 q3 =>
    (keys_common X2 b ka m d kn kc bs key q2.at_ (hK.below q1).at_ q2.len hK.len (Nat.le_trans q2.cap q3) (Nat.le_trans hK.cap hK.capm)).mono fun e w' ⟨e1, q, e2⟩ => ⟨by rw [e1, hl], by rw [e2]; exact below_drewN (Below.refl _ _) q⟩
  have j1 : (l : Int) < (m : Int) := by omega
  have j0 : (0 : Int) ≤ (l : Int) := by omega
  have hEnd : Hid (∀ X2, Below w.heap.size w X2 → WayAt X2 v k bo cap → _) := fun X2 q1 q2 => near_most hQ hT hO hC q1 q2 hlo hk (Or.inr (by simp only [tway]; omega))
  generalize hOe : prO k (tl (.node bs val has leaf ks)).getLast? = O at *
  have j2 : (l : Int) < (kn : Int) := by omega
  obtain ⟨pk, rfl, y1, y2⟩ := hK.at_.2 l (by rw [hK.len]; exact h2)
  generalize hB : bs.getD l 0 = B at *
  generalize hCe : key.getD l 0 = C at *
  have j3 : (B : Int) < (C : Int) := by omega
  have hBc : Hid (∀ X2 g d, Sl X2 (some ⟨g, 0, none⟩) m d bs → X2.cell? ⟨g, l, none⟩ = some (.int .u8 (B : Nat))) := fun X2 g d q => by
    obtain ⟨p, e, _, q2⟩ := q.at_.2 l (by rw [← hm]; exact h1)
    cases e
    rw [add0] at q2
    rw [q2, hB]
  have hCc : Hid (∀ X2, Below w.heap.size w X2 → X2.cell? (pk.add l) = some (.int .u8 (C : Nat))) := fun X2 q => (q.cell y1).trans y2
  clear hB hCe y1 y2
  clear hQ hN hT hO hC hb hW hlo hk hway hK hl hSk hm
  (try clear hOe)
  go_enter Try.func119, Try.ntmps119
  go_upto_region 1 with fail
  rw [← hX1]
  clear hX1
  go_upto_region 6 with (first
    | (at_builtin; have hg := S2; go_loud (refine wpList_append_way rfl (.tmp 26) (.tmp 27) rfl rfl S2.out.way ⟨X1.heap.size, 0, none⟩ m m bs hHM.out rfl hnews.out hkl.out hbl.out ?_); intro v3 w3 bo3 cap3 HW HG HM HKp
       have q1 := S2.out.app HW.out HG.out HM.out HKp.out
       have S3 := Lib.hid q1
       have B3 := Lib.hid (q1.since HB1.out HLO.out).1
       have P3 := Lib.hid (sl_mod P2.out HM.out (fun p e q => by cases e; have := S2.out.lt0 _ q; exact absurd this (Nat.lt_irrefl _)))
       clear q1 HW HG HM HKp)
    | (go_at_call 174; refine (hCm.out _ _ _ B1.out P1.out (by unfold maxLen; have := HMM.out; omega)).mono ?_; rintro e w2 ⟨rfl, z2⟩
       have S2 := Lib.hid (S1.out.below z2)
       have P2 := Lib.hid (P1.out.below z2)
       have hnews := Lib.hid (sl_news P2.out (Below.refl _ w2))
       clear z2)
    | (go_at_call 32; refine hPart.out.mono ?_; rintro e w1 ⟨rfl, s1, b1⟩
       have S1 := Lib.hid (S0.out.below b1)
       have P1 := Lib.hid s1
       have B1 := Lib.hid (HB1.out.trans (b1.mono HB1.out.size))
       clear s1 b1))
  have f1 := hBc.out w3 _ _ P3.out
  have f2 := hCc.out w3 B3.out
  clear hnews hPart hCm S0 S1 S2 P1 P2
  go_quiet (fail)
  have S4 : Hid (WayS X1 v k bo cap v3 (k ++ bs) bo3 cap3 (w3.drewN nq)) := S3.out.below (below_drewN (Below.refl _ _) nq)
  have B4 : Hid (Below w.heap.size w (w3.drewN nq)) := below_drewN B3.out nq
  generalize w3.drewN nq = w4 at *
  clear S3 B3 P3
  have hrr : ResC w4 (X.heap.size + 1) := (S4.out.block HXL.out HNE.out).trans HR.out
  obtain ⟨r0, r1, r2, r3⟩ := hrr.facts
  have hE4 := Lib.hid (hEnd.out w4 B4.out S4.out.base)
  clear hrr
  go_wp2_with (first
    | (go_at_call 118; refine hE4.out.mono ?_; rintro e w5 ⟨a5, m5, c5, rfl, s5, z1, z2⟩
       have S5 := S4.out.reset.told z1 z2
       have hrr : ResC w5 (X.heap.size + 1) := (S5.block HXL.out HNE.out).trans HR.out
       obtain ⟨r0, r1, r2, r3⟩ := hrr.facts
       obtain ⟨y0, y1, q⟩ := nr_tell S5 HA.out HR.out (by omega) HNE.out (o := O) (a := a5) (m := m5) (c := c5) s5 (y := (O.getD ([], 0)).2) rfl (b := O.isSome) rfl rfl
       have q := Lib.hid q
       clear hrr S5 s5 z1 z2))
  (try simp only [Exit.inBlock, Exit.then])
  exact bodyPost_ret (v := .tuple #[.agg #[.slice a5 m5 c5, .int .u64 (O.getD ([], 0)).2], .bool O.isSome]) (by simp [results, Try.results119, go_sem, y0, y1]) rfl q.out

set_option maxHeartbeats 4000000 in
set_option maxRecDepth 100000 in
theorem down_ge_w {w0 w X : World} {Q : List NP} (hQ : StoreP NoB w0 w Q) (s : Bool) {n : Nat} {bs : List Nat} {val : Int} {has leaf : Bool} {ks : Tr} {kk : KV} (hN : NodeW w n bs val has leaf (chain ks).length kk) (hT : TreeV Q (.node bs val has leaf ks) (.pointer (some ⟨n, 0, none⟩))) (hO : TOk (.node bs val has leaf ks)) (hC : Can (.node bs val has leaf ks)) (hb : Below w.heap.size w X) {v : Value} {k : List Nat} {bo : Option Nat} {cap : Nat} (hW : WayAt X v k bo cap) (hlo : ∀ g, bo = some g → w.heap.size ≤ g) (hk : ∀ x ∈ k, x < 256) (hway : k.length + bs.length + tway ks ≤ 900000) {ka : Option Addr} {kn kc : Nat} {key : List Nat} (hK : Sl w ka kn kc key) (hkn : kn ≤ 1000) {l : Nat} (hl : lcp bs key = l) (h1 : l < bs.length)
    (h2 : l < kn) (h3 : ¬ bs.getD l 0 < key.getD l 0)
    : Calls Try.prog 119 #[.agg #[.bool s], .pointer (some ⟨n, 0, none⟩), v, .slice ka kn kc] X (nrPost v k bo cap
      none
      X) := by
  obtain ⟨X1, hX1⟩ : ∃ X1, X1 = (X.alloc (.cells #[.bool s] skT)).alloc (.cells #[.slice none 0 0, .int .u64 0] apT) := ⟨_, rfl⟩
  have hSk : SkW s X X1 := by rw [hX1]; exact skw_new s X
  have HS := Lib.hid hSk
  have HA := Lib.hid hSk.since
  have HR := Lib.hid hSk.res
  have HB1 := Lib.hid (hb.trans (hSk.since.mono hb.size))
  have HLO := Lib.hid hlo
  have HNE : Hid (bo ≠ some (X.heap.size + 1)) := fun e => by have := hW.lt e; omega
  have HXL : Hid (X.heap.size + 1 < X1.heap.size) := hSk.lt
  have S0 : Hid (WayS X1 v k bo cap v k bo cap X1) := WayS.start (hW.below hSk.since)
  obtain ⟨m, hm⟩ : ∃ m, m = bs.length := ⟨_, rfl⟩
  have hPart := Lib.hid (part_is hN HB1.out hm)
  have hHM : Hid (bs.length = m) := hm.symm
  have hkl : Hid (k.length ≤ 1000000) := by show _ ≤ _; omega
  have hbl : Hid (bs.length ≤ 1000000) := by show _ ≤ _; omega
  rw [← hm] at h1
  have HK := Lib.hid hK
  have hmm : m ≤ 1000000 := by omega
  have HMM := Lib.hid hmm
  have hCm : Hid (∀ X2 b d, Below w.heap.size w X2 → Sl X2 b m d bs → d ≤ maxLen → Calls Try.prog 174 #[.slice b m d, .slice ka kn kc] X2 fun e w' => e = .returned (.int .i64 (l : Nat)) ∧ Below X2.heap.size X2 w') := fun X2 b d q1 q2 q3 =>
    (keys_common X2 b ka m d kn kc bs key q2.at_ (hK.below q1).at_ q2.len hK.len (Nat.le_trans q2.cap q3) (Nat.le_trans hK.cap hK.capm)).mono fun e w' ⟨e1, q, e2⟩ => ⟨by rw [e1, hl], by rw [e2]; exact below_drewN (Below.refl _ _) q⟩
  have j1 : (l : Int) < (m : Int) := by omega
  have j0 : (0 : Int) ≤ (l : Int) := by omega
  have j2 : (l : Int) < (kn : Int) := by omega
  obtain ⟨pk, rfl, y1, y2⟩ := hK.at_.2 l (by rw [hK.len]; exact h2)
  generalize hB : bs.getD l 0 = B at *
  generalize hCe : key.getD l 0 = C at *
  have j3 : ¬ (B : Int) < (C : Int) := by omega
  have hBc : Hid (∀ X2 g d, Sl X2 (some ⟨g, 0, none⟩) m d bs → X2.cell? ⟨g, l, none⟩ = some (.int .u8 (B : Nat))) := fun X2 g d q => by
    obtain ⟨p, e, _, q2⟩ := q.at_.2 l (by rw [← hm]; exact h1)
    cases e
    rw [add0] at q2
    rw [q2, hB]
  have hCc : Hid (∀ X2, Below w.heap.size w X2 → X2.cell? (pk.add l) = some (.int .u8 (C : Nat))) := fun X2 q => (q.cell y1).trans y2
  clear hB hCe y1 y2
  clear hQ hN hT hO hC hb hW hlo hk hway hK hl hSk hm
  (try clear hOe)
  go_enter Try.func119, Try.ntmps119
  go_upto_region 1 with fail
  rw [← hX1]
  clear hX1
  go_upto_region 6 with (first
    | (at_builtin; have hg := S2; go_loud (refine wpList_append_way rfl (.tmp 26) (.tmp 27) rfl rfl S2.out.way ⟨X1.heap.size, 0, none⟩ m m bs hHM.out rfl hnews.out hkl.out hbl.out ?_); intro v3 w3 bo3 cap3 HW HG HM HKp
       have q1 := S2.out.app HW.out HG.out HM.out HKp.out
       have S3 := Lib.hid q1
       have B3 := Lib.hid (q1.since HB1.out HLO.out).1
       have P3 := Lib.hid (sl_mod P2.out HM.out (fun p e q => by cases e; have := S2.out.lt0 _ q; exact absurd this (Nat.lt_irrefl _)))
       clear q1 HW HG HM HKp)
    | (go_at_call 174; refine (hCm.out _ _ _ B1.out P1.out (by unfold maxLen; have := HMM.out; omega)).mono ?_; rintro e w2 ⟨rfl, z2⟩
       have S2 := Lib.hid (S1.out.below z2)
       have P2 := Lib.hid (P1.out.below z2)
       have hnews := Lib.hid (sl_news P2.out (Below.refl _ w2))
       clear z2)
    | (go_at_call 32; refine hPart.out.mono ?_; rintro e w1 ⟨rfl, s1, b1⟩
       have S1 := Lib.hid (S0.out.below b1)
       have P1 := Lib.hid s1
       have B1 := Lib.hid (HB1.out.trans (b1.mono HB1.out.size))
       clear s1 b1))
  have f1 := hBc.out w3 _ _ P3.out
  have f2 := hCc.out w3 B3.out
  clear hnews hPart hCm S0 S1 S2 P1 P2
  go_quiet (fail)
  have S4 : Hid (WayS X1 v k bo cap v3 (k ++ bs) bo3 cap3 (w3.drewN nq)) := S3.out.below (below_drewN (Below.refl _ _) nq)
  have B4 : Hid (Below w.heap.size w (w3.drewN nq)) := below_drewN B3.out nq
  generalize w3.drewN nq = w4 at *
  clear S3 B3 P3
  have hrr : ResC w4 (X.heap.size + 1) := (S4.out.block HXL.out HNE.out).trans HR.out
  obtain ⟨r0, r1, r2, r3⟩ := hrr.facts
  obtain ⟨c0, c1, q⟩ := nr_tell S4.out HA.out HR.out (by omega) HNE.out (o := none) (a := none) (m := 0) (c := 0) (sl_nil _) (y := 0) rfl (b := false) rfl rfl
  have q := Lib.hid q
  clear hrr
  go_wp2_with fail
  (try simp only [Exit.inBlock, Exit.then])
  exact bodyPost_ret (v := .tuple #[.agg #[.slice none 0 0, .int .u64 0], .bool false]) (by simp [results, Try.results119, go_sem, c0, c1]) rfl q.out

set_option maxHeartbeats 4000000 in
set_option maxRecDepth 100000 in
theorem down_end_w {w0 w X : World} {Q : List NP} (hQ : StoreP NoB w0 w Q) (s : Bool) {n : Nat} {bs : List Nat} {val : Int} {has leaf : Bool} {ks : Tr} {kk : KV} (hN : NodeW w n bs val has leaf (chain ks).length kk) (hT : TreeV Q (.node bs val has leaf ks) (.pointer (some ⟨n, 0, none⟩))) (hO : TOk (.node bs val has leaf ks)) (hC : Can (.node bs val has leaf ks)) (hb : Below w.heap.size w X) {v : Value} {k : List Nat} {bo : Option Nat} {cap : Nat} (hW : WayAt X v k bo cap) (hlo : ∀ g, bo = some g → w.heap.size ≤ g) (hk : ∀ x ∈ k, x < 256) (hway : k.length + bs.length + tway ks ≤ 900000) {ka : Option Addr} {kn kc : Nat} {key : List Nat} (hK : Sl w ka kn kc key) (hkn : kn ≤ 1000) {l : Nat} (hl : lcp bs key = l) (h1 : l < bs.length)
    (h2 : ¬ l < kn)
    : Calls Try.prog 119 #[.agg #[.bool s], .pointer (some ⟨n, 0, none⟩), v, .slice ka kn kc] X (nrPost v k bo cap
      none
      X) := by
  obtain ⟨X1, hX1⟩ : ∃ X1, X1 = (X.alloc (.cells #[.bool s] skT)).alloc (.cells #[.slice none 0 0, .int .u64 0] apT) := ⟨_, rfl⟩
  have hSk : SkW s X X1 := by rw [hX1]; exact skw_new s X
  have HS := Lib.hid hSk
  have HA := Lib.hid hSk.since
  have HR := Lib.hid hSk.res
  have HB1 := Lib.hid (hb.trans (hSk.since.mono hb.size))
  have HLO := Lib.hid hlo
  have HNE : Hid (bo ≠ some (X.heap.size + 1)) := fun e => by have := hW.lt e; omega
  have HXL : Hid (X.heap.size + 1 < X1.heap.size) := hSk.lt
  have S0 : Hid (WayS X1 v k bo cap v k bo cap X1) := WayS.start (hW.below hSk.since)
  obtain ⟨m, hm⟩ : ∃ m, m = bs.length := ⟨_, rfl⟩
  have hPart := Lib.hid (part_is hN HB1.out hm)
  have hHM : Hid (bs.length = m) := hm.symm
  have hkl : Hid (k.length ≤ 1000000) := by show _ ≤ _; omega
  have hbl : Hid (bs.length ≤ 1000000) := by show _ ≤ _; omega
  rw [← hm] at h1
  have HK := Lib.hid hK
  have hmm : m ≤ 1000000 := by omega
  have HMM := Lib.hid hmm
  have hCm : Hid (∀ X2 b d, Below w.heap.size w X2 → Sl X2 b m d bs → d ≤ maxLen → Calls Try.prog 174 #[.slice b m d, .slice ka kn kc] X2 fun e w' => e = .returned (.int .i64 (l : Nat)) ∧ Below X2.heap.size X2 w') := fun X2 b d q1 q2 q3 =>
    (keys_common X2 b ka m d kn kc bs key q2.at_ (hK.below q1).at_ q2.len hK.len (Nat.le_trans q2.cap q3) (Nat.le_trans hK.cap hK.capm)).mono fun e w' ⟨e1, q, e2⟩ => ⟨by rw [e1, hl], by rw [e2]; exact below_drewN (Below.refl _ _) q⟩
  have j1 : (l : Int) < (m : Int) := by omega
  have j0 : (0 : Int) ≤ (l : Int) := by omega
  have j2 : ¬ (l : Int) < (kn : Int) := by omega
  have j2' : decide ((l : Int) < (kn : Int)) = false := by simpa using j2
  clear hQ hN hT hO hC hb hW hlo hk hway hK hl hSk hm
  (try clear hOe)
  go_enter Try.func119, Try.ntmps119
  go_upto_region 1 with fail
  rw [← hX1]
  clear hX1
  go_upto_region 6 with (first
    | (at_builtin; have hg := S2; go_loud (refine wpList_append_way rfl (.tmp 26) (.tmp 27) rfl rfl S2.out.way ⟨X1.heap.size, 0, none⟩ m m bs hHM.out rfl hnews.out hkl.out hbl.out ?_); intro v3 w3 bo3 cap3 HW HG HM HKp
       have q1 := S2.out.app HW.out HG.out HM.out HKp.out
       have S3 := Lib.hid q1
       have B3 := Lib.hid (q1.since HB1.out HLO.out).1
       have P3 := Lib.hid (sl_mod P2.out HM.out (fun p e q => by cases e; have := S2.out.lt0 _ q; exact absurd this (Nat.lt_irrefl _)))
       clear q1 HW HG HM HKp)
    | (go_at_call 174; refine (hCm.out _ _ _ B1.out P1.out (by unfold maxLen; have := HMM.out; omega)).mono ?_; rintro e w2 ⟨rfl, z2⟩
       have S2 := Lib.hid (S1.out.below z2)
       have P2 := Lib.hid (P1.out.below z2)
       have hnews := Lib.hid (sl_news P2.out (Below.refl _ w2))
       clear z2)
    | (go_at_call 32; refine hPart.out.mono ?_; rintro e w1 ⟨rfl, s1, b1⟩
       have S1 := Lib.hid (S0.out.below b1)
       have P1 := Lib.hid s1
       have B1 := Lib.hid (HB1.out.trans (b1.mono HB1.out.size))
       clear s1 b1))
  clear hnews hPart hCm S0 S1 S2 P1 P2
  go_quiet (fail)
  have S4 : Hid (WayS X1 v k bo cap v3 (k ++ bs) bo3 cap3 (w3.drewN nq)) := S3.out.below (below_drewN (Below.refl _ _) nq)
  have B4 : Hid (Below w.heap.size w (w3.drewN nq)) := below_drewN B3.out nq
  generalize w3.drewN nq = w4 at *
  clear S3 B3 P3
  have hrr : ResC w4 (X.heap.size + 1) := (S4.out.block HXL.out HNE.out).trans HR.out
  obtain ⟨r0, r1, r2, r3⟩ := hrr.facts
  obtain ⟨c0, c1, q⟩ := nr_tell S4.out HA.out HR.out (by omega) HNE.out (o := none) (a := none) (m := 0) (c := 0) (sl_nil _) (y := 0) rfl (b := false) rfl rfl
  have q := Lib.hid q
  clear hrr
  go_wp2_with fail
  (try simp only [Exit.inBlock, Exit.then])
  exact bodyPost_ret (v := .tuple #[.agg #[.slice none 0 0, .int .u64 0], .bool false]) (by simp [results, Try.results119, go_sem, c0, c1]) rfl q.out
end Go.Proofs.Ytkonbldjmcccmaa
/- near.up and near.down where the key ends with the part. -/
namespace Go.Proofs.Ytkonbldjmcccmaa
open Go.RowKit
set_option maxHeartbeats 8000000 in
set_option maxRecDepth 100000 in
theorem upAt_ft {w0 w X : World} {Q : List NP} (hQ : StoreP NoB w0 w Q) {n : Nat} {bs : List Nat} {val : Int} {leaf : Bool} {ks : Tr} {kk : KV} (hN : NodeW w n bs val true leaf (chain ks).length kk) (hKs : TreeIn Q 0 ks (.pointer none) kk) (o6 : IsK ks) (o7 : TOk ks) (hC : Can ks) (hb8 : ∀ x ∈ bs, x < 256) (hb : Below w.heap.size w X) {v : Value} {k : List Nat} {bo : Option Nat} {cap : Nat} (hW : WayAt X v k bo cap) (hlo : ∀ g, bo = some g → w.heap.size ≤ g) (hk : ∀ x ∈ k, x < 256) (hway : k.length + bs.length + tway ks ≤ 900000) {ka : Option Addr} {kn kc : Nat} {key : List Nat} (hK : Sl w ka kn kc key) (hkn : kn ≤ 1000) (hl : lcp bs key = bs.length) (hkb0 : kn = bs.length) : Calls Try.prog 121 #[.agg #[.bool false], .pointer (some ⟨n, 0, none⟩), v, .slice ka kn kc] X (nrPost v k bo cap (some (k ++ bs, val)) X) := by
  obtain ⟨X1, hX1⟩ : ∃ X1, X1 = (X.alloc (.cells #[.bool false] skT)).alloc (.cells #[.slice none 0 0, .int .u64 0] apT) := ⟨_, rfl⟩
  have hSk : SkW false X X1 := by rw [hX1]; exact skw_new false X
  have HS := Lib.hid hSk
  have HA := Lib.hid hSk.since
  have HR := Lib.hid hSk.res
  have HB1 := Lib.hid (hb.trans (hSk.since.mono hb.size))
  have HLO := Lib.hid hlo
  have HNE : Hid (bo ≠ some (X.heap.size + 1)) := fun e => by have := hW.lt e; omega
  have HNE0 : Hid (bo ≠ some X.heap.size) := fun e => by have := hW.lt e; omega
  have HXL : Hid (X.heap.size + 1 < X1.heap.size) := hSk.lt
  have S0 : Hid (WayS X1 v k bo cap v k bo cap X1) := WayS.start (hW.below hSk.since)
  obtain ⟨m, hm⟩ : ∃ m, m = bs.length := ⟨_, rfl⟩
  have hPart := Lib.hid (part_is hN HB1.out hm)
  have hHM : Hid (bs.length = m) := hm.symm
  have hkl : Hid (k.length ≤ 1000000) := by show _ ≤ _; omega
  have hbl : Hid (bs.length ≤ 1000000) := by show _ ≤ _; omega
  have HK := Lib.hid hK
  have hmm : m ≤ 1000000 := by omega
  have HMM := Lib.hid hmm
  have h1m : Hid (1 ≤ 1000000) := by show _ ≤ _; omega
  obtain ⟨kb, hkb⟩ : ∃ kb, kb = k ++ bs := ⟨_, rfl⟩
  have HKB := Lib.hid hkb
  have hkb8 : Hid (∀ x ∈ kb, x < 256) := fun x hx => by
    rw [hkb] at hx
    rcases List.mem_append.1 hx with hx | hx
    · exact hk x hx
    · exact hb8 x hx
  have hkbl : Hid (kb.length + tway ks ≤ 900000) := by show _ ≤ _; rw [hkb, List.length_append]; exact hway
  have hkbL : Hid (kb.length ≤ 1000000) := by show _ ≤ _; have := hkbl.out; omega
  have HQ := Lib.hid hQ
  have HN := Lib.hid hN
  have hCm : Hid (∀ X2 b d, Below w.heap.size w X2 → Sl X2 b m d bs → d ≤ maxLen → Calls Try.prog 174 #[.slice b m d, .slice ka kn kc] X2 fun e w' => e = .returned (.int .i64 (m : Nat)) ∧ Below X2.heap.size X2 w') := fun X2 b d q1 q2 q3 =>
    (keys_common X2 b ka m d kn kc bs key q2.at_ (hK.below q1).at_ q2.len hK.len (Nat.le_trans q2.cap q3) (Nat.le_trans hK.cap hK.capm)).mono fun e w' ⟨e1, q, e2⟩ => ⟨by rw [e1, hl, ← hm], by rw [e2]; exact below_drewN (Below.refl _ _) q⟩
  obtain rfl : m = kn := by omega
  rw [← hkb]
  clear hQ hN hb8 hb hW hlo hk hway hK hl hSk hm hkb
  clear hKs o6 o7 hC hkb0
  go_enter Try.func121, Try.ntmps121
  go_upto_region 1 with fail
  rw [← hX1]
  clear hX1
  go_upto_region 6 with (first
    | (at_builtin; have hg := S2; go_loud (refine wpList_append_way rfl (.tmp 26) (.tmp 27) rfl rfl S2.out.way ⟨X1.heap.size, 0, none⟩ m m bs hHM.out rfl hnews.out hkl.out hbl.out ?_); intro v3 w3 bo3 cap3 HW HG HM HKp
       have q1 := S2.out.app HW.out HG.out HM.out HKp.out
       rw [← HKB.out] at q1
       have S3 := Lib.hid q1
       obtain ⟨a3, hv3, sl3⟩ := q1.way.sl hkb8.out
       subst hv3
       have SL3 := Lib.hid sl3
       clear q1 sl3 HW HG HM HKp)
    | (go_at_call 174; refine (hCm.out _ _ _ B1.out P1.out (by unfold maxLen; have := HMM.out; omega)).mono ?_; rintro e w2 ⟨rfl, z2⟩
       have S2 := Lib.hid (S1.out.below z2)
       have hnews := Lib.hid (sl_news (P1.out.below z2) (Below.refl _ w2))
       clear z2)
    | (go_at_call 32; refine hPart.out.mono ?_; rintro e w1 ⟨rfl, s1, b1⟩
       have S1 := Lib.hid (S0.out.below b1)
       have P1 := Lib.hid s1
       have B1 := Lib.hid (HB1.out.trans (b1.mono HB1.out.size))
       clear s1 b1))
  clear hnews hPart hCm S0 S1 S2 P1
  go_quiet (fail)
  have S4 : Hid (WayS X1 v k bo cap (.slice a3 kb.length cap3) kb bo3 cap3 (w3.drewN nq)) := S3.out.below (below_drewN (Below.refl _ _) nq)
  have SL4 : Hid (Sl (w3.drewN nq) a3 kb.length cap3 kb) := SL3.out.drewN nq
  generalize w3.drewN nq = w4 at *
  clear S3 SL3
  have B4 := Lib.hid (S4.out.since HB1.out HLO.out).1
  have BO4 := Lib.hid (S4.out.since HB1.out HLO.out).2
  have hrr : ResC w4 (X.heap.size + 1) := (S4.out.block HXL.out HNE.out).trans HR.out
  obtain ⟨r0, r1, r2, r3⟩ := hrr.facts
  have sk : w4.cell? ⟨X.heap.size, 0, none⟩ = some (.bool false) := by rw [cell_of_blk ((S4.out.block (by have := HXL.out; omega) HNE0.out).trans HS.out.box)]; rfl
  clear hrr
  have hOwn := Lib.hid (own_some HN.out B4.out)
  go_wp2_with (first
    | (go_at_call 173; refine (hOwn.out _ _ _).mono ?_; rintro e w5 ⟨rfl, b5⟩
       have hA5 : Below w4.heap.size w4 (w5.alloc (.cells #[.slice a3 kb.length cap3, .int .u64 val] apT)) := b5.alloc b5.size _
       have S5 := S4.out.below hA5
       have hrr : ResC (w5.alloc (.cells #[.slice a3 kb.length cap3, .int .u64 val] apT)) (X.heap.size + 1) := (S5.block HXL.out HNE.out).trans HR.out
       have sk5 : (w5.alloc (.cells #[.slice a3 kb.length cap3, .int .u64 val] apT)).cell? ⟨X.heap.size, 0, none⟩ = some (.bool false) := by rw [cell_of_blk ((S5.block (by have := HXL.out; omega) HNE0.out).trans HS.out.box)]; rfl
       obtain ⟨x0, x1, x2, x3⟩ := hrr.facts
       obtain ⟨c0, c1, q⟩ := nr_tell S5 HA.out HR.out (by omega) HNE.out (o := some (kb, val)) (a := a3) (m := kb.length) (c := cap3) (SL4.out.below hA5) (y := val) rfl (b := true) rfl rfl
       have q := Lib.hid q
       clear hrr hA5 S5 b5))
  (try simp only [Exit.inBlock, Exit.then])
  exact bodyPost_ret (v := .tuple #[.agg #[.slice a3 kb.length cap3, .int .u64 val], .bool true]) (by simp [results, Try.results121, go_sem, c0, c1]) rfl q.out
set_option maxHeartbeats 8000000 in
set_option maxRecDepth 100000 in
theorem upAt_tt {w0 w X : World} {Q : List NP} (hQ : StoreP NoB w0 w Q) {n : Nat} {bs : List Nat} {val : Int} {leaf : Bool} {ks : Tr} {kk : KV} (hN : NodeW w n bs val true leaf (chain ks).length kk) (hKs : TreeIn Q 0 ks (.pointer none) kk) (o6 : IsK ks) (o7 : TOk ks) (hC : Can ks) (hb8 : ∀ x ∈ bs, x < 256) (hb : Below w.heap.size w X) {v : Value} {k : List Nat} {bo : Option Nat} {cap : Nat} (hW : WayAt X v k bo cap) (hlo : ∀ g, bo = some g → w.heap.size ≤ g) (hk : ∀ x ∈ k, x < 256) (hway : k.length + bs.length + tway ks ≤ 900000) {ka : Option Addr} {kn kc : Nat} {key : List Nat} (hK : Sl w ka kn kc key) (hkn : kn ≤ 1000) (hl : lcp bs key = bs.length) (hkb0 : kn = bs.length) : Calls Try.prog 121 #[.agg #[.bool true], .pointer (some ⟨n, 0, none⟩), v, .slice ka kn kc] X (nrPost v k bo cap (prO (k ++ bs) (tl ks).head?) X) := by
  obtain ⟨X1, hX1⟩ : ∃ X1, X1 = (X.alloc (.cells #[.bool true] skT)).alloc (.cells #[.slice none 0 0, .int .u64 0] apT) := ⟨_, rfl⟩
  have hSk : SkW true X X1 := by rw [hX1]; exact skw_new true X
  have HS := Lib.hid hSk
  have HA := Lib.hid hSk.since
  have HR := Lib.hid hSk.res
  have HB1 := Lib.hid (hb.trans (hSk.since.mono hb.size))
  have HLO := Lib.hid hlo
  have HNE : Hid (bo ≠ some (X.heap.size + 1)) := fun e => by have := hW.lt e; omega
  have HNE0 : Hid (bo ≠ some X.heap.size) := fun e => by have := hW.lt e; omega
  have HXL : Hid (X.heap.size + 1 < X1.heap.size) := hSk.lt
  have S0 : Hid (WayS X1 v k bo cap v k bo cap X1) := WayS.start (hW.below hSk.since)
  obtain ⟨m, hm⟩ : ∃ m, m = bs.length := ⟨_, rfl⟩
  have hPart := Lib.hid (part_is hN HB1.out hm)
  have hHM : Hid (bs.length = m) := hm.symm
  have hkl : Hid (k.length ≤ 1000000) := by show _ ≤ _; omega
  have hbl : Hid (bs.length ≤ 1000000) := by show _ ≤ _; omega
  have HK := Lib.hid hK
  have hmm : m ≤ 1000000 := by omega
  have HMM := Lib.hid hmm
  have h1m : Hid (1 ≤ 1000000) := by show _ ≤ _; omega
  obtain ⟨kb, hkb⟩ : ∃ kb, kb = k ++ bs := ⟨_, rfl⟩
  have HKB := Lib.hid hkb
  have hkb8 : Hid (∀ x ∈ kb, x < 256) := fun x hx => by
    rw [hkb] at hx
    rcases List.mem_append.1 hx with hx | hx
    · exact hk x hx
    · exact hb8 x hx
  have hkbl : Hid (kb.length + tway ks ≤ 900000) := by show _ ≤ _; rw [hkb, List.length_append]; exact hway
  have hkbL : Hid (kb.length ≤ 1000000) := by show _ ≤ _; have := hkbl.out; omega
  have HQ := Lib.hid hQ
  have HN := Lib.hid hN
  have hCm : Hid (∀ X2 b d, Below w.heap.size w X2 → Sl X2 b m d bs → d ≤ maxLen → Calls Try.prog 174 #[.slice b m d, .slice ka kn kc] X2 fun e w' => e = .returned (.int .i64 (m : Nat)) ∧ Below X2.heap.size X2 w') := fun X2 b d q1 q2 q3 =>
    (keys_common X2 b ka m d kn kc bs key q2.at_ (hK.below q1).at_ q2.len hK.len (Nat.le_trans q2.cap q3) (Nat.le_trans hK.cap hK.capm)).mono fun e w' ⟨e1, q, e2⟩ => ⟨by rw [e1, hl, ← hm], by rw [e2]; exact below_drewN (Below.refl _ _) q⟩
  obtain rfl : m = kn := by omega
  obtain ⟨c, t2, a, q1, q2, q3, q4, q5, q6, q7, q8⟩ := next_find hKs o7 o6 hC 0
  have hNx : ∀ X2, Below w.heap.size w X2 → Calls Try.prog 18 #[.pointer (some ⟨n, 0, none⟩), .int .i64 0] X2 fun e w' => e = .returned (.tuple #[.int .u8 (c : Nat), .pointer a]) ∧ Below X2.heap.size X2 w' := fun X2 hX => by
    have := HN.out.next X2 0 hX (by omega) (by omega)
    rw [q1] at this
    exact this
  have hOe : prO (kb ++ [c]) (tl t2).head? = prO (k ++ bs) (tl ks).head? := by
    rw [nxt_head (f := 0) o6 o7 hC (fun b t q _ => by omega), q6, hkb]
    simp only [prO_prO, List.append_assoc]
  have hBes : Hid (∀ X2 av vc bo2 cap2, Below w.heap.size w X2 → (∀ g, bo2 = some g → w.heap.size ≤ g) → WayAt X2 (.slice av kb.length vc) kb bo2 cap2 → _) := fun X2 av vc bo2 cap2 z1 z2 z3 => beside_next HQ.out hNx q2 q3 q4 q5 z1 z3 z2 hkb8.out (by have := hkbl.out; omega) (q7.imp id fun h => by have := hkbl.out; omega)
  rw [hOe] at hBes
  generalize prO (k ++ bs) (tl ks).head? = O at *
  clear q1 q2 q3 q4 q5 q6 q7 q8 hNx hOe
  clear hQ hN hb8 hb hW hlo hk hway hK hl hSk hm hkb
  clear hKs o6 o7 hC hkb0
  go_enter Try.func121, Try.ntmps121
  go_upto_region 1 with fail
  rw [← hX1]
  clear hX1
  go_upto_region 6 with (first
    | (at_builtin; have hg := S2; go_loud (refine wpList_append_way rfl (.tmp 26) (.tmp 27) rfl rfl S2.out.way ⟨X1.heap.size, 0, none⟩ m m bs hHM.out rfl hnews.out hkl.out hbl.out ?_); intro v3 w3 bo3 cap3 HW HG HM HKp
       have q1 := S2.out.app HW.out HG.out HM.out HKp.out
       rw [← HKB.out] at q1
       have S3 := Lib.hid q1
       obtain ⟨a3, hv3, sl3⟩ := q1.way.sl hkb8.out
       subst hv3
       have SL3 := Lib.hid sl3
       clear q1 sl3 HW HG HM HKp)
    | (go_at_call 174; refine (hCm.out _ _ _ B1.out P1.out (by unfold maxLen; have := HMM.out; omega)).mono ?_; rintro e w2 ⟨rfl, z2⟩
       have S2 := Lib.hid (S1.out.below z2)
       have hnews := Lib.hid (sl_news (P1.out.below z2) (Below.refl _ w2))
       clear z2)
    | (go_at_call 32; refine hPart.out.mono ?_; rintro e w1 ⟨rfl, s1, b1⟩
       have S1 := Lib.hid (S0.out.below b1)
       have P1 := Lib.hid s1
       have B1 := Lib.hid (HB1.out.trans (b1.mono HB1.out.size))
       clear s1 b1))
  clear hnews hPart hCm S0 S1 S2 P1
  go_quiet (fail)
  have S4 : Hid (WayS X1 v k bo cap (.slice a3 kb.length cap3) kb bo3 cap3 (w3.drewN nq)) := S3.out.below (below_drewN (Below.refl _ _) nq)
  have SL4 : Hid (Sl (w3.drewN nq) a3 kb.length cap3 kb) := SL3.out.drewN nq
  generalize w3.drewN nq = w4 at *
  clear S3 SL3
  have B4 := Lib.hid (S4.out.since HB1.out HLO.out).1
  have BO4 := Lib.hid (S4.out.since HB1.out HLO.out).2
  have hrr : ResC w4 (X.heap.size + 1) := (S4.out.block HXL.out HNE.out).trans HR.out
  obtain ⟨r0, r1, r2, r3⟩ := hrr.facts
  have sk : w4.cell? ⟨X.heap.size, 0, none⟩ = some (.bool true) := by rw [cell_of_blk ((S4.out.block (by have := HXL.out; omega) HNE0.out).trans HS.out.box)]; rfl
  clear hrr
  have hOwn := Lib.hid (own_some HN.out B4.out)
  go_wp2_with (first
    | (go_at_call 175; refine hB5.out.mono ?_; rintro e w6 ⟨a6, m6, c6, rfl, s6, z1, z2⟩
       have S6 := S5.out.told z1 z2
       have hrr : ResC w6 (X.heap.size + 1) := (S6.block HXL.out HNE.out).trans HR.out
       obtain ⟨x0, x1, x2, x3⟩ := hrr.facts
       obtain ⟨c0, c1, q⟩ := nr_tell S6 HA.out HR.out (by omega) HNE.out (o := O) (a := a6) (m := m6) (c := c6) s6 (y := (O.getD ([], 0)).2) rfl (b := O.isSome) rfl rfl
       have q := Lib.hid q
       clear hrr S6 s6 z1 z2)
    | (go_at_call 173; refine (hOwn.out _ _ _).mono ?_; rintro e w5 ⟨rfl, b5⟩
       have hA5 : Below w4.heap.size w4 (w5.alloc (.cells #[.slice a3 kb.length cap3, .int .u64 val] apT)) := b5.alloc b5.size _
       have S5 := Lib.hid (S4.out.below hA5)
       have q5 := S5.out.since HB1.out HLO.out
       have hB5 := Lib.hid (hBes.out _ _ _ _ _ q5.1 q5.2 S5.out.way)
       have sk5 : (w5.alloc (.cells #[.slice a3 kb.length cap3, .int .u64 val] apT)).cell? ⟨X.heap.size, 0, none⟩ = some (.bool true) := by rw [cell_of_blk ((S5.out.block (by have := HXL.out; omega) HNE0.out).trans HS.out.box)]; rfl
       clear hA5 q5 b5))
  (try simp only [Exit.inBlock, Exit.then])
  exact bodyPost_ret (v := .tuple #[.agg #[.slice a6 m6 c6, .int .u64 (O.getD ([], 0)).2], .bool O.isSome]) (by simp [results, Try.results121, go_sem, c0, c1]) rfl q.out
set_option maxHeartbeats 8000000 in
set_option maxRecDepth 100000 in
theorem upAt_tf {w0 w X : World} {Q : List NP} (hQ : StoreP NoB w0 w Q) {n : Nat} {bs : List Nat} {val : Int} {leaf : Bool} {ks : Tr} {kk : KV} (hN : NodeW w n bs val false leaf (chain ks).length kk) (hKs : TreeIn Q 0 ks (.pointer none) kk) (o6 : IsK ks) (o7 : TOk ks) (hC : Can ks) (hb8 : ∀ x ∈ bs, x < 256) (hb : Below w.heap.size w X) {v : Value} {k : List Nat} {bo : Option Nat} {cap : Nat} (hW : WayAt X v k bo cap) (hlo : ∀ g, bo = some g → w.heap.size ≤ g) (hk : ∀ x ∈ k, x < 256) (hway : k.length + bs.length + tway ks ≤ 900000) {ka : Option Addr} {kn kc : Nat} {key : List Nat} (hK : Sl w ka kn kc key) (hkn : kn ≤ 1000) (hl : lcp bs key = bs.length) (hkb0 : kn = bs.length) : Calls Try.prog 121 #[.agg #[.bool true], .pointer (some ⟨n, 0, none⟩), v, .slice ka kn kc] X (nrPost v k bo cap (prO (k ++ bs) (tl ks).head?) X) := by
  obtain ⟨X1, hX1⟩ : ∃ X1, X1 = (X.alloc (.cells #[.bool true] skT)).alloc (.cells #[.slice none 0 0, .int .u64 0] apT) := ⟨_, rfl⟩
  have hSk : SkW true X X1 := by rw [hX1]; exact skw_new true X
  have HS := Lib.hid hSk
  have HA := Lib.hid hSk.since
  have HR := Lib.hid hSk.res
  have HB1 := Lib.hid (hb.trans (hSk.since.mono hb.size))
  have HLO := Lib.hid hlo
  have HNE : Hid (bo ≠ some (X.heap.size + 1)) := fun e => by have := hW.lt e; omega
  have HNE0 : Hid (bo ≠ some X.heap.size) := fun e => by have := hW.lt e; omega
  have HXL : Hid (X.heap.size + 1 < X1.heap.size) := hSk.lt
  have S0 : Hid (WayS X1 v k bo cap v k bo cap X1) := WayS.start (hW.below hSk.since)
  obtain ⟨m, hm⟩ : ∃ m, m = bs.length := ⟨_, rfl⟩
  have hPart := Lib.hid (part_is hN HB1.out hm)
  have hHM : Hid (bs.length = m) := hm.symm
  have hkl : Hid (k.length ≤ 1000000) := by show _ ≤ _; omega
  have hbl : Hid (bs.length ≤ 1000000) := by show _ ≤ _; omega
  have HK := Lib.hid hK
  have hmm : m ≤ 1000000 := by omega
  have HMM := Lib.hid hmm
  have h1m : Hid (1 ≤ 1000000) := by show _ ≤ _; omega
  obtain ⟨kb, hkb⟩ : ∃ kb, kb = k ++ bs := ⟨_, rfl⟩
  have HKB := Lib.hid hkb
  have hkb8 : Hid (∀ x ∈ kb, x < 256) := fun x hx => by
    rw [hkb] at hx
    rcases List.mem_append.1 hx with hx | hx
    · exact hk x hx
    · exact hb8 x hx
  have hkbl : Hid (kb.length + tway ks ≤ 900000) := by show _ ≤ _; rw [hkb, List.length_append]; exact hway
  have hkbL : Hid (kb.length ≤ 1000000) := by show _ ≤ _; have := hkbl.out; omega
  have HQ := Lib.hid hQ
  have HN := Lib.hid hN
  have hCm : Hid (∀ X2 b d, Below w.heap.size w X2 → Sl X2 b m d bs → d ≤ maxLen → Calls Try.prog 174 #[.slice b m d, .slice ka kn kc] X2 fun e w' => e = .returned (.int .i64 (m : Nat)) ∧ Below X2.heap.size X2 w') := fun X2 b d q1 q2 q3 =>
    (keys_common X2 b ka m d kn kc bs key q2.at_ (hK.below q1).at_ q2.len hK.len (Nat.le_trans q2.cap q3) (Nat.le_trans hK.cap hK.capm)).mono fun e w' ⟨e1, q, e2⟩ => ⟨by rw [e1, hl, ← hm], by rw [e2]; exact below_drewN (Below.refl _ _) q⟩
  obtain rfl : m = kn := by omega
  obtain ⟨c, t2, a, q1, q2, q3, q4, q5, q6, q7, q8⟩ := next_find hKs o7 o6 hC 0
  have hNx : ∀ X2, Below w.heap.size w X2 → Calls Try.prog 18 #[.pointer (some ⟨n, 0, none⟩), .int .i64 0] X2 fun e w' => e = .returned (.tuple #[.int .u8 (c : Nat), .pointer a]) ∧ Below X2.heap.size X2 w' := fun X2 hX => by
    have := HN.out.next X2 0 hX (by omega) (by omega)
    rw [q1] at this
    exact this
  have hOe : prO (kb ++ [c]) (tl t2).head? = prO (k ++ bs) (tl ks).head? := by
    rw [nxt_head (f := 0) o6 o7 hC (fun b t q _ => by omega), q6, hkb]
    simp only [prO_prO, List.append_assoc]
  have hBes : Hid (∀ X2 av vc bo2 cap2, Below w.heap.size w X2 → (∀ g, bo2 = some g → w.heap.size ≤ g) → WayAt X2 (.slice av kb.length vc) kb bo2 cap2 → _) := fun X2 av vc bo2 cap2 z1 z2 z3 => beside_next HQ.out hNx q2 q3 q4 q5 z1 z3 z2 hkb8.out (by have := hkbl.out; omega) (q7.imp id fun h => by have := hkbl.out; omega)
  rw [hOe] at hBes
  generalize prO (k ++ bs) (tl ks).head? = O at *
  clear q1 q2 q3 q4 q5 q6 q7 q8 hNx hOe
  clear hQ hN hb8 hb hW hlo hk hway hK hl hSk hm hkb
  clear hKs o6 o7 hC hkb0
  go_enter Try.func121, Try.ntmps121
  go_upto_region 1 with fail
  rw [← hX1]
  clear hX1
  go_upto_region 6 with (first
    | (at_builtin; have hg := S2; go_loud (refine wpList_append_way rfl (.tmp 26) (.tmp 27) rfl rfl S2.out.way ⟨X1.heap.size, 0, none⟩ m m bs hHM.out rfl hnews.out hkl.out hbl.out ?_); intro v3 w3 bo3 cap3 HW HG HM HKp
       have q1 := S2.out.app HW.out HG.out HM.out HKp.out
       rw [← HKB.out] at q1
       have S3 := Lib.hid q1
       obtain ⟨a3, hv3, sl3⟩ := q1.way.sl hkb8.out
       subst hv3
       have SL3 := Lib.hid sl3
       clear q1 sl3 HW HG HM HKp)
    | (go_at_call 174; refine (hCm.out _ _ _ B1.out P1.out (by unfold maxLen; have := HMM.out; omega)).mono ?_; rintro e w2 ⟨rfl, z2⟩
       have S2 := Lib.hid (S1.out.below z2)
       have hnews := Lib.hid (sl_news (P1.out.below z2) (Below.refl _ w2))
       clear z2)
    | (go_at_call 32; refine hPart.out.mono ?_; rintro e w1 ⟨rfl, s1, b1⟩
       have S1 := Lib.hid (S0.out.below b1)
       have P1 := Lib.hid s1
       have B1 := Lib.hid (HB1.out.trans (b1.mono HB1.out.size))
       clear s1 b1))
  clear hnews hPart hCm S0 S1 S2 P1
  go_quiet (fail)
  have S4 : Hid (WayS X1 v k bo cap (.slice a3 kb.length cap3) kb bo3 cap3 (w3.drewN nq)) := S3.out.below (below_drewN (Below.refl _ _) nq)
  have SL4 : Hid (Sl (w3.drewN nq) a3 kb.length cap3 kb) := SL3.out.drewN nq
  generalize w3.drewN nq = w4 at *
  clear S3 SL3
  have B4 := Lib.hid (S4.out.since HB1.out HLO.out).1
  have BO4 := Lib.hid (S4.out.since HB1.out HLO.out).2
  have hrr : ResC w4 (X.heap.size + 1) := (S4.out.block HXL.out HNE.out).trans HR.out
  obtain ⟨r0, r1, r2, r3⟩ := hrr.facts
  have sk : w4.cell? ⟨X.heap.size, 0, none⟩ = some (.bool true) := by rw [cell_of_blk ((S4.out.block (by have := HXL.out; omega) HNE0.out).trans HS.out.box)]; rfl
  clear hrr
  have hOwn := Lib.hid (own_none HN.out B4.out)
  go_wp2_with (first
    | (go_at_call 175; refine hB5.out.mono ?_; rintro e w6 ⟨a6, m6, c6, rfl, s6, z1, z2⟩
       have S6 := S5.out.told z1 z2
       have hrr : ResC w6 (X.heap.size + 1) := (S6.block HXL.out HNE.out).trans HR.out
       obtain ⟨x0, x1, x2, x3⟩ := hrr.facts
       obtain ⟨c0, c1, q⟩ := nr_tell S6 HA.out HR.out (by omega) HNE.out (o := O) (a := a6) (m := m6) (c := c6) s6 (y := (O.getD ([], 0)).2) rfl (b := O.isSome) rfl rfl
       have q := Lib.hid q
       clear hrr S6 s6 z1 z2)
    | (go_at_call 173; refine (hOwn.out _ _ _).mono ?_; rintro e w5 ⟨rfl, b5⟩
       have hA5 : Below w4.heap.size w4 (w5.alloc (.cells #[.slice none 0 0, .int .u64 0] apT)) := b5.alloc b5.size _
       have S5 := Lib.hid (S4.out.below hA5)
       have q5 := S5.out.since HB1.out HLO.out
       have hB5 := Lib.hid (hBes.out _ _ _ _ _ q5.1 q5.2 S5.out.way)
       have sk5 : (w5.alloc (.cells #[.slice none 0 0, .int .u64 0] apT)).cell? ⟨X.heap.size, 0, none⟩ = some (.bool true) := by rw [cell_of_blk ((S5.out.block (by have := HXL.out; omega) HNE0.out).trans HS.out.box)]; rfl
       clear hA5 q5 b5))
  (try simp only [Exit.inBlock, Exit.then])
  exact bodyPost_ret (v := .tuple #[.agg #[.slice a6 m6 c6, .int .u64 (O.getD ([], 0)).2], .bool O.isSome]) (by simp [results, Try.results121, go_sem, c0, c1]) rfl q.out
set_option maxHeartbeats 8000000 in
set_option maxRecDepth 100000 in
theorem upAt_ff {w0 w X : World} {Q : List NP} (hQ : StoreP NoB w0 w Q) {n : Nat} {bs : List Nat} {val : Int} {leaf : Bool} {ks : Tr} {kk : KV} (hN : NodeW w n bs val false leaf (chain ks).length kk) (hKs : TreeIn Q 0 ks (.pointer none) kk) (o6 : IsK ks) (o7 : TOk ks) (hC : Can ks) (hb8 : ∀ x ∈ bs, x < 256) (hb : Below w.heap.size w X) {v : Value} {k : List Nat} {bo : Option Nat} {cap : Nat} (hW : WayAt X v k bo cap) (hlo : ∀ g, bo = some g → w.heap.size ≤ g) (hk : ∀ x ∈ k, x < 256) (hway : k.length + bs.length + tway ks ≤ 900000) {ka : Option Addr} {kn kc : Nat} {key : List Nat} (hK : Sl w ka kn kc key) (hkn : kn ≤ 1000) (hl : lcp bs key = bs.length) (hkb0 : kn = bs.length) : Calls Try.prog 121 #[.agg #[.bool false], .pointer (some ⟨n, 0, none⟩), v, .slice ka kn kc] X (nrPost v k bo cap (prO (k ++ bs) (tl ks).head?) X) := by
  obtain ⟨X1, hX1⟩ : ∃ X1, X1 = (X.alloc (.cells #[.bool false] skT)).alloc (.cells #[.slice none 0 0, .int .u64 0] apT) := ⟨_, rfl⟩
  have hSk : SkW false X X1 := by rw [hX1]; exact skw_new false X
  have HS := Lib.hid hSk
  have HA := Lib.hid hSk.since
  have HR := Lib.hid hSk.res
  have HB1 := Lib.hid (hb.trans (hSk.since.mono hb.size))
  have HLO := Lib.hid hlo
  have HNE : Hid (bo ≠ some (X.heap.size + 1)) := fun e => by have := hW.lt e; omega
  have HNE0 : Hid (bo ≠ some X.heap.size) := fun e => by have := hW.lt e; omega
  have HXL : Hid (X.heap.size + 1 < X1.heap.size) := hSk.lt
  have S0 : Hid (WayS X1 v k bo cap v k bo cap X1) := WayS.start (hW.below hSk.since)
  obtain ⟨m, hm⟩ : ∃ m, m = bs.length := ⟨_, rfl⟩
  have hPart := Lib.hid (part_is hN HB1.out hm)
  have hHM : Hid (bs.length = m) := hm.symm
  have hkl : Hid (k.length ≤ 1000000) := by show _ ≤ _; omega
  have hbl : Hid (bs.length ≤ 1000000) := by show _ ≤ _; omega
  have HK := Lib.hid hK
  have hmm : m ≤ 1000000 := by omega
  have HMM := Lib.hid hmm
  have h1m : Hid (1 ≤ 1000000) := by show _ ≤ _; omega
  obtain ⟨kb, hkb⟩ : ∃ kb, kb = k ++ bs := ⟨_, rfl⟩
  have HKB := Lib.hid hkb
  have hkb8 : Hid (∀ x ∈ kb, x < 256) := fun x hx => by
    rw [hkb] at hx
    rcases List.mem_append.1 hx with hx | hx
    · exact hk x hx
    · exact hb8 x hx
  have hkbl : Hid (kb.length + tway ks ≤ 900000) := by show _ ≤ _; rw [hkb, List.length_append]; exact hway
  have hkbL : Hid (kb.length ≤ 1000000) := by show _ ≤ _; have := hkbl.out; omega
  have HQ := Lib.hid hQ
  have HN := Lib.hid hN
  have hCm : Hid (∀ X2 b d, Below w.heap.size w X2 → Sl X2 b m d bs → d ≤ maxLen → Calls Try.prog 174 #[.slice b m d, .slice ka kn kc] X2 fun e w' => e = .returned (.int .i64 (m : Nat)) ∧ Below X2.heap.size X2 w') := fun X2 b d q1 q2 q3 =>
    (keys_common X2 b ka m d kn kc bs key q2.at_ (hK.below q1).at_ q2.len hK.len (Nat.le_trans q2.cap q3) (Nat.le_trans hK.cap hK.capm)).mono fun e w' ⟨e1, q, e2⟩ => ⟨by rw [e1, hl, ← hm], by rw [e2]; exact below_drewN (Below.refl _ _) q⟩
  obtain rfl : m = kn := by omega
  obtain ⟨c, t2, a, q1, q2, q3, q4, q5, q6, q7, q8⟩ := next_find hKs o7 o6 hC 0
  have hNx : ∀ X2, Below w.heap.size w X2 → Calls Try.prog 18 #[.pointer (some ⟨n, 0, none⟩), .int .i64 0] X2 fun e w' => e = .returned (.tuple #[.int .u8 (c : Nat), .pointer a]) ∧ Below X2.heap.size X2 w' := fun X2 hX => by
    have := HN.out.next X2 0 hX (by omega) (by omega)
    rw [q1] at this
    exact this
  have hOe : prO (kb ++ [c]) (tl t2).head? = prO (k ++ bs) (tl ks).head? := by
    rw [nxt_head (f := 0) o6 o7 hC (fun b t q _ => by omega), q6, hkb]
    simp only [prO_prO, List.append_assoc]
  have hBes : Hid (∀ X2 av vc bo2 cap2, Below w.heap.size w X2 → (∀ g, bo2 = some g → w.heap.size ≤ g) → WayAt X2 (.slice av kb.length vc) kb bo2 cap2 → _) := fun X2 av vc bo2 cap2 z1 z2 z3 => beside_next HQ.out hNx q2 q3 q4 q5 z1 z3 z2 hkb8.out (by have := hkbl.out; omega) (q7.imp id fun h => by have := hkbl.out; omega)
  rw [hOe] at hBes
  generalize prO (k ++ bs) (tl ks).head? = O at *
  clear q1 q2 q3 q4 q5 q6 q7 q8 hNx hOe
  clear hQ hN hb8 hb hW hlo hk hway hK hl hSk hm hkb
  clear hKs o6 o7 hC hkb0
  go_enter Try.func121, Try.ntmps121
  go_upto_region 1 with fail
  rw [← hX1]
  clear hX1
  go_upto_region 6 with (first
    | (at_builtin; have hg := S2; go_loud (refine wpList_append_way rfl (.tmp 26) (.tmp 27) rfl rfl S2.out.way ⟨X1.heap.size, 0, none⟩ m m bs hHM.out rfl hnews.out hkl.out hbl.out ?_); intro v3 w3 bo3 cap3 HW HG HM HKp
       have q1 := S2.out.app HW.out HG.out HM.out HKp.out
       rw [← HKB.out] at q1
       have S3 := Lib.hid q1
       obtain ⟨a3, hv3, sl3⟩ := q1.way.sl hkb8.out
       subst hv3
       have SL3 := Lib.hid sl3
       clear q1 sl3 HW HG HM HKp)
    | (go_at_call 174; refine (hCm.out _ _ _ B1.out P1.out (by unfold maxLen; have := HMM.out; omega)).mono ?_; rintro e w2 ⟨rfl, z2⟩
       have S2 := Lib.hid (S1.out.below z2)
       have hnews := Lib.hid (sl_news (P1.out.below z2) (Below.refl _ w2))
       clear z2)
    | (go_at_call 32; refine hPart.out.mono ?_; rintro e w1 ⟨rfl, s1, b1⟩
       have S1 := Lib.hid (S0.out.below b1)
       have P1 := Lib.hid s1
       have B1 := Lib.hid (HB1.out.trans (b1.mono HB1.out.size))
       clear s1 b1))
  clear hnews hPart hCm S0 S1 S2 P1
  go_quiet (fail)
  have S4 : Hid (WayS X1 v k bo cap (.slice a3 kb.length cap3) kb bo3 cap3 (w3.drewN nq)) := S3.out.below (below_drewN (Below.refl _ _) nq)
  have SL4 : Hid (Sl (w3.drewN nq) a3 kb.length cap3 kb) := SL3.out.drewN nq
  generalize w3.drewN nq = w4 at *
  clear S3 SL3
  have B4 := Lib.hid (S4.out.since HB1.out HLO.out).1
  have BO4 := Lib.hid (S4.out.since HB1.out HLO.out).2
  have hrr : ResC w4 (X.heap.size + 1) := (S4.out.block HXL.out HNE.out).trans HR.out
  obtain ⟨r0, r1, r2, r3⟩ := hrr.facts
  have sk : w4.cell? ⟨X.heap.size, 0, none⟩ = some (.bool false) := by rw [cell_of_blk ((S4.out.block (by have := HXL.out; omega) HNE0.out).trans HS.out.box)]; rfl
  clear hrr
  have hOwn := Lib.hid (own_none HN.out B4.out)
  go_wp2_with (first
    | (go_at_call 175; refine hB5.out.mono ?_; rintro e w6 ⟨a6, m6, c6, rfl, s6, z1, z2⟩
       have S6 := S5.out.told z1 z2
       have hrr : ResC w6 (X.heap.size + 1) := (S6.block HXL.out HNE.out).trans HR.out
       obtain ⟨x0, x1, x2, x3⟩ := hrr.facts
       obtain ⟨c0, c1, q⟩ := nr_tell S6 HA.out HR.out (by omega) HNE.out (o := O) (a := a6) (m := m6) (c := c6) s6 (y := (O.getD ([], 0)).2) rfl (b := O.isSome) rfl rfl
       have q := Lib.hid q
       clear hrr S6 s6 z1 z2)
    | (go_at_call 173; refine (hOwn.out _ _ _).mono ?_; rintro e w5 ⟨rfl, b5⟩
       have hA5 : Below w4.heap.size w4 (w5.alloc (.cells #[.slice none 0 0, .int .u64 0] apT)) := b5.alloc b5.size _
       have S5 := Lib.hid (S4.out.below hA5)
       have q5 := S5.out.since HB1.out HLO.out
       have hB5 := Lib.hid (hBes.out _ _ _ _ _ q5.1 q5.2 S5.out.way)
       have sk5 : (w5.alloc (.cells #[.slice none 0 0, .int .u64 0] apT)).cell? ⟨X.heap.size, 0, none⟩ = some (.bool false) := by rw [cell_of_blk ((S5.out.block (by have := HXL.out; omega) HNE0.out).trans HS.out.box)]; rfl
       clear hA5 q5 b5))
  (try simp only [Exit.inBlock, Exit.then])
  exact bodyPost_ret (v := .tuple #[.agg #[.slice a6 m6 c6, .int .u64 (O.getD ([], 0)).2], .bool O.isSome]) (by simp [results, Try.results121, go_sem, c0, c1]) rfl q.out
set_option maxHeartbeats 8000000 in
set_option maxRecDepth 100000 in
theorem downAt_tt {w0 w X : World} {Q : List NP} (hQ : StoreP NoB w0 w Q) {n : Nat} {bs : List Nat} {val : Int} {leaf : Bool} {ks : Tr} {kk : KV} (hN : NodeW w n bs val true leaf (chain ks).length kk) (hKs : TreeIn Q 0 ks (.pointer none) kk) (o6 : IsK ks) (o7 : TOk ks) (hC : Can ks) (hb8 : ∀ x ∈ bs, x < 256) (hb : Below w.heap.size w X) {v : Value} {k : List Nat} {bo : Option Nat} {cap : Nat} (hW : WayAt X v k bo cap) (hlo : ∀ g, bo = some g → w.heap.size ≤ g) (hk : ∀ x ∈ k, x < 256) (hway : k.length + bs.length + tway ks ≤ 900000) {ka : Option Addr} {kn kc : Nat} {key : List Nat} (hK : Sl w ka kn kc key) (hkn : kn ≤ 1000) (hl : lcp bs key = bs.length) (hkb0 : kn = bs.length) : Calls Try.prog 119 #[.agg #[.bool true], .pointer (some ⟨n, 0, none⟩), v, .slice ka kn kc] X (nrPost v k bo cap (none) X) := by
  obtain ⟨X1, hX1⟩ : ∃ X1, X1 = (X.alloc (.cells #[.bool true] skT)).alloc (.cells #[.slice none 0 0, .int .u64 0] apT) := ⟨_, rfl⟩
  have hSk : SkW true X X1 := by rw [hX1]; exact skw_new true X
  have HS := Lib.hid hSk
  have HA := Lib.hid hSk.since
  have HR := Lib.hid hSk.res
  have HB1 := Lib.hid (hb.trans (hSk.since.mono hb.size))
  have HLO := Lib.hid hlo
  have HNE : Hid (bo ≠ some (X.heap.size + 1)) := fun e => by have := hW.lt e; omega
  have HNE0 : Hid (bo ≠ some X.heap.size) := fun e => by have := hW.lt e; omega
  have HXL : Hid (X.heap.size + 1 < X1.heap.size) := hSk.lt
  have S0 : Hid (WayS X1 v k bo cap v k bo cap X1) := WayS.start (hW.below hSk.since)
  obtain ⟨m, hm⟩ : ∃ m, m = bs.length := ⟨_, rfl⟩
  have hPart := Lib.hid (part_is hN HB1.out hm)
  have hHM : Hid (bs.length = m) := hm.symm
  have hkl : Hid (k.length ≤ 1000000) := by show _ ≤ _; omega
  have hbl : Hid (bs.length ≤ 1000000) := by show _ ≤ _; omega
  have HK := Lib.hid hK
  have hmm : m ≤ 1000000 := by omega
  have HMM := Lib.hid hmm
  have h1m : Hid (1 ≤ 1000000) := by show _ ≤ _; omega
  obtain ⟨kb, hkb⟩ : ∃ kb, kb = k ++ bs := ⟨_, rfl⟩
  have HKB := Lib.hid hkb
  have hkb8 : Hid (∀ x ∈ kb, x < 256) := fun x hx => by
    rw [hkb] at hx
    rcases List.mem_append.1 hx with hx | hx
    · exact hk x hx
    · exact hb8 x hx
  have hkbl : Hid (kb.length + tway ks ≤ 900000) := by show _ ≤ _; rw [hkb, List.length_append]; exact hway
  have hkbL : Hid (kb.length ≤ 1000000) := by show _ ≤ _; have := hkbl.out; omega
  have HQ := Lib.hid hQ
  have HN := Lib.hid hN
  have hCm : Hid (∀ X2 b d, Below w.heap.size w X2 → Sl X2 b m d bs → d ≤ maxLen → Calls Try.prog 174 #[.slice b m d, .slice ka kn kc] X2 fun e w' => e = .returned (.int .i64 (m : Nat)) ∧ Below X2.heap.size X2 w') := fun X2 b d q1 q2 q3 =>
    (keys_common X2 b ka m d kn kc bs key q2.at_ (hK.below q1).at_ q2.len hK.len (Nat.le_trans q2.cap q3) (Nat.le_trans hK.cap hK.capm)).mono fun e w' ⟨e1, q, e2⟩ => ⟨by rw [e1, hl, ← hm], by rw [e2]; exact below_drewN (Below.refl _ _) q⟩
  obtain rfl : m = kn := by omega
  clear hQ hN hb8 hb hW hlo hk hway hK hl hSk hm hkb
  clear hKs o6 o7 hC hkb0
  go_enter Try.func119, Try.ntmps119
  go_upto_region 1 with fail
  rw [← hX1]
  clear hX1
  go_upto_region 6 with (first
    | (at_builtin; have hg := S2; go_loud (refine wpList_append_way rfl (.tmp 26) (.tmp 27) rfl rfl S2.out.way ⟨X1.heap.size, 0, none⟩ m m bs hHM.out rfl hnews.out hkl.out hbl.out ?_); intro v3 w3 bo3 cap3 HW HG HM HKp
       have q1 := S2.out.app HW.out HG.out HM.out HKp.out
       rw [← HKB.out] at q1
       have S3 := Lib.hid q1
       obtain ⟨a3, hv3, sl3⟩ := q1.way.sl hkb8.out
       subst hv3
       have SL3 := Lib.hid sl3
       clear q1 sl3 HW HG HM HKp)
    | (go_at_call 174; refine (hCm.out _ _ _ B1.out P1.out (by unfold maxLen; have := HMM.out; omega)).mono ?_; rintro e w2 ⟨rfl, z2⟩
       have S2 := Lib.hid (S1.out.below z2)
       have hnews := Lib.hid (sl_news (P1.out.below z2) (Below.refl _ w2))
       clear z2)
    | (go_at_call 32; refine hPart.out.mono ?_; rintro e w1 ⟨rfl, s1, b1⟩
       have S1 := Lib.hid (S0.out.below b1)
       have P1 := Lib.hid s1
       have B1 := Lib.hid (HB1.out.trans (b1.mono HB1.out.size))
       clear s1 b1))
  clear hnews hPart hCm S0 S1 S2 P1
  go_quiet (fail)
  have S4 : Hid (WayS X1 v k bo cap (.slice a3 kb.length cap3) kb bo3 cap3 (w3.drewN nq)) := S3.out.below (below_drewN (Below.refl _ _) nq)
  have SL4 : Hid (Sl (w3.drewN nq) a3 kb.length cap3 kb) := SL3.out.drewN nq
  generalize w3.drewN nq = w4 at *
  clear S3 SL3
  have B4 := Lib.hid (S4.out.since HB1.out HLO.out).1
  have BO4 := Lib.hid (S4.out.since HB1.out HLO.out).2
  have hrr : ResC w4 (X.heap.size + 1) := (S4.out.block HXL.out HNE.out).trans HR.out
  obtain ⟨r0, r1, r2, r3⟩ := hrr.facts
  have sk : w4.cell? ⟨X.heap.size, 0, none⟩ = some (.bool true) := by rw [cell_of_blk ((S4.out.block (by have := HXL.out; omega) HNE0.out).trans HS.out.box)]; rfl
  clear hrr
  obtain ⟨c0, c1, q⟩ := nr_tell S4.out HA.out HR.out (by omega) HNE.out (o := none) (a := none) (m := 0) (c := 0) (sl_nil _) (y := 0) rfl (b := false) rfl rfl
  have q := Lib.hid q
  go_wp2_with fail
  (try simp only [Exit.inBlock, Exit.then])
  exact bodyPost_ret (v := .tuple #[.agg #[.slice none 0 0, .int .u64 0], .bool false]) (by simp [results, Try.results119, go_sem, c0, c1]) rfl q.out
set_option maxHeartbeats 8000000 in
set_option maxRecDepth 100000 in
theorem downAt_tf {w0 w X : World} {Q : List NP} (hQ : StoreP NoB w0 w Q) {n : Nat} {bs : List Nat} {val : Int} {leaf : Bool} {ks : Tr} {kk : KV} (hN : NodeW w n bs val false leaf (chain ks).length kk) (hKs : TreeIn Q 0 ks (.pointer none) kk) (o6 : IsK ks) (o7 : TOk ks) (hC : Can ks) (hb8 : ∀ x ∈ bs, x < 256) (hb : Below w.heap.size w X) {v : Value} {k : List Nat} {bo : Option Nat} {cap : Nat} (hW : WayAt X v k bo cap) (hlo : ∀ g, bo = some g → w.heap.size ≤ g) (hk : ∀ x ∈ k, x < 256) (hway : k.length + bs.length + tway ks ≤ 900000) {ka : Option Addr} {kn kc : Nat} {key : List Nat} (hK : Sl w ka kn kc key) (hkn : kn ≤ 1000) (hl : lcp bs key = bs.length) (hkb0 : kn = bs.length) : Calls Try.prog 119 #[.agg #[.bool true], .pointer (some ⟨n, 0, none⟩), v, .slice ka kn kc] X (nrPost v k bo cap (none) X) := by
  obtain ⟨X1, hX1⟩ : ∃ X1, X1 = (X.alloc (.cells #[.bool true] skT)).alloc (.cells #[.slice none 0 0, .int .u64 0] apT) := ⟨_, rfl⟩
  have hSk : SkW true X X1 := by rw [hX1]; exact skw_new true X
  have HS := Lib.hid hSk
  have HA := Lib.hid hSk.since
  have HR := Lib.hid hSk.res
  have HB1 := Lib.hid (hb.trans (hSk.since.mono hb.size))
  have HLO := Lib.hid hlo
  have HNE : Hid (bo ≠ some (X.heap.size + 1)) := fun e => by have := hW.lt e; omega
  have HNE0 : Hid (bo ≠ some X.heap.size) := fun e => by have := hW.lt e; omega
  have HXL : Hid (X.heap.size + 1 < X1.heap.size) := hSk.lt
  have S0 : Hid (WayS X1 v k bo cap v k bo cap X1) := WayS.start (hW.below hSk.since)
  obtain ⟨m, hm⟩ : ∃ m, m = bs.length := ⟨_, rfl⟩
  have hPart := Lib.hid (part_is hN HB1.out hm)
  have hHM : Hid (bs.length = m) := hm.symm
  have hkl : Hid (k.length ≤ 1000000) := by show _ ≤ _; omega
  have hbl : Hid (bs.length ≤ 1000000) := by show _ ≤ _; omega
  have HK := Lib.hid hK
  have hmm : m ≤ 1000000 := by omega
  have HMM := Lib.hid hmm
  have h1m : Hid (1 ≤ 1000000) := by show _ ≤ _; omega
  obtain ⟨kb, hkb⟩ : ∃ kb, kb = k ++ bs := ⟨_, rfl⟩
  have HKB := Lib.hid hkb
  have hkb8 : Hid (∀ x ∈ kb, x < 256) := fun x hx => by
    rw [hkb] at hx
    rcases List.mem_append.1 hx with hx | hx
    · exact hk x hx
    · exact hb8 x hx
  have hkbl : Hid (kb.length + tway ks ≤ 900000) := by show _ ≤ _; rw [hkb, List.length_append]; exact hway
  have hkbL : Hid (kb.length ≤ 1000000) := by show _ ≤ _; have := hkbl.out; omega
  have HQ := Lib.hid hQ
  have HN := Lib.hid hN
  have hCm : Hid (∀ X2 b d, Below w.heap.size w X2 → Sl X2 b m d bs → d ≤ maxLen → Calls Try.prog 174 #[.slice b m d, .slice ka kn kc] X2 fun e w' => e = .returned (.int .i64 (m : Nat)) ∧ Below X2.heap.size X2 w') := fun X2 b d q1 q2 q3 =>
    (keys_common X2 b ka m d kn kc bs key q2.at_ (hK.below q1).at_ q2.len hK.len (Nat.le_trans q2.cap q3) (Nat.le_trans hK.cap hK.capm)).mono fun e w' ⟨e1, q, e2⟩ => ⟨by rw [e1, hl, ← hm], by rw [e2]; exact below_drewN (Below.refl _ _) q⟩
  obtain rfl : m = kn := by omega
  clear hQ hN hb8 hb hW hlo hk hway hK hl hSk hm hkb
  clear hKs o6 o7 hC hkb0
  go_enter Try.func119, Try.ntmps119
  go_upto_region 1 with fail
  rw [← hX1]
  clear hX1
  go_upto_region 6 with (first
    | (at_builtin; have hg := S2; go_loud (refine wpList_append_way rfl (.tmp 26) (.tmp 27) rfl rfl S2.out.way ⟨X1.heap.size, 0, none⟩ m m bs hHM.out rfl hnews.out hkl.out hbl.out ?_); intro v3 w3 bo3 cap3 HW HG HM HKp
       have q1 := S2.out.app HW.out HG.out HM.out HKp.out
       rw [← HKB.out] at q1
       have S3 := Lib.hid q1
       obtain ⟨a3, hv3, sl3⟩ := q1.way.sl hkb8.out
       subst hv3
       have SL3 := Lib.hid sl3
       clear q1 sl3 HW HG HM HKp)
    | (go_at_call 174; refine (hCm.out _ _ _ B1.out P1.out (by unfold maxLen; have := HMM.out; omega)).mono ?_; rintro e w2 ⟨rfl, z2⟩
       have S2 := Lib.hid (S1.out.below z2)
       have hnews := Lib.hid (sl_news (P1.out.below z2) (Below.refl _ w2))
       clear z2)
    | (go_at_call 32; refine hPart.out.mono ?_; rintro e w1 ⟨rfl, s1, b1⟩
       have S1 := Lib.hid (S0.out.below b1)
       have P1 := Lib.hid s1
       have B1 := Lib.hid (HB1.out.trans (b1.mono HB1.out.size))
       clear s1 b1))
  clear hnews hPart hCm S0 S1 S2 P1
  go_quiet (fail)
  have S4 : Hid (WayS X1 v k bo cap (.slice a3 kb.length cap3) kb bo3 cap3 (w3.drewN nq)) := S3.out.below (below_drewN (Below.refl _ _) nq)
  have SL4 : Hid (Sl (w3.drewN nq) a3 kb.length cap3 kb) := SL3.out.drewN nq
  generalize w3.drewN nq = w4 at *
  clear S3 SL3
  have B4 := Lib.hid (S4.out.since HB1.out HLO.out).1
  have BO4 := Lib.hid (S4.out.since HB1.out HLO.out).2
  have hrr : ResC w4 (X.heap.size + 1) := (S4.out.block HXL.out HNE.out).trans HR.out
  obtain ⟨r0, r1, r2, r3⟩ := hrr.facts
  have sk : w4.cell? ⟨X.heap.size, 0, none⟩ = some (.bool true) := by rw [cell_of_blk ((S4.out.block (by have := HXL.out; omega) HNE0.out).trans HS.out.box)]; rfl
  clear hrr
  obtain ⟨c0, c1, q⟩ := nr_tell S4.out HA.out HR.out (by omega) HNE.out (o := none) (a := none) (m := 0) (c := 0) (sl_nil _) (y := 0) rfl (b := false) rfl rfl
  have q := Lib.hid q
  go_wp2_with fail
  (try simp only [Exit.inBlock, Exit.then])
  exact bodyPost_ret (v := .tuple #[.agg #[.slice none 0 0, .int .u64 0], .bool false]) (by simp [results, Try.results119, go_sem, c0, c1]) rfl q.out
set_option maxHeartbeats 8000000 in
set_option maxRecDepth 100000 in
theorem downAt_ft {w0 w X : World} {Q : List NP} (hQ : StoreP NoB w0 w Q) {n : Nat} {bs : List Nat} {val : Int} {leaf : Bool} {ks : Tr} {kk : KV} (hN : NodeW w n bs val true leaf (chain ks).length kk) (hKs : TreeIn Q 0 ks (.pointer none) kk) (o6 : IsK ks) (o7 : TOk ks) (hC : Can ks) (hb8 : ∀ x ∈ bs, x < 256) (hb : Below w.heap.size w X) {v : Value} {k : List Nat} {bo : Option Nat} {cap : Nat} (hW : WayAt X v k bo cap) (hlo : ∀ g, bo = some g → w.heap.size ≤ g) (hk : ∀ x ∈ k, x < 256) (hway : k.length + bs.length + tway ks ≤ 900000) {ka : Option Addr} {kn kc : Nat} {key : List Nat} (hK : Sl w ka kn kc key) (hkn : kn ≤ 1000) (hl : lcp bs key = bs.length) (hkb0 : kn = bs.length) : Calls Try.prog 119 #[.agg #[.bool false], .pointer (some ⟨n, 0, none⟩), v, .slice ka kn kc] X (nrPost v k bo cap (some (k ++ bs, val)) X) := by
  obtain ⟨X1, hX1⟩ : ∃ X1, X1 = (X.alloc (.cells #[.bool false] skT)).alloc (.cells #[.slice none 0 0, .int .u64 0] apT) := ⟨_, rfl⟩
  have hSk : SkW false X X1 := by rw [hX1]; exact skw_new false X
  have HS := Lib.hid hSk
  have HA := Lib.hid hSk.since
  have HR := Lib.hid hSk.res
  have HB1 := Lib.hid (hb.trans (hSk.since.mono hb.size))
  have HLO := Lib.hid hlo
  have HNE : Hid (bo ≠ some (X.heap.size + 1)) := fun e => by have := hW.lt e; omega
  have HNE0 : Hid (bo ≠ some X.heap.size) := fun e => by have := hW.lt e; omega
  have HXL : Hid (X.heap.size + 1 < X1.heap.size) := hSk.lt
  have S0 : Hid (WayS X1 v k bo cap v k bo cap X1) := WayS.start (hW.below hSk.since)
  obtain ⟨m, hm⟩ : ∃ m, m = bs.length := ⟨_, rfl⟩
  have hPart := Lib.hid (part_is hN HB1.out hm)
  have hHM : Hid (bs.length = m) := hm.symm
  have hkl : Hid (k.length ≤ 1000000) := by show _ ≤ _; omega
  have hbl : Hid (bs.length ≤ 1000000) := by show _ ≤ _; omega
  have HK := Lib.hid hK
  have hmm : m ≤ 1000000 := by omega
  have HMM := Lib.hid hmm
  have h1m : Hid (1 ≤ 1000000) := by show _ ≤ _; omega
  obtain ⟨kb, hkb⟩ : ∃ kb, kb = k ++ bs := ⟨_, rfl⟩
  have HKB := Lib.hid hkb
  have hkb8 : Hid (∀ x ∈ kb, x < 256) := fun x hx => by
    rw [hkb] at hx
    rcases List.mem_append.1 hx with hx | hx
    · exact hk x hx
    · exact hb8 x hx
  have hkbl : Hid (kb.length + tway ks ≤ 900000) := by show _ ≤ _; rw [hkb, List.length_append]; exact hway
  have hkbL : Hid (kb.length ≤ 1000000) := by show _ ≤ _; have := hkbl.out; omega
  have HQ := Lib.hid hQ
  have HN := Lib.hid hN
  have hCm : Hid (∀ X2 b d, Below w.heap.size w X2 → Sl X2 b m d bs → d ≤ maxLen → Calls Try.prog 174 #[.slice b m d, .slice ka kn kc] X2 fun e w' => e = .returned (.int .i64 (m : Nat)) ∧ Below X2.heap.size X2 w') := fun X2 b d q1 q2 q3 =>
    (keys_common X2 b ka m d kn kc bs key q2.at_ (hK.below q1).at_ q2.len hK.len (Nat.le_trans q2.cap q3) (Nat.le_trans hK.cap hK.capm)).mono fun e w' ⟨e1, q, e2⟩ => ⟨by rw [e1, hl, ← hm], by rw [e2]; exact below_drewN (Below.refl _ _) q⟩
  obtain rfl : m = kn := by omega
  rw [← hkb]
  clear hQ hN hb8 hb hW hlo hk hway hK hl hSk hm hkb
  clear hKs o6 o7 hC hkb0
  go_enter Try.func119, Try.ntmps119
  go_upto_region 1 with fail
  rw [← hX1]
  clear hX1
  go_upto_region 6 with (first
    | (at_builtin; have hg := S2; go_loud (refine wpList_append_way rfl (.tmp 26) (.tmp 27) rfl rfl S2.out.way ⟨X1.heap.size, 0, none⟩ m m bs hHM.out rfl hnews.out hkl.out hbl.out ?_); intro v3 w3 bo3 cap3 HW HG HM HKp
       have q1 := S2.out.app HW.out HG.out HM.out HKp.out
       rw [← HKB.out] at q1
       have S3 := Lib.hid q1
       obtain ⟨a3, hv3, sl3⟩ := q1.way.sl hkb8.out
       subst hv3
       have SL3 := Lib.hid sl3
       clear q1 sl3 HW HG HM HKp)
    | (go_at_call 174; refine (hCm.out _ _ _ B1.out P1.out (by unfold maxLen; have := HMM.out; omega)).mono ?_; rintro e w2 ⟨rfl, z2⟩
       have S2 := Lib.hid (S1.out.below z2)
       have hnews := Lib.hid (sl_news (P1.out.below z2) (Below.refl _ w2))
       clear z2)
    | (go_at_call 32; refine hPart.out.mono ?_; rintro e w1 ⟨rfl, s1, b1⟩
       have S1 := Lib.hid (S0.out.below b1)
       have P1 := Lib.hid s1
       have B1 := Lib.hid (HB1.out.trans (b1.mono HB1.out.size))
       clear s1 b1))
  clear hnews hPart hCm S0 S1 S2 P1
  go_quiet (fail)
  have S4 : Hid (WayS X1 v k bo cap (.slice a3 kb.length cap3) kb bo3 cap3 (w3.drewN nq)) := S3.out.below (below_drewN (Below.refl _ _) nq)
  have SL4 : Hid (Sl (w3.drewN nq) a3 kb.length cap3 kb) := SL3.out.drewN nq
  generalize w3.drewN nq = w4 at *
  clear S3 SL3
  have B4 := Lib.hid (S4.out.since HB1.out HLO.out).1
  have BO4 := Lib.hid (S4.out.since HB1.out HLO.out).2
  have hrr : ResC w4 (X.heap.size + 1) := (S4.out.block HXL.out HNE.out).trans HR.out
  obtain ⟨r0, r1, r2, r3⟩ := hrr.facts
  have sk : w4.cell? ⟨X.heap.size, 0, none⟩ = some (.bool false) := by rw [cell_of_blk ((S4.out.block (by have := HXL.out; omega) HNE0.out).trans HS.out.box)]; rfl
  clear hrr
  have hOwn := Lib.hid (own_some HN.out B4.out)
  go_wp2_with (first
    | (go_at_call 173; refine (hOwn.out _ _ _).mono ?_; rintro e w5 ⟨rfl, b5⟩
       have S5 := S4.out.below b5
       have hrr : ResC w5 (X.heap.size + 1) := (S5.block HXL.out HNE.out).trans HR.out
       obtain ⟨x0, x1, x2, x3⟩ := hrr.facts
       obtain ⟨c0, c1, q⟩ := nr_tell S5 HA.out HR.out (by omega) HNE.out (o := some (kb, val)) (a := a3) (m := kb.length) (c := cap3) (SL4.out.below b5) (y := val) rfl (b := true) rfl rfl
       have q := Lib.hid q
       clear hrr S5 b5))
  (try simp only [Exit.inBlock, Exit.then])
  exact bodyPost_ret (v := .tuple #[.agg #[.slice a3 kb.length cap3, .int .u64 val], .bool true]) (by simp [results, Try.results119, go_sem, c0, c1]) rfl q.out
set_option maxHeartbeats 8000000 in
set_option maxRecDepth 100000 in
theorem downAt_ff {w0 w X : World} {Q : List NP} (hQ : StoreP NoB w0 w Q) {n : Nat} {bs : List Nat} {val : Int} {leaf : Bool} {ks : Tr} {kk : KV} (hN : NodeW w n bs val false leaf (chain ks).length kk) (hKs : TreeIn Q 0 ks (.pointer none) kk) (o6 : IsK ks) (o7 : TOk ks) (hC : Can ks) (hb8 : ∀ x ∈ bs, x < 256) (hb : Below w.heap.size w X) {v : Value} {k : List Nat} {bo : Option Nat} {cap : Nat} (hW : WayAt X v k bo cap) (hlo : ∀ g, bo = some g → w.heap.size ≤ g) (hk : ∀ x ∈ k, x < 256) (hway : k.length + bs.length + tway ks ≤ 900000) {ka : Option Addr} {kn kc : Nat} {key : List Nat} (hK : Sl w ka kn kc key) (hkn : kn ≤ 1000) (hl : lcp bs key = bs.length) (hkb0 : kn = bs.length) : Calls Try.prog 119 #[.agg #[.bool false], .pointer (some ⟨n, 0, none⟩), v, .slice ka kn kc] X (nrPost v k bo cap (none) X) := by
  obtain ⟨X1, hX1⟩ : ∃ X1, X1 = (X.alloc (.cells #[.bool false] skT)).alloc (.cells #[.slice none 0 0, .int .u64 0] apT) := ⟨_, rfl⟩
  have hSk : SkW false X X1 := by rw [hX1]; exact skw_new false X
  have HS := Lib.hid hSk
  have HA := Lib.hid hSk.since
  have HR := Lib.hid hSk.res
  have HB1 := Lib.hid (hb.trans (hSk.since.mono hb.size))
  have HLO := Lib.hid hlo
  have HNE : Hid (bo ≠ some (X.heap.size + 1)) := fun e => by have := hW.lt e; omega
  have HNE0 : Hid (bo ≠ some X.heap.size) := fun e => by have := hW.lt e; omega
  have HXL : Hid (X.heap.size + 1 < X1.heap.size) := hSk.lt
  have S0 : Hid (WayS X1 v k bo cap v k bo cap X1) := WayS.start (hW.below hSk.since)
  obtain ⟨m, hm⟩ : ∃ m, m = bs.length := ⟨_, rfl⟩
  have hPart := Lib.hid (part_is hN HB1.out hm)
  have hHM : Hid (bs.length = m) := hm.symm
  have hkl : Hid (k.length ≤ 1000000) := by show _ ≤ _; omega
  have hbl : Hid (bs.length ≤ 1000000) := by show _ ≤ _; omega
  have HK := Lib.hid hK
  have hmm : m ≤ 1000000 := by omega
  have HMM := Lib.hid hmm
  have h1m : Hid (1 ≤ 1000000) := by show _ ≤ _; omega
  obtain ⟨kb, hkb⟩ : ∃ kb, kb = k ++ bs := ⟨_, rfl⟩
  have HKB := Lib.hid hkb
  have hkb8 : Hid (∀ x ∈ kb, x < 256) := fun x hx => by
    rw [hkb] at hx
    rcases List.mem_append.1 hx with hx | hx
    · exact hk x hx
    · exact hb8 x hx
  have hkbl : Hid (kb.length + tway ks ≤ 900000) := by show _ ≤ _; rw [hkb, List.length_append]; exact hway
  have hkbL : Hid (kb.length ≤ 1000000) := by show _ ≤ _; have := hkbl.out; omega
  have HQ := Lib.hid hQ
  have HN := Lib.hid hN
  have hCm : Hid (∀ X2 b d, Below w.heap.size w X2 → Sl X2 b m d bs → d ≤ maxLen → Calls Try.prog 174 #[.slice b m d, .slice ka kn kc] X2 fun e w' => e = .returned (.int .i64 (m : Nat)) ∧ Below X2.heap.size X2 w') := fun X2 b d q1 q2 q3 =>
    (keys_common X2 b ka m d kn kc bs key q2.at_ (hK.below q1).at_ q2.len hK.len (Nat.le_trans q2.cap q3) (Nat.le_trans hK.cap hK.capm)).mono fun e w' ⟨e1, q, e2⟩ => ⟨by rw [e1, hl, ← hm], by rw [e2]; exact below_drewN (Below.refl _ _) q⟩
  obtain rfl : m = kn := by omega
  clear hQ hN hb8 hb hW hlo hk hway hK hl hSk hm hkb
  clear hKs o6 o7 hC hkb0
  go_enter Try.func119, Try.ntmps119
  go_upto_region 1 with fail
  rw [← hX1]
  clear hX1
  go_upto_region 6 with (first
    | (at_builtin; have hg := S2; go_loud (refine wpList_append_way rfl (.tmp 26) (.tmp 27) rfl rfl S2.out.way ⟨X1.heap.size, 0, none⟩ m m bs hHM.out rfl hnews.out hkl.out hbl.out ?_); intro v3 w3 bo3 cap3 HW HG HM HKp
       have q1 := S2.out.app HW.out HG.out HM.out HKp.out
       rw [← HKB.out] at q1
       have S3 := Lib.hid q1
       obtain ⟨a3, hv3, sl3⟩ := q1.way.sl hkb8.out
       subst hv3
       have SL3 := Lib.hid sl3
       clear q1 sl3 HW HG HM HKp)
    | (go_at_call 174; refine (hCm.out _ _ _ B1.out P1.out (by unfold maxLen; have := HMM.out; omega)).mono ?_; rintro e w2 ⟨rfl, z2⟩
       have S2 := Lib.hid (S1.out.below z2)
       have hnews := Lib.hid (sl_news (P1.out.below z2) (Below.refl _ w2))
       clear z2)
    | (go_at_call 32; refine hPart.out.mono ?_; rintro e w1 ⟨rfl, s1, b1⟩
       have S1 := Lib.hid (S0.out.below b1)
       have P1 := Lib.hid s1
       have B1 := Lib.hid (HB1.out.trans (b1.mono HB1.out.size))
       clear s1 b1))
  clear hnews hPart hCm S0 S1 S2 P1
  go_quiet (fail)
  have S4 : Hid (WayS X1 v k bo cap (.slice a3 kb.length cap3) kb bo3 cap3 (w3.drewN nq)) := S3.out.below (below_drewN (Below.refl _ _) nq)
  have SL4 : Hid (Sl (w3.drewN nq) a3 kb.length cap3 kb) := SL3.out.drewN nq
  generalize w3.drewN nq = w4 at *
  clear S3 SL3
  have B4 := Lib.hid (S4.out.since HB1.out HLO.out).1
  have BO4 := Lib.hid (S4.out.since HB1.out HLO.out).2
  have hrr : ResC w4 (X.heap.size + 1) := (S4.out.block HXL.out HNE.out).trans HR.out
  obtain ⟨r0, r1, r2, r3⟩ := hrr.facts
  have sk : w4.cell? ⟨X.heap.size, 0, none⟩ = some (.bool false) := by rw [cell_of_blk ((S4.out.block (by have := HXL.out; omega) HNE0.out).trans HS.out.box)]; rfl
  clear hrr
  have hOwn := Lib.hid (own_none HN.out B4.out)
  go_wp2_with (first
    | (go_at_call 173; refine (hOwn.out _ _ _).mono ?_; rintro e w5 ⟨rfl, b5⟩
       have S5 := S4.out.below b5
       have hrr : ResC w5 (X.heap.size + 1) := (S5.block HXL.out HNE.out).trans HR.out
       obtain ⟨x0, x1, x2, x3⟩ := hrr.facts
       obtain ⟨c0, c1, q⟩ := nr_tell S5 HA.out HR.out (by omega) HNE.out (o := none) (a := none) (m := 0) (c := 0) (sl_nil _) (y := 0) rfl (b := false) rfl rfl
       have q := Lib.hid q
       clear hrr S5 b5))
  (try simp only [Exit.inBlock, Exit.then])
  exact bodyPost_ret (v := .tuple #[.agg #[.slice none 0 0, .int .u64 0], .bool false]) (by simp [results, Try.results119, go_sem, c0, c1]) rfl q.out
end Go.Proofs.Ytkonbldjmcccmaa
/- The document's pairs beside a key (spunyarnref17). -/
namespace Go.Proofs.Ytkonbldjmcccmaa
open Go.RowKit
theorem bcmp_neg' {s t : List Nat} : bcmp s t < 0 ↔ bcmp s t = -1 := by
  rcases bcmp_three s t with ⟨_, e⟩ | ⟨_, e⟩ | ⟨_, e⟩ <;> rw [e] <;> simp
theorem bcmp_pos' {s t : List Nat} : ¬ bcmp s t ≤ 0 ↔ bcmp s t = 1 := by
  rcases bcmp_three s t with ⟨_, e⟩ | ⟨_, e⟩ | ⟨_, e⟩ <;> rw [e] <;> simp
theorem upB_nlt {k x : List Nat} (h : ¬ bcmp x k = -1) : upB false k x = true := by simp [upB, h]
theorem dnB_nlt {k x : List Nat} (h : ¬ bcmp x k = -1) : dnB true k x = false := by simp [dnB, h]
theorem upB_ngt {k x : List Nat} (h : ¬ bcmp x k = 1) : upB true k x = false := by simp [upB, h]
theorem dnB_ngt {k x : List Nat} (h : ¬ bcmp x k = 1) : dnB false k x = true := by simp [dnB, h]
theorem find_first {α : Type} {f : α → Bool} (d : α) : ∀ {l : List α} {m : Nat}, (∀ j, j < m → f (l.getD j d) = false) → m ≤ l.length → (m < l.length → f (l.getD m d) = true) → l.find? f = if m < l.length then some (l.getD m d) else none
  | [], m, _, _, _ => by simp
  | x :: l, 0, _, _, h => by
    have := h (by simp)
    simp only [List.getD_cons_zero] at this
    simp [this]
  | x :: l, m + 1, h1, h2, h3 => by
    have h0 := h1 0 (by omega)
    simp only [List.getD_cons_zero] at h0
    have ih := find_first d (l := l) (m := m) (fun j hj => by have := h1 (j + 1) (by omega); simpa using this) (by simpa using h2) (fun h => by have := h3 (by simp; exact h); simpa using this)
    rw [List.find?_cons, h0]
    simp only [ih, List.length_cons, Nat.add_lt_add_iff_right, List.getD_cons_succ]
theorem find_last {α : Type} {f : α → Bool} (d : α) {l : List α} {m : Nat} (h1 : ∀ j, j < m → f (l.getD j d) = true) (h2 : m ≤ l.length) (h3 : ∀ j, m ≤ j → j < l.length → f (l.getD j d) = false) : l.reverse.find? f = if 0 < m then some (l.getD (m - 1) d) else none := by
  have e : l = l.take m ++ l.drop m := (List.take_append_drop m l).symm
  have hd : (l.drop m).reverse.find? f = none := by
    rw [List.find?_eq_none]
    intro x hx
    obtain ⟨j, hj, rfl⟩ := List.getElem_of_mem (List.mem_reverse.1 hx)
    rw [List.length_drop] at hj
    have := h3 (m + j) (by omega) (by omega)
    rw [List.getD, List.getElem?_eq_getElem (by omega)] at this
    simpa using this
  have ht : (l.take m).reverse.find? f = (l.take m).reverse.head? := find_all fun x hx => by
    obtain ⟨j, hj, rfl⟩ := List.getElem_of_mem (List.mem_reverse.1 hx)
    rw [List.length_take] at hj
    have := h1 j (by omega)
    rw [List.getD, List.getElem?_eq_getElem (by omega)] at this
    simpa using this
  conv => lhs; rw [e]
  rw [List.reverse_append, List.find?_append, hd, ht, Option.none_or, List.head?_reverse, List.getLast?_eq_getElem?, List.length_take, Nat.min_eq_left h2]
  by_cases h0 : 0 < m
  · rw [if_pos h0, List.getElem?_take_of_lt (by omega), List.getD, List.getElem?_eq_getElem (by omega)]
    rfl
  · obtain rfl : m = 0 := by omega
    simp
theorem srt_at {l : PL} (hs : PSrt l) {i j : Nat} (h : i < j) (hj : j < l.length) : slt (l.getD i ([], 0)).1 (l.getD j ([], 0)).1 := by
  have := List.pairwise_iff_getElem.1 hs i j (by simp; omega) (by simpa using hj) h
  rw [List.getElem_map, List.getElem_map] at this
  rw [getD_of_lt (by omega), getD_of_lt hj]
  exact this
def atO (l : PL) (i : Int) : PO := if 0 ≤ i ∧ i < l.length then some (l.getD i.toNat ([], 0)) else none
theorem ahead_ceil {l : PL} {k : List Nat} {m : Nat} (hs : PSrt l) (hm : m ≤ l.length) (h1 : ∀ j, j < m → bcmp (l.getD j ([], 0)).1 k < 0) (h2 : m < l.length → ¬ bcmp (l.getD m ([], 0)).1 k < 0) : atO l m = upL false k l ∧ atO l ((m : Int) - 1) = dnL true k l := by
  have hge : ∀ j, m ≤ j → j < l.length → ¬ bcmp (l.getD j ([], 0)).1 k < 0 := fun j h3 h4 q => by
    by_cases e : m = j
    · subst e; exact h2 h4 q
    · have q1 := srt_at hs (i := m) (j := j) (by omega) h4
      have q2 : slt (l.getD j ([], 0)).1 k := bcmp_neg'.1 q
      exact h2 (by omega) (bcmp_neg'.2 (slt_trans q1 q2))
  constructor
  · have := find_first (f := fun p => upB false k p.1) ([], 0) (l := l) (m := m) (fun j hj => upB_lt (bcmp_neg'.1 (h1 j hj))) hm (fun h => upB_nlt fun q => h2 h (bcmp_neg'.2 q))
    unfold upL atO
    rw [this]
    by_cases h : m < l.length
    · rw [if_pos h, if_pos ⟨by omega, by omega⟩]; rfl
    · rw [if_neg h, if_neg (by omega)]
  · have := find_last (f := fun p => dnB true k p.1) ([], 0) (l := l) (m := m) (fun j hj => dnB_lt (bcmp_neg'.1 (h1 j hj))) hm (fun j h3 h4 => dnB_nlt fun q => hge j h3 h4 (bcmp_neg'.2 q))
    unfold dnL atO
    rw [this]
    by_cases h : 0 < m
    · rw [if_pos h, if_pos ⟨by omega, by omega⟩]
      congr 2
      omega
    · rw [if_neg h, if_neg (by omega)]
theorem upto_floor {l : PL} {k : List Nat} {m : Nat} (hs : PSrt l) (hm : m ≤ l.length) (h1 : ∀ j, j < m → bcmp (l.getD j ([], 0)).1 k ≤ 0) (h2 : m < l.length → ¬ bcmp (l.getD m ([], 0)).1 k ≤ 0) : atO l m = upL true k l ∧ atO l ((m : Int) - 1) = dnL false k l := by
  have sgt : ∀ s : List Nat, bcmp s k = 1 ↔ slt k s := fun s => by
    rcases bcmp_three s k with ⟨h, e⟩ | ⟨h, e⟩ | ⟨h, e⟩
    · rw [e]; refine ⟨fun q => by simp at q, fun q => absurd (slt_trans h q) (slt_irrefl _)⟩
    · rw [e]; subst h; exact ⟨fun q => by simp at q, fun q => absurd q (slt_irrefl _)⟩
    · rw [e]; exact ⟨fun _ => h, fun _ => rfl⟩
  have hge : ∀ j, m ≤ j → j < l.length → bcmp (l.getD j ([], 0)).1 k = 1 := fun j h3 h4 => by
    by_cases e : m = j
    · subst e; exact bcmp_pos'.1 (h2 h4)
    · have q1 := srt_at hs (i := m) (j := j) (by omega) h4
      have q2 := (sgt _).1 (bcmp_pos'.1 (h2 (by omega)))
      exact (sgt _).2 (slt_trans q2 q1)
  have hle : ∀ j, j < m → ¬ bcmp (l.getD j ([], 0)).1 k = 1 := fun j hj q => by have := h1 j hj; rw [q] at this; omega
  constructor
  · have := find_first (f := fun p => upB true k p.1) ([], 0) (l := l) (m := m) (fun j hj => upB_ngt (hle j hj)) hm (fun h => upB_gt (hge m (Nat.le_refl _) h))
    unfold upL atO
    rw [this]
    by_cases h : m < l.length
    · rw [if_pos h, if_pos ⟨by omega, by omega⟩]; rfl
    · rw [if_neg h, if_neg (by omega)]
  · have := find_last (f := fun p => dnB false k p.1) ([], 0) (l := l) (m := m) (fun j hj => dnB_ngt (hle j hj)) hm (fun j h3 h4 => dnB_gt (hge j h3 h4))
    unfold dnL atO
    rw [this]
    by_cases h : 0 < m
    · rw [if_pos h, if_pos ⟨by omega, by omega⟩]
      congr 2
      omega
    · rw [if_neg h, if_neg (by omega)]
set_option maxHeartbeats 1000000 in
set_option maxRecDepth 100000 in
theorem ref_Ahead {w : World} {a : Option Addr} {n c : Nat} {l : PL} (h : Prs w a n c l) (hn : n ≤ 100000) {ka : Option Addr} {kn kc : Nat} {k : List Nat} (hK : Sl w ka kn kc k) : Calls Try.prog 122 #[.slice a n c, .slice ka kn kc] w fun e w' => ∃ m : Nat, e = .returned (.int .i64 (m : Nat)) ∧ m ≤ n ∧ (∀ j, j < m → bcmp (l.getD j ([], 0)).1 k < 0) ∧ (m < n → ¬ bcmp (l.getD m ([], 0)).1 k < 0) ∧ Below w.heap.size w w' := by
  have H := Lib.hid h
  have HK := Lib.hid hK
  have hl := Lib.hid h.len
  have h0 : Hid (Below w.heap.size w w) := Below.refl _ _
  clear h hK
  go_enter Try.func122, Try.ntmps122
  go_wp2_with fail
  go_loopw [5] (fun v5 wr => ∃ i : Nat, v5 = .int .i64 (i : Nat) ∧ i ≤ n ∧ Hid (∀ j, j < i → bcmp (l.getD j ([], 0)).1 k < 0) ∧ Hid (Below w.heap.size w wr)) (fun v5 _ => (n - intOf v5).toNat)
  case atStart => exact ⟨0, rfl, by omega, fun j hj => absurd hj (by omega), h0⟩
  case round =>
    clear h0
    obtain ⟨i, rfl, hi, hA, hB⟩ := hrel
    by_cases hlt : i < n
    · have hlt2 : (i : Int) < (n : Int) := by omega
      have hi0 : (0 : Int) ≤ (i : Int) := by omega
      have hlt3 : i < l.length := by rw [hl.out]; exact hlt
      obtain ⟨p, a3, n3, c3, rfl, q1, q2, q3⟩ := prs_row (H.out.below hB.out) hlt
      have hC := Lib.hid (quiet_cmp q3 (HK.out.below hB.out) 0)
      have hA2 := Lib.hid (fun (q : bcmp (l.getD i ([], 0)).1 k < 0) => (show ∀ j, j < i + 1 → bcmp (l.getD j ([], 0)).1 k < 0 from fun j hj => by
        by_cases e : j = i
        · subst e; exact q
        · exact hA.out j (by omega)))
      have hw8 : IntKind.i64.wrap (((i : Nat) : Int) + 1) = ((i + 1 : Nat) : Int) := by rw [show ((i : Nat) : Int) + 1 = ((i + 1 : Nat) : Int) by omega]; exact IntWalk.i64_in _ (by omega)
      by_cases hv : bcmp (l.getD i ([], 0)).1 k < 0
      · have hA3 := Lib.hid (hA2.out hv)
        generalize bcmp (l.getD i ([], 0)).1 k = V' at *
        clear q3 hA2
        go_wp2_with (go_at_call 64; refine hC.out.mono ?_; rintro e w2 ⟨rfl, q, rfl⟩; have B2 := Lib.hid (below_drewN hB.out q))
        go_roundw
        case rel => exact ⟨i + 1, (by first | rfl | go_num), by omega, hA3, B2⟩
        case measure => (simp [intOf]) <;> omega
      · have hN : Hid (∀ m : Nat, m = i → (m < n → ¬ bcmp (l.getD m ([], 0)).1 k < 0)) := fun m e _ => by subst e; exact hv
        generalize bcmp (l.getD i ([], 0)).1 k = V' at *
        clear q3 hA2
        go_wp2_with (go_at_call 64; refine hC.out.mono ?_; rintro e w2 ⟨rfl, q, rfl⟩; have B2 := Lib.hid (below_drewN hB.out q))
        go_ret
        exact ⟨i, rfl, hi, hA.out, hN.out i rfl, B2.out⟩
    · have hlt2 : ¬ (i : Int) < (n : Int) := by omega
      go_wp2_with fail
      go_ret
      exact ⟨i, rfl, hi, hA.out, fun q => absurd q hlt, hB.out⟩

set_option maxHeartbeats 1000000 in
set_option maxRecDepth 100000 in
theorem ref_Upto {w : World} {a : Option Addr} {n c : Nat} {l : PL} (h : Prs w a n c l) (hn : n ≤ 100000) {ka : Option Addr} {kn kc : Nat} {k : List Nat} (hK : Sl w ka kn kc k) : Calls Try.prog 120 #[.slice a n c, .slice ka kn kc] w fun e w' => ∃ m : Nat, e = .returned (.int .i64 (m : Nat)) ∧ m ≤ n ∧ (∀ j, j < m → bcmp (l.getD j ([], 0)).1 k ≤ 0) ∧ (m < n → ¬ bcmp (l.getD m ([], 0)).1 k ≤ 0) ∧ Below w.heap.size w w' := by
  have H := Lib.hid h
  have HK := Lib.hid hK
  have hl := Lib.hid h.len
  have h0 : Hid (Below w.heap.size w w) := Below.refl _ _
  clear h hK
  go_enter Try.func120, Try.ntmps120
  go_wp2_with fail
  go_loopw [5] (fun v5 wr => ∃ i : Nat, v5 = .int .i64 (i : Nat) ∧ i ≤ n ∧ Hid (∀ j, j < i → bcmp (l.getD j ([], 0)).1 k ≤ 0) ∧ Hid (Below w.heap.size w wr)) (fun v5 _ => (n - intOf v5).toNat)
  case atStart => exact ⟨0, rfl, by omega, fun j hj => absurd hj (by omega), h0⟩
  case round =>
    clear h0
    obtain ⟨i, rfl, hi, hA, hB⟩ := hrel
    by_cases hlt : i < n
    · have hlt2 : (i : Int) < (n : Int) := by omega
      have hi0 : (0 : Int) ≤ (i : Int) := by omega
      have hlt3 : i < l.length := by rw [hl.out]; exact hlt
      obtain ⟨p, a3, n3, c3, rfl, q1, q2, q3⟩ := prs_row (H.out.below hB.out) hlt
      have hC := Lib.hid (quiet_cmp q3 (HK.out.below hB.out) 0)
      have hA2 := Lib.hid (fun (q : bcmp (l.getD i ([], 0)).1 k ≤ 0) => (show ∀ j, j < i + 1 → bcmp (l.getD j ([], 0)).1 k ≤ 0 from fun j hj => by
        by_cases e : j = i
        · subst e; exact q
        · exact hA.out j (by omega)))
      have hw8 : IntKind.i64.wrap (((i : Nat) : Int) + 1) = ((i + 1 : Nat) : Int) := by rw [show ((i : Nat) : Int) + 1 = ((i + 1 : Nat) : Int) by omega]; exact IntWalk.i64_in _ (by omega)
      by_cases hv : bcmp (l.getD i ([], 0)).1 k ≤ 0
      · have hA3 := Lib.hid (hA2.out hv)
        generalize bcmp (l.getD i ([], 0)).1 k = V' at *
        clear q3 hA2
        go_wp2_with (go_at_call 64; refine hC.out.mono ?_; rintro e w2 ⟨rfl, q, rfl⟩; have B2 := Lib.hid (below_drewN hB.out q))
        go_roundw
        case rel => exact ⟨i + 1, (by first | rfl | go_num), by omega, hA3, B2⟩
        case measure => (simp [intOf]) <;> omega
      · have hN : Hid (∀ m : Nat, m = i → (m < n → ¬ bcmp (l.getD m ([], 0)).1 k ≤ 0)) := fun m e _ => by subst e; exact hv
        generalize bcmp (l.getD i ([], 0)).1 k = V' at *
        clear q3 hA2
        go_wp2_with (go_at_call 64; refine hC.out.mono ?_; rintro e w2 ⟨rfl, q, rfl⟩; have B2 := Lib.hid (below_drewN hB.out q))
        go_ret
        exact ⟨i, rfl, hi, hA.out, hN.out i rfl, B2.out⟩
    · have hlt2 : ¬ (i : Int) < (n : Int) := by omega
      go_wp2_with fail
      go_ret
      exact ⟨i, rfl, hi, hA.out, fun q => absurd q hlt, hB.out⟩
/-! The pair at a place. -/
def ResK (w : World) (rb : Nat) : Prop := w.heap[rb]? = some (.cells [.slice none 0 0, .int .u64 0].toArray kpT (0, 0))
theorem ResK.facts {w : World} {rb : Nat} (h : ResK w rb) : w.cell? ⟨rb, 0, none⟩ = some (.slice none 0 0) ∧ w.cell? ⟨rb, 1, none⟩ = some (.int .u64 0) ∧ w.frozen? ⟨rb, 0, none⟩ = false ∧ w.frozen? ⟨rb, 1, none⟩ = false :=
  ⟨by rw [cell_of_blk h]; rfl, by rw [cell_of_blk h]; rfl, frozen_of_blk h 0, frozen_of_blk h 1⟩
theorem resK_new (w : World) : ResK (w.alloc (.cells #[.slice none 0 0, .int .u64 0] kpT)) w.heap.size := heap_alloc_new w _
theorem ResK.below {w w' : World} {rb : Nat} (h : ResK w rb) (hb : Below w.heap.size w w') : ResK w' rb := (hb.block rb (Array.getElem?_eq_some_iff.1 h).1).trans h
theorem resK_put {w w8 : World} {rb : Nat} (h : ResK w rb) {a : Option Addr} {m c : Nat} {y : Int} (e8 : w8 = (w.setCell ⟨rb, 0, none⟩ (.slice a m c)).setCell ⟨rb, 1, none⟩ (.int .u64 y)) : w8.cell? ⟨rb, 0, none⟩ = some (.slice a m c) ∧ w8.cell? ⟨rb, 1, none⟩ = some (.int .u64 y) ∧ Mod (fun j => j = rb) w w8 := by
  have x3 : w.heap[rb]? = some (.cells [.slice none 0 0, .int .u64 0].toArray kpT (0, 0)) := h
  have z1 : (w.setCell ⟨rb, 0, none⟩ (.slice a m c)).heap[rb]? = some (.cells [.slice a m c, .int .u64 0].toArray kpT (0, 0)) := by
    rw [setCell_list _ _ _ _ _ _ x3, setRow_heap _ _ _ _ _ _ x3]; rfl
  have z2 : w8.heap[rb]? = some (.cells [.slice a m c, .int .u64 y].toArray kpT (0, 0)) := by
    rw [e8]
    show (((w.setCell ⟨rb, 0, none⟩ (.slice a m c)).setCell ⟨rb, 1, none⟩ (.int .u64 y)).heap[rb]?) = _
    rw [setCell_list _ _ _ _ _ _ z1, setRow_heap _ _ _ _ _ _ z1]; rfl
  refine ⟨by rw [cell_of_blk z2]; rfl, by rw [cell_of_blk z2]; rfl, ?_⟩
  rw [e8]
  exact ((Mod.refl (fun j => j = rb) w).setCell ⟨rb, 0, none⟩ _ (fun _ => rfl)).setCell ⟨rb, 1, none⟩ _ (fun _ => rfl)
/-- a pair that may be none, told -/
def npPost (o : PO) (w : World) (e : Ending) (w' : World) : Prop := ∃ a m c, e = .returned (.tuple #[.agg #[.slice a m c, .int .u64 (o.getD ([], 0)).2], .bool o.isSome]) ∧ Sl w' a m c (o.getD ([], 0)).1 ∧ Below w.heap.size w w'
/-- a result's cells, written: of the document's -/
theorem npk_tell {X w1 : World} {rb : Nat} (hX : Below X.heap.size X w1) (hr : ResK w1 rb) (hrb : X.heap.size ≤ rb) {o : PO} {a : Option Addr} {m c : Nat} (hs : Sl w1 a m c (o.getD ([], 0)).1) {y : Int} (hy : y = (o.getD ([], 0)).2) {b : Bool} (hb : b = o.isSome) {w8 : World} (e8 : w8 = (w1.setCell ⟨rb, 0, none⟩ (.slice a m c)).setCell ⟨rb, 1, none⟩ (.int .u64 y)) : w8.cell? ⟨rb, 0, none⟩ = some (.slice a m c) ∧ w8.cell? ⟨rb, 1, none⟩ = some (.int .u64 y) ∧ npPost o X (.returned (.tuple #[.agg #[.slice a m c, .int .u64 y], .bool b])) w8 := by
  obtain ⟨c0, c1, hm⟩ := resK_put hr e8
  exact ⟨c0, c1, a, m, c, by rw [hy, hb], sl_off_pair hs hr hm, mod_new hX hm hrb⟩
theorem npc_tell {X w1 : World} {rb : Nat} (hX : Below X.heap.size X w1) (hr : ResC w1 rb) (hrb : X.heap.size ≤ rb) {o : PO} {a : Option Addr} {m c : Nat} (hs : Sl w1 a m c (o.getD ([], 0)).1) {y : Int} (hy : y = (o.getD ([], 0)).2) {b : Bool} (hb : b = o.isSome) {w8 : World} (e8 : w8 = (w1.setCell ⟨rb, 0, none⟩ (.slice a m c)).setCell ⟨rb, 1, none⟩ (.int .u64 y)) : w8.cell? ⟨rb, 0, none⟩ = some (.slice a m c) ∧ w8.cell? ⟨rb, 1, none⟩ = some (.int .u64 y) ∧ npPost o X (.returned (.tuple #[.agg #[.slice a m c, .int .u64 y], .bool b])) w8 := by
  obtain ⟨c0, c1, hm⟩ := res_put hr e8
  exact ⟨c0, c1, a, m, c, by rw [hy, hb], sl_off_pair hs hr hm, mod_new hX hm hrb⟩
set_option maxHeartbeats 1000000 in
set_option maxRecDepth 100000 in
theorem ref_at {w : World} {a : Option Addr} {n c : Nat} {l : PL} (h : Prs w a n c l) (i : Int) : Calls Try.prog 117 #[.slice a n c, .int .i64 i] w (npPost (atO l i) w) := by
  obtain ⟨w1, hw1⟩ : ∃ w1, w1 = w.alloc (.cells #[.slice none 0 0, .int .u64 0] kpT) := ⟨_, rfl⟩
  have hA : Below w.heap.size w w1 := by rw [hw1]; exact (Below.refl _ w).alloc (Nat.le_refl _) _
  have hR : ResK w1 w.heap.size := by rw [hw1]; exact resK_new w
  obtain ⟨r0, r1, r2, r3⟩ := hR.facts
  have hl := h.len
  by_cases hi : 0 ≤ i ∧ i < n
  · obtain ⟨j, rfl⟩ : ∃ j : Nat, i = (j : Nat) := ⟨i.toNat, by omega⟩
    have hj : j < n := by omega
    obtain ⟨p, a3, n3, c3, rfl, q1, q2, q3⟩ := prs_row h hj
    have z1 := (hA.cell (cell_lt q1)).trans q1
    have z2 := (hA.cell (p := ⟨(p.add (j * 2)).block, (p.add (j * 2)).off + 1, none⟩) (cell_lt q2)).trans q2
    have e : atO l (j : Nat) = some (l.getD j ([], 0)) := by unfold atO; rw [if_pos ⟨by omega, by omega⟩]; rfl
    rw [e]
    obtain ⟨y, hy⟩ : ∃ y, y = (l.getD j ([], 0)).2 := ⟨_, rfl⟩
    rw [← hy] at z2
    obtain ⟨c0, c1, q⟩ := npk_tell hA hR (Nat.le_refl _) (o := some (l.getD j ([], 0))) (a := a3) (m := n3) (c := c3) (q3.below hA) (y := y) hy (b := true) rfl rfl
    have q := Lib.hid q
    have j0 : (0 : Int) ≤ (j : Int) := by omega
    have j1 : (j : Int) < (n : Int) := by omega
    have j2 : ¬ (n : Int) ≤ (j : Int) := by omega
    have j3 : ¬ (j : Int) < 0 := by omega
    clear h hA hR hl hi q1 q2 q3 e hy hj
    go_enter Try.func117, Try.ntmps117
    go_upto_region 1 with fail
    rw [← hw1]
    clear hw1
    go_wp2_with fail
    (try simp only [Exit.inBlock, Exit.then])
    exact bodyPost_ret (v := .tuple #[.agg #[.slice a3 n3 c3, .int .u64 y], .bool true]) (by simp [results, Try.results117, go_sem, c0, c1]) rfl q.out
  · have e : atO l i = none := by unfold atO; rw [if_neg (by omega)]
    rw [e]
    obtain ⟨c0, c1, q⟩ := npk_tell hA hR (Nat.le_refl _) (o := none) (a := none) (m := 0) (c := 0) (sl_nil _) (y := 0) rfl (b := false) rfl rfl
    have q := Lib.hid q
    by_cases h0 : i < 0
    · clear h hA hR hl hi e
      go_enter Try.func117, Try.ntmps117
      go_upto_region 1 with fail
      rw [← hw1]
      clear hw1
      go_wp2_with fail
      (try simp only [Exit.inBlock, Exit.then])
      exact bodyPost_ret (v := .tuple #[.agg #[.slice none 0 0, .int .u64 0], .bool false]) (by simp [results, Try.results117, go_sem, c0, c1]) rfl q.out
    · have h1 : (n : Int) ≤ i := by omega
      clear h hA hR hl hi e
      go_enter Try.func117, Try.ntmps117
      go_upto_region 1 with fail
      rw [← hw1]
      clear hw1
      go_wp2_with fail
      (try simp only [Exit.inBlock, Exit.then])
      exact bodyPost_ret (v := .tuple #[.agg #[.slice none 0 0, .int .u64 0], .bool false]) (by simp [results, Try.results117, go_sem, c0, c1]) rfl q.out
theorem atO_head (l : PL) : atO l 0 = l.head? := by
  cases l <;> simp [atO]
theorem atO_last (l : PL) : atO l ((l.length : Int) - 1) = l.getLast? := by
  unfold atO
  cases l with
  | nil => simp
  | cons x l =>
    rw [if_pos ⟨by simp only [List.length_cons]; omega, by simp only [List.length_cons]; omega⟩, List.getLast?_eq_getElem?, List.getD]
    have : ((((x :: l).length : Nat) : Int) - 1).toNat = l.length := by simp
    rw [this]
    simp
set_option maxHeartbeats 1000000 in
theorem ref_Min {w : World} {a : Option Addr} {n c : Nat} {l : PL} (h : Prs w a n c l) (hn : n ≤ 100000) : Calls Try.prog 52 #[.slice a n c] w
    (npPost l.head? w) := by
  obtain ⟨w1, hw1⟩ : ∃ w1, w1 = w.alloc (.cells #[.slice none 0 0, .int .u64 0] kpT) := ⟨_, rfl⟩
  have hA : Below w.heap.size w w1 := by rw [hw1]; exact (Below.refl _ w).alloc (Nat.le_refl _) _
  have hR : ResK w1 w.heap.size := by rw [hw1]; exact resK_new w
  have hAt := ref_at (h.below hA) 0
  rw [atO_head] at hAt
  generalize l.head? = O at *
  have hAt := Lib.hid hAt
  have HA := Lib.hid hA
  have HR := Lib.hid hR
  clear h hA hR
  go_enter Try.func52, Try.ntmps52
  go_upto_region 1 with fail
  rw [← hw1]
  clear hw1
  go_wp2_with (first
    | (go_at_call 117; refine hAt.out.mono ?_; rintro e w2 ⟨a2, m2, c2, rfl, s2, b2⟩
       have hr2 := HR.out.below b2
       obtain ⟨r0, r1, r2, r3⟩ := hr2.facts
       obtain ⟨c0, c1, q⟩ := npk_tell (HA.out.trans (b2.mono HA.out.size)) hr2 (Nat.le_refl _) (o := O) (a := a2) (m := m2) (c := c2) s2 (y := (O.getD ([], 0)).2) rfl (b := O.isSome) rfl rfl
       have q := Lib.hid q
       clear hr2 s2 b2))
  exact bodyPost_ret (v := .tuple #[.agg #[.slice a2 m2 c2, .int .u64 (O.getD ([], 0)).2], .bool O.isSome]) (by simp [results, Try.results52, go_sem, c0, c1]) rfl q.out

set_option maxHeartbeats 1000000 in
theorem ref_Max {w : World} {a : Option Addr} {n c : Nat} {l : PL} (h : Prs w a n c l) (hn : n ≤ 100000) : Calls Try.prog 54 #[.slice a n c] w
    (npPost l.getLast? w) := by
  obtain ⟨w1, hw1⟩ : ∃ w1, w1 = w.alloc (.cells #[.slice none 0 0, .int .u64 0] kpT) := ⟨_, rfl⟩
  have hA : Below w.heap.size w w1 := by rw [hw1]; exact (Below.refl _ w).alloc (Nat.le_refl _) _
  have hR : ResK w1 w.heap.size := by rw [hw1]; exact resK_new w
  have hAt := ref_at (h.below hA) ((n : Int) - 1)
  rw [← h.len, atO_last, h.len] at hAt
  generalize l.getLast? = O at *
  have hw0 : IntKind.i64.wrap ((n : Int) - 1) = (n : Int) - 1 := IntWalk.i64_in _ (by omega)
  have hAt := Lib.hid hAt
  have HA := Lib.hid hA
  have HR := Lib.hid hR
  clear h hA hR
  go_enter Try.func54, Try.ntmps54
  go_upto_region 1 with fail
  rw [← hw1]
  clear hw1
  go_wp2_with (first
    | (go_at_call 117; refine hAt.out.mono ?_; rintro e w2 ⟨a2, m2, c2, rfl, s2, b2⟩
       have hr2 := HR.out.below b2
       obtain ⟨r0, r1, r2, r3⟩ := hr2.facts
       obtain ⟨c0, c1, q⟩ := npk_tell (HA.out.trans (b2.mono HA.out.size)) hr2 (Nat.le_refl _) (o := O) (a := a2) (m := m2) (c := c2) s2 (y := (O.getD ([], 0)).2) rfl (b := O.isSome) rfl rfl
       have q := Lib.hid q
       clear hr2 s2 b2))
  exact bodyPost_ret (v := .tuple #[.agg #[.slice a2 m2 c2, .int .u64 (O.getD ([], 0)).2], .bool O.isSome]) (by simp [results, Try.results54, go_sem, c0, c1]) rfl q.out
set_option maxHeartbeats 1000000 in
theorem ref_Floor {w : World} {a : Option Addr} {n c : Nat} {l : PL} (h : Prs w a n c l) (hs : PSrt l) (hn : n ≤ 100000) {ka : Option Addr} {kn kc : Nat} {k : List Nat} (hK : Sl w ka kn kc k) : Calls Try.prog 57 #[.slice a n c, .slice ka kn kc] w (npPost (dnL false k l) w) := by
  obtain ⟨w1, hw1⟩ : ∃ w1, w1 = w.alloc (.cells #[.slice none 0 0, .int .u64 0] kpT) := ⟨_, rfl⟩
  have hA : Below w.heap.size w w1 := by rw [hw1]; exact (Below.refl _ w).alloc (Nat.le_refl _) _
  have hR : ResK w1 w.heap.size := by rw [hw1]; exact resK_new w
  have hC := Lib.hid (ref_Upto (h.below hA) hn (hK.below hA))
  have hln := h.len
  have hAt : Hid (∀ (m : Nat) w2, Below w1.heap.size w1 w2 → m ≤ n → (∀ j, j < m → bcmp (l.getD j ([], 0)).1 k ≤ 0) → (m < n → ¬ bcmp (l.getD m ([], 0)).1 k ≤ 0) → Calls Try.prog 117 #[.slice a n c, .int .i64 ((m : Int) - 1)] w2 (npPost (dnL false k l) w2)) := fun m w2 hb hm q1 q2 => by
    have := ref_at ((h.below hA).below hb) ((m : Int) - 1)
    have e := upto_floor hs (by omega) q1 (by rw [hln]; exact q2)
    rw [e.2] at this
    exact this
  generalize dnL false k l = O at *
  have HA := Lib.hid hA
  have HR := Lib.hid hR
  have HN := Lib.hid hn
  clear h hA hR hs hK hln
  go_enter Try.func57, Try.ntmps57
  go_upto_region 1 with fail
  rw [← hw1]
  clear hw1
  go_wp2_with (first
    | (go_at_call 117; refine hAt2.out.mono ?_; rintro e w3 ⟨a3, m3, c3, rfl, s3, b3⟩
       have b13 := B12.out.trans (b3.mono B12.out.size)
       have hr2 := HR.out.below b13
       obtain ⟨r0, r1, r2, r3⟩ := hr2.facts
       obtain ⟨c0, c1, q⟩ := npk_tell (HA.out.trans (b13.mono HA.out.size)) hr2 (Nat.le_refl _) (o := O) (a := a3) (m := m3) (c := c3) s3 (y := (O.getD ([], 0)).2) rfl (b := O.isSome) rfl rfl
       have q := Lib.hid q
       clear hr2 s3 b3 b13)
    | (go_at_call 120; refine hC.out.mono ?_; rintro e w2 ⟨m, rfl, z1, z2, z3, b2⟩
       have B12 := Lib.hid b2
       have hAt2 := Lib.hid (hAt.out m w2 b2 z1 z2 z3)
       have hw0 : IntKind.i64.wrap ((m : Int) - 1) = (m : Int) - 1 := IntWalk.i64_in _ (by have := HN.out; omega)
       clear z1 z2 z3 b2))
  exact bodyPost_ret (v := .tuple #[.agg #[.slice a3 m3 c3, .int .u64 (O.getD ([], 0)).2], .bool O.isSome]) (by simp [results, Try.results57, go_sem, c0, c1]) rfl q.out

set_option maxHeartbeats 1000000 in
theorem ref_Lower {w : World} {a : Option Addr} {n c : Nat} {l : PL} (h : Prs w a n c l) (hs : PSrt l) (hn : n ≤ 100000) {ka : Option Addr} {kn kc : Nat} {k : List Nat} (hK : Sl w ka kn kc k) : Calls Try.prog 61 #[.slice a n c, .slice ka kn kc] w (npPost (dnL true k l) w) := by
  obtain ⟨w1, hw1⟩ : ∃ w1, w1 = w.alloc (.cells #[.slice none 0 0, .int .u64 0] kpT) := ⟨_, rfl⟩
  have hA : Below w.heap.size w w1 := by rw [hw1]; exact (Below.refl _ w).alloc (Nat.le_refl _) _
  have hR : ResK w1 w.heap.size := by rw [hw1]; exact resK_new w
  have hC := Lib.hid (ref_Ahead (h.below hA) hn (hK.below hA))
  have hln := h.len
  have hAt : Hid (∀ (m : Nat) w2, Below w1.heap.size w1 w2 → m ≤ n → (∀ j, j < m → bcmp (l.getD j ([], 0)).1 k < 0) → (m < n → ¬ bcmp (l.getD m ([], 0)).1 k < 0) → Calls Try.prog 117 #[.slice a n c, .int .i64 ((m : Int) - 1)] w2 (npPost (dnL true k l) w2)) := fun m w2 hb hm q1 q2 => by
    have := ref_at ((h.below hA).below hb) ((m : Int) - 1)
    have e := ahead_ceil hs (by omega) q1 (by rw [hln]; exact q2)
    rw [e.2] at this
    exact this
  generalize dnL true k l = O at *
  have HA := Lib.hid hA
  have HR := Lib.hid hR
  have HN := Lib.hid hn
  clear h hA hR hs hK hln
  go_enter Try.func61, Try.ntmps61
  go_upto_region 1 with fail
  rw [← hw1]
  clear hw1
  go_wp2_with (first
    | (go_at_call 117; refine hAt2.out.mono ?_; rintro e w3 ⟨a3, m3, c3, rfl, s3, b3⟩
       have b13 := B12.out.trans (b3.mono B12.out.size)
       have hr2 := HR.out.below b13
       obtain ⟨r0, r1, r2, r3⟩ := hr2.facts
       obtain ⟨c0, c1, q⟩ := npk_tell (HA.out.trans (b13.mono HA.out.size)) hr2 (Nat.le_refl _) (o := O) (a := a3) (m := m3) (c := c3) s3 (y := (O.getD ([], 0)).2) rfl (b := O.isSome) rfl rfl
       have q := Lib.hid q
       clear hr2 s3 b3 b13)
    | (go_at_call 122; refine hC.out.mono ?_; rintro e w2 ⟨m, rfl, z1, z2, z3, b2⟩
       have B12 := Lib.hid b2
       have hAt2 := Lib.hid (hAt.out m w2 b2 z1 z2 z3)
       have hw0 : IntKind.i64.wrap ((m : Int) - 1) = (m : Int) - 1 := IntWalk.i64_in _ (by have := HN.out; omega)
       clear z1 z2 z3 b2))
  exact bodyPost_ret (v := .tuple #[.agg #[.slice a3 m3 c3, .int .u64 (O.getD ([], 0)).2], .bool O.isSome]) (by simp [results, Try.results61, go_sem, c0, c1]) rfl q.out

set_option maxHeartbeats 1000000 in
theorem ref_Ceil {w : World} {a : Option Addr} {n c : Nat} {l : PL} (h : Prs w a n c l) (hs : PSrt l) (hn : n ≤ 100000) {ka : Option Addr} {kn kc : Nat} {k : List Nat} (hK : Sl w ka kn kc k) : Calls Try.prog 59 #[.slice a n c, .slice ka kn kc] w (npPost (upL false k l) w) := by
  obtain ⟨w1, hw1⟩ : ∃ w1, w1 = w.alloc (.cells #[.slice none 0 0, .int .u64 0] kpT) := ⟨_, rfl⟩
  have hA : Below w.heap.size w w1 := by rw [hw1]; exact (Below.refl _ w).alloc (Nat.le_refl _) _
  have hR : ResK w1 w.heap.size := by rw [hw1]; exact resK_new w
  have hC := Lib.hid (ref_Ahead (h.below hA) hn (hK.below hA))
  have hln := h.len
  have hAt : Hid (∀ (m : Nat) w2, Below w1.heap.size w1 w2 → m ≤ n → (∀ j, j < m → bcmp (l.getD j ([], 0)).1 k < 0) → (m < n → ¬ bcmp (l.getD m ([], 0)).1 k < 0) → Calls Try.prog 117 #[.slice a n c, .int .i64 ((m : Int) - 0)] w2 (npPost (upL false k l) w2)) := fun m w2 hb hm q1 q2 => by
    have := ref_at ((h.below hA).below hb) ((m : Int) - 0)
    have e := ahead_ceil hs (by omega) q1 (by rw [hln]; exact q2)
    rw [Int.sub_zero] at this ⊢
    rw [e.1] at this
    exact this
  generalize upL false k l = O at *
  have HA := Lib.hid hA
  have HR := Lib.hid hR
  have HN := Lib.hid hn
  clear h hA hR hs hK hln
  go_enter Try.func59, Try.ntmps59
  go_upto_region 1 with fail
  rw [← hw1]
  clear hw1
  go_wp2_with (first
    | (go_at_call 117; refine hAt2.out.mono ?_; rintro e w3 ⟨a3, m3, c3, rfl, s3, b3⟩
       have b13 := B12.out.trans (b3.mono B12.out.size)
       have hr2 := HR.out.below b13
       obtain ⟨r0, r1, r2, r3⟩ := hr2.facts
       obtain ⟨c0, c1, q⟩ := npk_tell (HA.out.trans (b13.mono HA.out.size)) hr2 (Nat.le_refl _) (o := O) (a := a3) (m := m3) (c := c3) s3 (y := (O.getD ([], 0)).2) rfl (b := O.isSome) rfl rfl
       have q := Lib.hid q
       clear hr2 s3 b3 b13)
    | (go_at_call 122; refine hC.out.mono ?_; rintro e w2 ⟨m, rfl, z1, z2, z3, b2⟩
       have B12 := Lib.hid b2
       have hAt2 := Lib.hid (hAt.out m w2 b2 z1 z2 z3)
       rw [Int.sub_zero] at hAt2
       clear z1 z2 z3 b2))
  exact bodyPost_ret (v := .tuple #[.agg #[.slice a3 m3 c3, .int .u64 (O.getD ([], 0)).2], .bool O.isSome]) (by simp [results, Try.results59, go_sem, c0, c1]) rfl q.out

set_option maxHeartbeats 1000000 in
theorem ref_Higher {w : World} {a : Option Addr} {n c : Nat} {l : PL} (h : Prs w a n c l) (hs : PSrt l) (hn : n ≤ 100000) {ka : Option Addr} {kn kc : Nat} {k : List Nat} (hK : Sl w ka kn kc k) : Calls Try.prog 63 #[.slice a n c, .slice ka kn kc] w (npPost (upL true k l) w) := by
  obtain ⟨w1, hw1⟩ : ∃ w1, w1 = w.alloc (.cells #[.slice none 0 0, .int .u64 0] kpT) := ⟨_, rfl⟩
  have hA : Below w.heap.size w w1 := by rw [hw1]; exact (Below.refl _ w).alloc (Nat.le_refl _) _
  have hR : ResK w1 w.heap.size := by rw [hw1]; exact resK_new w
  have hC := Lib.hid (ref_Upto (h.below hA) hn (hK.below hA))
  have hln := h.len
  have hAt : Hid (∀ (m : Nat) w2, Below w1.heap.size w1 w2 → m ≤ n → (∀ j, j < m → bcmp (l.getD j ([], 0)).1 k ≤ 0) → (m < n → ¬ bcmp (l.getD m ([], 0)).1 k ≤ 0) → Calls Try.prog 117 #[.slice a n c, .int .i64 ((m : Int) - 0)] w2 (npPost (upL true k l) w2)) := fun m w2 hb hm q1 q2 => by
    have := ref_at ((h.below hA).below hb) ((m : Int) - 0)
    have e := upto_floor hs (by omega) q1 (by rw [hln]; exact q2)
    rw [Int.sub_zero] at this ⊢
    rw [e.1] at this
    exact this
  generalize upL true k l = O at *
  have HA := Lib.hid hA
  have HR := Lib.hid hR
  have HN := Lib.hid hn
  clear h hA hR hs hK hln
  go_enter Try.func63, Try.ntmps63
  go_upto_region 1 with fail
  rw [← hw1]
  clear hw1
  go_wp2_with (first
    | (go_at_call 117; refine hAt2.out.mono ?_; rintro e w3 ⟨a3, m3, c3, rfl, s3, b3⟩
       have b13 := B12.out.trans (b3.mono B12.out.size)
       have hr2 := HR.out.below b13
       obtain ⟨r0, r1, r2, r3⟩ := hr2.facts
       obtain ⟨c0, c1, q⟩ := npk_tell (HA.out.trans (b13.mono HA.out.size)) hr2 (Nat.le_refl _) (o := O) (a := a3) (m := m3) (c := c3) s3 (y := (O.getD ([], 0)).2) rfl (b := O.isSome) rfl rfl
       have q := Lib.hid q
       clear hr2 s3 b3 b13)
    | (go_at_call 120; refine hC.out.mono ?_; rintro e w2 ⟨m, rfl, z1, z2, z3, b2⟩
       have B12 := Lib.hid b2
       have hAt2 := Lib.hid (hAt.out m w2 b2 z1 z2 z3)
       rw [Int.sub_zero] at hAt2
       clear z1 z2 z3 b2))
  exact bodyPost_ret (v := .tuple #[.agg #[.slice a3 m3 c3, .int .u64 (O.getD ([], 0)).2], .bool O.isSome]) (by simp [results, Try.results63, go_sem, c0, c1]) rfl q.out
end Go.Proofs.Ytkonbldjmcccmaa
