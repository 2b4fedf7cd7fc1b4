/- Plain facts on lists of things by their bytes, rising. No program. -/
import Derived.Laws.World
set_option linter.unusedVariables false
set_option linter.unusedSimpArgs false
namespace Go.Proofs.Ytkonbldjmcccmaa

/-- things by their bytes -/
abbrev KV := List (Nat × Value)
def Srt (l : KV) : Prop := (l.map (·.1)).Pairwise (· < ·)
def Low (l : KV) : Prop := ∀ p ∈ l, p.1 < 256
def kget (l : KV) (b : Nat) : Option Value := (l.find? (fun p => p.1 == b)).map (·.2)
def kins (l : KV) (b : Nat) (x : Value) : KV := l.filter (fun p => decide (p.1 < b)) ++ (b, x) :: l.filter (fun p => decide (b < p.1))
def kdel (l : KV) (b : Nat) : KV := l.filter (fun p => decide (p.1 ≠ b))
def knxt (l : KV) (f : Int) : Option (Nat × Value) := l.find? (fun p => decide (f ≤ (p.1 : Int)))
def kprv (l : KV) (f : Int) : Option (Nat × Value) := (l.filter (fun p => decide ((p.1 : Int) ≤ f))).getLast?
def kindOf (n : Nat) : Nat := if n ≤ 4 then 4 else if n ≤ 16 then 16 else if n ≤ 48 then 48 else 256

/-- keys before place i are below t, the others are not -/
def Cut (ks : List Nat) (t i : Nat) : Prop := i ≤ ks.length ∧ (∀ p, p < i → ks.getD p 0 < t) ∧ (∀ p, i ≤ p → p < ks.length → t ≤ ks.getD p 0)
def CutIn (ks : List Nat) (t n i j : Nat) : Prop := (∀ p, p < i → ks.getD p 0 < t) ∧ (∀ p, j ≤ p → p < n → t ≤ ks.getD p 0)

theorem srt_lt {ks : List Nat} (hs : ks.Pairwise (· < ·)) {p q : Nat} (h : p < q) (hq : q < ks.length) : ks.getD p 0 < ks.getD q 0 := by
  have := List.pairwise_iff_getElem.1 hs p q (by omega) hq h
  simpa [List.getD, List.getElem?_eq_getElem hq, List.getElem?_eq_getElem (show p < ks.length by omega)] using this
theorem CutIn.up {ks : List Nat} (hs : ks.Pairwise (· < ·)) {t n i j m : Nat} (h : CutIn ks t n i j) (hm : m < ks.length) (hlt : ks.getD m 0 < t) : CutIn ks t n (m + 1) j :=
  ⟨fun p hp => by
    by_cases e : p = m
    · subst e; exact hlt
    · exact Nat.lt_trans (srt_lt hs (show p < m by omega) hm) hlt, h.2⟩
theorem CutIn.down {ks : List Nat} (hs : ks.Pairwise (· < ·)) {t n i j m : Nat} (hn : ks.length = n) (h : CutIn ks t n i j) (hlt : ¬ ks.getD m 0 < t) : CutIn ks t n i m :=
  ⟨h.1, fun p hp hpn => by
    by_cases e : p = m
    · subst e; omega
    · have := srt_lt hs (show m < p by omega) (by omega); omega⟩

theorem filter_take {α : Type} (l : List α) (q : α → Bool) : ∀ i, i ≤ l.length → (∀ p (h : p < l.length), p < i → q l[p] = true) → (∀ p (h : p < l.length), i ≤ p → q l[p] = false) → l.filter q = l.take i := by
  induction l with
  | nil => intro i hi _ _; simp
  | cons a t ih =>
    intro i hi h1 h2
    cases i with
    | zero =>
      have : q a = false := h2 0 (by simp) (by omega)
      have := ih 0 (by omega) (fun p h hp => by omega) (fun p h hp => h2 (p + 1) (Nat.succ_lt_succ h) (by omega))
      simp_all
    | succ i =>
      have ha : q a = true := h1 0 (by simp) (by omega)
      have := ih i (by simpa using hi) (fun p h hp => h1 (p + 1) (Nat.succ_lt_succ h) (by omega)) (fun p h hp => h2 (p + 1) (Nat.succ_lt_succ h) (by omega))
      simp [ha, this]
theorem filter_drop {α : Type} (l : List α) (q : α → Bool) : ∀ i, i ≤ l.length → (∀ p (h : p < l.length), p < i → q l[p] = false) → (∀ p (h : p < l.length), i ≤ p → q l[p] = true) → l.filter q = l.drop i := by
  induction l with
  | nil => intro i hi _ _; simp
  | cons a t ih =>
    intro i hi h1 h2
    cases i with
    | zero =>
      have : q a = true := h2 0 (by simp) (by omega)
      have := ih 0 (by omega) (fun p h hp => by omega) (fun p h hp => h2 (p + 1) (Nat.succ_lt_succ h) (by omega))
      simp_all
    | succ i =>
      have ha : q a = false := h1 0 (by simp) (by omega)
      have := ih i (by simpa using hi) (fun p h hp => h1 (p + 1) (Nat.succ_lt_succ h) (by omega)) (fun p h hp => h2 (p + 1) (Nat.succ_lt_succ h) (by omega))
      simp [ha, this]

/-- a place in a sorted list, by its keys -/
structure At (l : KV) (b i : Nat) : Prop where
  le : i ≤ l.length
  lo : ∀ p (h : p < l.length), p < i → l[p].1 < b
  hi : ∀ p (h : p < l.length), i ≤ p → b ≤ l[p].1
theorem Cut.at_ {l : KV} {b i : Nat} (h : Cut (l.map (·.1)) b i) : At l b i := by
  obtain ⟨h0, h1, h2⟩ := h
  simp only [List.length_map] at h0 h2
  refine ⟨h0, fun p hp hpi => ?_, fun p hp hpi => ?_⟩
  · have := h1 p hpi; simpa [List.getD, List.getElem?_map, List.getElem?_eq_getElem hp] using this
  · have := h2 p hpi hp; simpa [List.getD, List.getElem?_map, List.getElem?_eq_getElem hp] using this
theorem Srt.lt {l : KV} (h : Srt l) {p q : Nat} (hq : q < l.length) (hpq : p < q) : (l[p]'(by omega)).1 < l[q].1 := by
  have := List.pairwise_iff_getElem.1 h p q (by simpa using (by omega)) (by simpa using hq) hpq
  simpa using this
theorem Srt.nil : Srt [] := List.Pairwise.nil
theorem Srt.keys {l : KV} (h : Srt l) : (l.map (·.1)).Pairwise (· < ·) := h
theorem At.lt {l : KV} {b i : Nat} (h : At l b i) : l.filter (fun p => decide (p.1 < b)) = l.take i :=
  filter_take l _ i h.le (fun p hp hpi => by simpa using h.lo p hp hpi) (fun p hp hpi => by simpa using h.hi p hp hpi)
theorem At.gt {l : KV} (hs : Srt l) {b i : Nat} (h : At l b i) (hn : i < l.length → (l.map (·.1)).getD i 0 ≠ b) : l.filter (fun p => decide (b < p.1)) = l.drop i := by
  refine filter_drop l _ i h.le (fun p hp hpi => ?_) (fun p hp hpi => ?_)
  · have := h.lo p hp hpi; simp; omega
  · have h1 := h.hi p hp hpi
    have hil : i < l.length := by omega
    have h2 : l[i].1 ≠ b := by have := hn hil; simpa [List.getD, List.getElem?_map, List.getElem?_eq_getElem hil] using this
    have h3 := h.hi i hil (by omega)
    by_cases e : p = i
    · subst e; simp; omega
    · have := hs.lt hp (show i < p by omega); simp; omega
theorem At.gt_is {l : KV} (hs : Srt l) {b i : Nat} (h : At l b i) (hil : i < l.length) (hn : (l.map (·.1)).getD i 0 = b) : l.filter (fun p => decide (b < p.1)) = l.drop (i + 1) := by
  have h2 : l[i].1 = b := by simpa [List.getD, List.getElem?_map, List.getElem?_eq_getElem hil] using hn
  refine filter_drop l _ (i + 1) (by omega) (fun p hp hpi => ?_) (fun p hp hpi => ?_)
  · by_cases e : p = i
    · subst e; simp; omega
    · have := h.lo p hp (by omega); simp; omega
  · have := hs.lt hp (show i < p by omega); simp; omega
theorem At.ins {l : KV} (hs : Srt l) {b i : Nat} (h : At l b i) (hn : i < l.length → (l.map (·.1)).getD i 0 ≠ b) (x : Value) : kins l b x = l.take i ++ (b, x) :: l.drop i := by
  rw [kins, h.lt, h.gt hs hn]
theorem At.ins_is {l : KV} (hs : Srt l) {b i : Nat} (h : At l b i) (hil : i < l.length) (hn : (l.map (·.1)).getD i 0 = b) (x : Value) : kins l b x = l.take i ++ (b, x) :: l.drop (i + 1) := by
  rw [kins, h.lt, h.gt_is hs hil hn]
theorem filter_ne {l : KV} (b : Nat) (hs : Srt l) : l.filter (fun p => decide (p.1 ≠ b)) = l.filter (fun p => decide (p.1 < b)) ++ l.filter (fun p => decide (b < p.1)) := by
  induction l with
  | nil => rfl
  | cons a t ih =>
    have hs' : Srt t := (List.pairwise_cons.1 hs).2
    have hlt : ∀ q ∈ t, a.1 < q.1 := fun q hq => (List.pairwise_cons.1 hs).1 q.1 (List.mem_map_of_mem hq)
    have ih := ih hs'
    rcases Nat.lt_trichotomy a.1 b with h | h | h
    · have h1 : a.1 ≠ b := by omega
      have h2 : ¬ b < a.1 := by omega
      rw [List.filter_cons, List.filter_cons, List.filter_cons]
      simp [h, h1, h2, ← ih]
    · have e1 : ∀ q ∈ t, decide (q.1 < b) = false := fun q hq => by have := hlt q hq; simp; omega
      have e2 : t.filter (fun p => decide (p.1 < b)) = [] := by rw [List.filter_eq_nil_iff]; intro q hq; simp [e1 q hq]
      rw [List.filter_cons, List.filter_cons, List.filter_cons]
      have h2 : ¬ b < a.1 := by omega
      have h3 : ¬ a.1 < b := by omega
      simp [h, h2, h3]
      simpa using ih
    · have e2 : t.filter (fun p => decide (p.1 < b)) = [] := by
        rw [List.filter_eq_nil_iff]; intro q hq; have := hlt q hq; simp; omega
      rw [List.filter_cons, List.filter_cons, List.filter_cons]
      have h2 : a.1 ≠ b := by omega
      have h3 : ¬ a.1 < b := by omega
      rw [e2] at ih
      simp [h, h2, h3, e2]
      simpa using ih
theorem At.del {l : KV} (hs : Srt l) {b i : Nat} (h : At l b i) (hil : i < l.length) (hn : (l.map (·.1)).getD i 0 = b) : kdel l b = l.take i ++ l.drop (i + 1) := by
  rw [kdel, filter_ne b hs, h.lt, h.gt_is hs hil hn]
theorem At.del_none {l : KV} (hs : Srt l) {b i : Nat} (h : At l b i) (hn : i < l.length → (l.map (·.1)).getD i 0 ≠ b) : kdel l b = l := by
  rw [kdel, filter_ne b hs, h.lt, h.gt hs hn, List.take_append_drop]
theorem At.get {l : KV} (hs : Srt l) {b i : Nat} (h : At l b i) : kget l b = if h : i < l.length then (if l[i].1 = b then some l[i].2 else none) else none := by
  unfold kget
  split
  · rename_i hil
    split
    · rename_i he
      have : l.find? (fun p => p.1 == b) = some l[i] := by
        rw [List.find?_eq_some_iff_getElem]
        refine ⟨by simpa using he, i, hil, rfl, fun j hj => ?_⟩
        have := h.lo j (by omega) hj; simp; omega
      rw [this]; rfl
    · rename_i he
      have : l.find? (fun p => p.1 == b) = none := by
        rw [List.find?_eq_none]
        intro q hq
        obtain ⟨j, hj, rfl⟩ := List.getElem_of_mem hq
        by_cases hji : j < i
        · have := h.lo j hj hji; simp; omega
        · by_cases e : j = i
          · subst e; simpa using he
          · have := hs.lt hj (show i < j by omega); have := h.hi i hil (by omega); simp; omega
      rw [this]; rfl
  · have : l.find? (fun p => p.1 == b) = none := by
      rw [List.find?_eq_none]
      intro q hq
      obtain ⟨j, hj, rfl⟩ := List.getElem_of_mem hq
      have := h.lo j hj (by omega); simp; omega
    rw [this]; rfl

theorem srt_append {l₁ l₂ : KV} : Srt (l₁ ++ l₂) ↔ Srt l₁ ∧ Srt l₂ ∧ ∀ p ∈ l₁, ∀ q ∈ l₂, p.1 < q.1 := by
  simp [Srt, List.map_append, List.pairwise_append]
theorem Srt.filter {l : KV} (h : Srt l) (q : Nat × Value → Bool) : Srt (l.filter q) := List.Pairwise.sublist (List.Sublist.map _ List.filter_sublist) h
theorem Srt.ins {l : KV} (h : Srt l) (b : Nat) (x : Value) : Srt (kins l b x) := by
  unfold kins
  rw [srt_append]
  refine ⟨h.filter _, ?_, ?_⟩
  · show List.Pairwise _ _
    rw [List.map_cons, List.pairwise_cons]
    exact ⟨by intro k hk; simp at hk; exact hk.2, h.filter _⟩
  · intro p hp q hq
    simp at hp hq
    rcases hq with rfl | hq
    · exact hp.2
    · omega
theorem Srt.del {l : KV} (h : Srt l) (b : Nat) : Srt (kdel l b) := h.filter _
theorem Low.ins {l : KV} (h : Low l) {b : Nat} (hb : b < 256) (x : Value) : Low (kins l b x) := by
  intro p hp
  simp [kins] at hp
  rcases hp with ⟨hp, _⟩ | rfl | ⟨hp, _⟩
  · exact h p hp
  · exact hb
  · exact h p hp
theorem Low.del {l : KV} (h : Low l) (b : Nat) : Low (kdel l b) := fun p hp => h p (List.mem_filter.1 hp).1
theorem get_nil (b : Nat) : kget [] b = none := rfl
theorem mem_get {l : KV} (hs : Srt l) {b : Nat} {x : Value} : kget l b = some x ↔ (b, x) ∈ l := by
  induction l with
  | nil => simp [kget]
  | cons a t ih =>
    have hs' : Srt t := (List.pairwise_cons.1 hs).2
    have hlt : ∀ q ∈ t, a.1 < q.1 := fun q hq => (List.pairwise_cons.1 hs).1 q.1 (List.mem_map_of_mem hq)
    have ih := ih hs'
    unfold kget at ih ⊢
    by_cases e : a.1 = b
    · simp only [List.find?_cons, e, beq_self_eq_true, Option.map_some, Option.some.injEq, List.mem_cons]
      constructor
      · intro h; left; rw [← e, ← h]
      · rintro (h | h)
        · rw [← h]
        · have := hlt _ h; simp at this; omega
    · have : (a.1 == b) = false := by simpa using e
      simp only [List.find?_cons, this, ih, List.mem_cons]
      constructor
      · intro h; exact Or.inr h
      · rintro (h | h)
        · exact absurd (by rw [← h]) e
        · exact h
theorem get_ins {l : KV} (hs : Srt l) (b : Nat) (x : Value) (c : Nat) : kget (kins l b x) c = if c = b then some x else kget l c := by
  apply Option.ext
  intro y
  rw [mem_get (hs.ins b x)]
  split
  · rename_i e; subst e; simp [kins, eq_comm]
  · rename_i e
    rw [mem_get hs]
    simp only [kins, List.mem_append, List.mem_filter, List.mem_cons, Prod.mk.injEq, e, false_and, false_or, decide_eq_true_eq]
    constructor
    · rintro (h | h) <;> exact h.1
    · intro h
      rcases Nat.lt_or_gt_of_ne e with h1 | h1
      · exact Or.inl ⟨h, h1⟩
      · exact Or.inr ⟨h, h1⟩
theorem get_del {l : KV} (hs : Srt l) (b c : Nat) : kget (kdel l b) c = if c = b then none else kget l c := by
  apply Option.ext
  intro y
  rw [mem_get (hs.del b)]
  split
  · rename_i e; subst e; simp [kdel]
  · rename_i e
    rw [mem_get hs]
    simp [kdel, e]
theorem mem_key {l : KV} {b : Nat} : (kget l b).isSome = true ↔ b ∈ l.map (·.1) := by
  unfold kget
  simp [List.find?_isSome]
theorem Srt.ext {l m : KV} (hl : Srt l) (hm : Srt m) (h : ∀ b, kget l b = kget m b) : l = m := by
  have hmem : ∀ p, p ∈ l ↔ p ∈ m := fun p => by rw [← mem_get (b := p.1) (x := p.2) hl, ← mem_get (b := p.1) (x := p.2) hm, h]
  have irr : ∀ {k : KV}, Srt k → k.Pairwise (fun p q => p.1 < q.1) := fun hk => by simpa [Srt, List.pairwise_map] using hk
  have nd : ∀ {k : KV}, Srt k → k.Nodup := fun hk => (irr hk).imp (fun {p q} h e => by subst e; omega)
  have hp : l.Perm m := (List.perm_ext_iff_of_nodup (nd hl) (nd hm)).2 hmem
  exact hp.eq_of_pairwise (fun p q _ _ h1 h2 => by omega) (irr hl) (irr hm)
end Go.Proofs.Ytkonbldjmcccmaa
