/- Plain facts on lists of things by their bytes, rising. No program; Plain facts, second part: the place of a byte in a rising list; Rows of few things (small.Row): what is read; A slice whose memory is known whole: what append makes of it; Rows: the calls that only read; Rows: the calls that make and write; Rows: Drop; Boards of many things (wide.Board): what a board's block holds; what is read; Boards: the calls that only read; Boards: the calls that make and write; Boards: Set at a new byte, Drop, Copy; Boards: Drop, Copy; Boards: Copy; Kids: what they are in memory; the calls that only read; Kids: KindOf, room, New, put; Sorted lists of bytes and things: what is below a byte; how many there may be; kinds; Kids: room of the greater kinds, New, put; Kids: move; Kids: Set and Drop; Kids: Drop and Copy; Kids: Copy; Kids that nobody made; Kids: alive (spunyarnlaw11): five, and four again; Two and three kids side by side, made since a world w0; Bytes that a slice has ahead; A slice of bytes that came in: the bytes that it has ahead; The document's Common, Cmp, Same (spunyarnref01) of bytes. -/
import Derived.Laws.World
import Derived.Test.YtfhdiimcimafkaaGreatDoorProg
import Derived.WalkKit
import Derived.KernelRfl
import Derived.Deep.LoopGhost
import Derived.Deep.QuietTactic
import Derived.BigQuiet
import Derived.Lib.Hide
import Derived.Laws.CopyOwn
import Derived.Deep.RegionLaw
import Derived.Deep.WholeRow
import Derived.Deep.RegionLawGrows
import Derived.WalkSpells
import Derived.Lib.SliceRun
import Derived.StillTailTactics
set_option linter.unusedVariables false
set_option linter.unusedSimpArgs false
/- Plain facts on lists of things by their bytes, rising. No program. -/
namespace Go.Proofs.YtfhdiimcimafkaaGreatDoor

/-- things by their bytes -/
abbrev KV := List (Nat × Value)
def Srt (l : KV) : Prop := (l.map (·.1)).Pairwise (· < ·)
def Low (l : KV) : Prop := ∀ p ∈ l, p.1 < 256
def kget (l : KV) (b : Nat) : Option Value := (l.find? (fun p => p.1 == b)).map (·.2)
def kins (l : KV) (b : Nat) (x : Value) : KV := l.filter (fun p => decide (p.1 < b)) ++ (b, x) :: l.filter (fun p => decide (b < p.1))
def kdel (l : KV) (b : Nat) : KV := l.filter (fun p => decide (p.1 ≠ b))
def knxt (l : KV) (f : Int) : Option (Nat × Value) := l.find? (fun p => decide (f ≤ (p.1 : Int)))
def kprv (l : KV) (f : Int) : Option (Nat × Value) := (l.filter (fun p => decide ((p.1 : Int) ≤ f))).getLast?
def kindOf (n : Nat) : Nat := if n ≤ 4 then 4 else if n ≤ 16 then 16 else if n ≤ 48 then 48 else 256

/-- keys before place i are below t, the others are not -/
def Cut (ks : List Nat) (t i : Nat) : Prop := i ≤ ks.length ∧ (∀ p, p < i → ks.getD p 0 < t) ∧ (∀ p, i ≤ p → p < ks.length → t ≤ ks.getD p 0)
def CutIn (ks : List Nat) (t n i j : Nat) : Prop := (∀ p, p < i → ks.getD p 0 < t) ∧ (∀ p, j ≤ p → p < n → t ≤ ks.getD p 0)

theorem srt_lt {ks : List Nat} (hs : ks.Pairwise (· < ·)) {p q : Nat} (h : p < q) (hq : q < ks.length) : ks.getD p 0 < ks.getD q 0 := by
  have := List.pairwise_iff_getElem.1 hs p q (by omega) hq h
  simpa [List.getD, List.getElem?_eq_getElem hq, List.getElem?_eq_getElem (show p < ks.length by omega)] using this
theorem CutIn.up {ks : List Nat} (hs : ks.Pairwise (· < ·)) {t n i j m : Nat} (h : CutIn ks t n i j) (hm : m < ks.length) (hlt : ks.getD m 0 < t) : CutIn ks t n (m + 1) j :=
  ⟨fun p hp => by
    by_cases e : p = m
    · subst e; exact hlt
    · exact Nat.lt_trans (srt_lt hs (show p < m by omega) hm) hlt, h.2⟩
theorem CutIn.down {ks : List Nat} (hs : ks.Pairwise (· < ·)) {t n i j m : Nat} (hn : ks.length = n) (h : CutIn ks t n i j) (hlt : ¬ ks.getD m 0 < t) : CutIn ks t n i m :=
  ⟨h.1, fun p hp hpn => by
    by_cases e : p = m
    · subst e; omega
    · have := srt_lt hs (show m < p by omega) (by omega); omega⟩

theorem filter_take {α : Type} (l : List α) (q : α → Bool) : ∀ i, i ≤ l.length → (∀ p (h : p < l.length), p < i → q l[p] = true) → (∀ p (h : p < l.length), i ≤ p → q l[p] = false) → l.filter q = l.take i := by
  induction l with
  | nil => intro i hi _ _; simp
  | cons a t ih =>
    intro i hi h1 h2
    cases i with
    | zero =>
      have : q a = false := h2 0 (by simp) (by omega)
      have := ih 0 (by omega) (fun p h hp => by omega) (fun p h hp => h2 (p + 1) (Nat.succ_lt_succ h) (by omega))
      simp_all
    | succ i =>
      have ha : q a = true := h1 0 (by simp) (by omega)
      have := ih i (by simpa using hi) (fun p h hp => h1 (p + 1) (Nat.succ_lt_succ h) (by omega)) (fun p h hp => h2 (p + 1) (Nat.succ_lt_succ h) (by omega))
      simp [ha, this]
theorem filter_drop {α : Type} (l : List α) (q : α → Bool) : ∀ i, i ≤ l.length → (∀ p (h : p < l.length), p < i → q l[p] = false) → (∀ p (h : p < l.length), i ≤ p → q l[p] = true) → l.filter q = l.drop i := by
  induction l with
  | nil => intro i hi _ _; simp
  | cons a t ih =>
    intro i hi h1 h2
    cases i with
    | zero =>
      have : q a = true := h2 0 (by simp) (by omega)
      have := ih 0 (by omega) (fun p h hp => by omega) (fun p h hp => h2 (p + 1) (Nat.succ_lt_succ h) (by omega))
      simp_all
    | succ i =>
      have ha : q a = false := h1 0 (by simp) (by omega)
      have := ih i (by simpa using hi) (fun p h hp => h1 (p + 1) (Nat.succ_lt_succ h) (by omega)) (fun p h hp => h2 (p + 1) (Nat.succ_lt_succ h) (by omega))
      simp [ha, this]

/-- a place in a sorted list, by its keys -/
structure At (l : KV) (b i : Nat) : Prop where
  le : i ≤ l.length
  lo : ∀ p (h : p < l.length), p < i → l[p].1 < b
  hi : ∀ p (h : p < l.length), i ≤ p → b ≤ l[p].1
theorem Cut.at_ {l : KV} {b i : Nat} (h : Cut (l.map (·.1)) b i) : At l b i := by
  obtain ⟨h0, h1, h2⟩ := h
  simp only [List.length_map] at h0 h2
  refine ⟨h0, fun p hp hpi => ?_, fun p hp hpi => ?_⟩
  · have := h1 p hpi; simpa [List.getD, List.getElem?_map, List.getElem?_eq_getElem hp] using this
  · have := h2 p hpi hp; simpa [List.getD, List.getElem?_map, List.getElem?_eq_getElem hp] using this
theorem Srt.lt {l : KV} (h : Srt l) {p q : Nat} (hq : q < l.length) (hpq : p < q) : (l[p]'(by omega)).1 < l[q].1 := by
  have := List.pairwise_iff_getElem.1 h p q (by simpa using (by omega)) (by simpa using hq) hpq
  simpa using this
theorem Srt.nil : Srt [] := List.Pairwise.nil
theorem Srt.keys {l : KV} (h : Srt l) : (l.map (·.1)).Pairwise (· < ·) := h
theorem At.lt {l : KV} {b i : Nat} (h : At l b i) : l.filter (fun p => decide (p.1 < b)) = l.take i :=
  filter_take l _ i h.le (fun p hp hpi => by simpa using h.lo p hp hpi) (fun p hp hpi => by simpa using h.hi p hp hpi)
theorem At.gt {l : KV} (hs : Srt l) {b i : Nat} (h : At l b i) (hn : i < l.length → (l.map (·.1)).getD i 0 ≠ b) : l.filter (fun p => decide (b < p.1)) = l.drop i := by
  refine filter_drop l _ i h.le (fun p hp hpi => ?_) (fun p hp hpi => ?_)
  · have := h.lo p hp hpi; simp; omega
  · have h1 := h.hi p hp hpi
    have hil : i < l.length := by omega
    have h2 : l[i].1 ≠ b := by have := hn hil; simpa [List.getD, List.getElem?_map, List.getElem?_eq_getElem hil] using this
    have h3 := h.hi i hil (by omega)
    by_cases e : p = i
    · subst e; simp; omega
    · have := hs.lt hp (show i < p by omega); simp; omega
theorem At.gt_is {l : KV} (hs : Srt l) {b i : Nat} (h : At l b i) (hil : i < l.length) (hn : (l.map (·.1)).getD i 0 = b) : l.filter (fun p => decide (b < p.1)) = l.drop (i + 1) := by
  have h2 : l[i].1 = b := by simpa [List.getD, List.getElem?_map, List.getElem?_eq_getElem hil] using hn
  refine filter_drop l _ (i + 1) (by omega) (fun p hp hpi => ?_) (fun p hp hpi => ?_)
  · by_cases e : p = i
    · subst e; simp; omega
    · have := h.lo p hp (by omega); simp; omega
  · have := hs.lt hp (show i < p by omega); simp; omega
theorem At.ins {l : KV} (hs : Srt l) {b i : Nat} (h : At l b i) (hn : i < l.length → (l.map (·.1)).getD i 0 ≠ b) (x : Value) : kins l b x = l.take i ++ (b, x) :: l.drop i := by
  rw [kins, h.lt, h.gt hs hn]
theorem At.ins_is {l : KV} (hs : Srt l) {b i : Nat} (h : At l b i) (hil : i < l.length) (hn : (l.map (·.1)).getD i 0 = b) (x : Value) : kins l b x = l.take i ++ (b, x) :: l.drop (i + 1) := by
  rw [kins, h.lt, h.gt_is hs hil hn]
theorem filter_ne {l : KV} (b : Nat) (hs : Srt l) : l.filter (fun p => decide (p.1 ≠ b)) = l.filter (fun p => decide (p.1 < b)) ++ l.filter (fun p => decide (b < p.1)) := by
  induction l with
  | nil => rfl
  | cons a t ih =>
    have hs' : Srt t := (List.pairwise_cons.1 hs).2
    have hlt : ∀ q ∈ t, a.1 < q.1 := fun q hq => (List.pairwise_cons.1 hs).1 q.1 (List.mem_map_of_mem hq)
    have ih := ih hs'
    rcases Nat.lt_trichotomy a.1 b with h | h | h
    · have h1 : a.1 ≠ b := by omega
      have h2 : ¬ b < a.1 := by omega
      rw [List.filter_cons, List.filter_cons, List.filter_cons]
      simp [h, h1, h2, ← ih]
    · have e1 : ∀ q ∈ t, decide (q.1 < b) = false := fun q hq => by have := hlt q hq; simp; omega
      have e2 : t.filter (fun p => decide (p.1 < b)) = [] := by rw [List.filter_eq_nil_iff]; intro q hq; simp [e1 q hq]
      rw [List.filter_cons, List.filter_cons, List.filter_cons]
      have h2 : ¬ b < a.1 := by omega
      have h3 : ¬ a.1 < b := by omega
      simp [h, h2, h3]
      simpa using ih
    · have e2 : t.filter (fun p => decide (p.1 < b)) = [] := by
        rw [List.filter_eq_nil_iff]; intro q hq; have := hlt q hq; simp; omega
      rw [List.filter_cons, List.filter_cons, List.filter_cons]
      have h2 : a.1 ≠ b := by omega
      have h3 : ¬ a.1 < b := by omega
      rw [e2] at ih
      simp [h, h2, h3, e2]
      simpa using ih
theorem At.del {l : KV} (hs : Srt l) {b i : Nat} (h : At l b i) (hil : i < l.length) (hn : (l.map (·.1)).getD i 0 = b) : kdel l b = l.take i ++ l.drop (i + 1) := by
  rw [kdel, filter_ne b hs, h.lt, h.gt_is hs hil hn]
theorem At.del_none {l : KV} (hs : Srt l) {b i : Nat} (h : At l b i) (hn : i < l.length → (l.map (·.1)).getD i 0 ≠ b) : kdel l b = l := by
  rw [kdel, filter_ne b hs, h.lt, h.gt hs hn, List.take_append_drop]
theorem At.get {l : KV} (hs : Srt l) {b i : Nat} (h : At l b i) : kget l b = if h : i < l.length then (if l[i].1 = b then some l[i].2 else none) else none := by
  unfold kget
  split
  · rename_i hil
    split
    · rename_i he
      have : l.find? (fun p => p.1 == b) = some l[i] := by
        rw [List.find?_eq_some_iff_getElem]
        refine ⟨by simpa using he, i, hil, rfl, fun j hj => ?_⟩
        have := h.lo j (by omega) hj; simp; omega
      rw [this]; rfl
    · rename_i he
      have : l.find? (fun p => p.1 == b) = none := by
        rw [List.find?_eq_none]
        intro q hq
        obtain ⟨j, hj, rfl⟩ := List.getElem_of_mem hq
        by_cases hji : j < i
        · have := h.lo j hj hji; simp; omega
        · by_cases e : j = i
          · subst e; simpa using he
          · have := hs.lt hj (show i < j by omega); have := h.hi i hil (by omega); simp; omega
      rw [this]; rfl
  · have : l.find? (fun p => p.1 == b) = none := by
      rw [List.find?_eq_none]
      intro q hq
      obtain ⟨j, hj, rfl⟩ := List.getElem_of_mem hq
      have := h.lo j hj (by omega); simp; omega
    rw [this]; rfl

theorem srt_append {l₁ l₂ : KV} : Srt (l₁ ++ l₂) ↔ Srt l₁ ∧ Srt l₂ ∧ ∀ p ∈ l₁, ∀ q ∈ l₂, p.1 < q.1 := by
  simp [Srt, List.map_append, List.pairwise_append]
theorem Srt.filter {l : KV} (h : Srt l) (q : Nat × Value → Bool) : Srt (l.filter q) := List.Pairwise.sublist (List.Sublist.map _ List.filter_sublist) h
theorem Srt.ins {l : KV} (h : Srt l) (b : Nat) (x : Value) : Srt (kins l b x) := by
  unfold kins
  rw [srt_append]
  refine ⟨h.filter _, ?_, ?_⟩
  · show List.Pairwise _ _
    rw [List.map_cons, List.pairwise_cons]
    exact ⟨by intro k hk; simp at hk; exact hk.2, h.filter _⟩
  · intro p hp q hq
    simp at hp hq
    rcases hq with rfl | hq
    · exact hp.2
    · omega
theorem Srt.del {l : KV} (h : Srt l) (b : Nat) : Srt (kdel l b) := h.filter _
theorem Low.ins {l : KV} (h : Low l) {b : Nat} (hb : b < 256) (x : Value) : Low (kins l b x) := by
  intro p hp
  simp [kins] at hp
  rcases hp with ⟨hp, _⟩ | rfl | ⟨hp, _⟩
  · exact h p hp
  · exact hb
  · exact h p hp
theorem Low.del {l : KV} (h : Low l) (b : Nat) : Low (kdel l b) := fun p hp => h p (List.mem_filter.1 hp).1
theorem get_nil (b : Nat) : kget [] b = none := rfl
theorem mem_get {l : KV} (hs : Srt l) {b : Nat} {x : Value} : kget l b = some x ↔ (b, x) ∈ l := by
  induction l with
  | nil => simp [kget]
  | cons a t ih =>
    have hs' : Srt t := (List.pairwise_cons.1 hs).2
    have hlt : ∀ q ∈ t, a.1 < q.1 := fun q hq => (List.pairwise_cons.1 hs).1 q.1 (List.mem_map_of_mem hq)
    have ih := ih hs'
    unfold kget at ih ⊢
    by_cases e : a.1 = b
    · simp only [List.find?_cons, e, beq_self_eq_true, Option.map_some, Option.some.injEq, List.mem_cons]
      constructor
      · intro h; left; rw [← e, ← h]
      · rintro (h | h)
        · rw [← h]
        · have := hlt _ h; simp at this; omega
    · have : (a.1 == b) = false := by simpa using e
      simp only [List.find?_cons, this, ih, List.mem_cons]
      constructor
      · intro h; exact Or.inr h
      · rintro (h | h)
        · exact absurd (by rw [← h]) e
        · exact h
theorem get_ins {l : KV} (hs : Srt l) (b : Nat) (x : Value) (c : Nat) : kget (kins l b x) c = if c = b then some x else kget l c := by
  apply Option.ext
  intro y
  rw [mem_get (hs.ins b x)]
  split
  · rename_i e; subst e; simp [kins, eq_comm]
  · rename_i e
    rw [mem_get hs]
    simp only [kins, List.mem_append, List.mem_filter, List.mem_cons, Prod.mk.injEq, e, false_and, false_or, decide_eq_true_eq]
    constructor
    · rintro (h | h) <;> exact h.1
    · intro h
      rcases Nat.lt_or_gt_of_ne e with h1 | h1
      · exact Or.inl ⟨h, h1⟩
      · exact Or.inr ⟨h, h1⟩
theorem get_del {l : KV} (hs : Srt l) (b c : Nat) : kget (kdel l b) c = if c = b then none else kget l c := by
  apply Option.ext
  intro y
  rw [mem_get (hs.del b)]
  split
  · rename_i e; subst e; simp [kdel]
  · rename_i e
    rw [mem_get hs]
    simp [kdel, e]
theorem mem_key {l : KV} {b : Nat} : (kget l b).isSome = true ↔ b ∈ l.map (·.1) := by
  unfold kget
  simp [List.find?_isSome]
theorem Srt.ext {l m : KV} (hl : Srt l) (hm : Srt m) (h : ∀ b, kget l b = kget m b) : l = m := by
  have hmem : ∀ p, p ∈ l ↔ p ∈ m := fun p => by rw [← mem_get (b := p.1) (x := p.2) hl, ← mem_get (b := p.1) (x := p.2) hm, h]
  have irr : ∀ {k : KV}, Srt k → k.Pairwise (fun p q => p.1 < q.1) := fun hk => by simpa [Srt, List.pairwise_map] using hk
  have nd : ∀ {k : KV}, Srt k → k.Nodup := fun hk => (irr hk).imp (fun {p q} h e => by subst e; omega)
  have hp : l.Perm m := (List.perm_ext_iff_of_nodup (nd hl) (nd hm)).2 hmem
  exact hp.eq_of_pairwise (fun p q _ _ h1 h2 => by omega) (irr hl) (irr hm)
end Go.Proofs.YtfhdiimcimafkaaGreatDoor
/- Plain facts, second part: the place of a byte in a rising list. -/
namespace Go.Proofs.YtfhdiimcimafkaaGreatDoor

def lb (ks : List Nat) (t : Nat) : Nat := (ks.takeWhile (fun k => decide (k < t))).length
theorem lb_le (ks : List Nat) (t : Nat) : lb ks t ≤ ks.length := (List.takeWhile_prefix _).length_le
theorem lb_cut {ks : List Nat} (hs : ks.Pairwise (· < ·)) (t : Nat) : Cut ks t (lb ks t) := by
  induction ks with
  | nil => exact ⟨by simp [lb], by intro p hp; simp [lb] at hp, by intro p _ hp; simp at hp⟩
  | cons a l ih =>
    obtain ⟨ha, hl⟩ := List.pairwise_cons.1 hs
    obtain ⟨h0, h1, h2⟩ := ih hl
    by_cases e : a < t
    · have eq : lb (a :: l) t = lb l t + 1 := by simp [lb, e]
      rw [eq]
      refine ⟨by simp; omega, fun p hp => ?_, fun p hp hpl => ?_⟩
      · cases p with
        | zero => simpa using e
        | succ p => simpa using h1 p (by omega)
      · cases p with
        | zero => omega
        | succ p => simpa using h2 p (by omega) (by simpa using hpl)
    · have eq : lb (a :: l) t = 0 := by simp [lb, e]
      rw [eq]
      refine ⟨by omega, fun p hp => by omega, fun p hp hpl => ?_⟩
      cases p with
      | zero => simpa using e
      | succ p =>
        have hp' : p < l.length := by simpa using hpl
        have := ha (l[p]) (List.getElem_mem hp')
        simp [List.getD, List.getElem?_eq_getElem hp']
        omega
theorem Cut.uniq {ks : List Nat} {t i j : Nat} (hi : Cut ks t i) (hj : Cut ks t j) : i = j := by
  obtain ⟨a0, a1, a2⟩ := hi
  obtain ⟨b0, b1, b2⟩ := hj
  rcases Nat.lt_trichotomy i j with h | h | h
  · have := b1 i h; have := a2 i (Nat.le_refl _) (by omega); omega
  · exact h
  · have := a1 j h; have := b2 j (Nat.le_refl _) (by omega); omega
theorem Cut.lb {ks : List Nat} (hs : ks.Pairwise (· < ·)) {t i : Nat} (h : Cut ks t i) : i = lb ks t := h.uniq (lb_cut hs t)

def KV.keys (l : KV) : List Nat := l.map (·.1)
/-- the place of byte b -/
def pl (l : KV) (b : Nat) : Nat := lb l.keys b
/-- is byte b there -/
def has (l : KV) (b : Nat) : Bool := decide (pl l b < l.length ∧ l.keys.getD (pl l b) 0 = b)
theorem pl_at {l : KV} (hs : Srt l) (b : Nat) : At l b (pl l b) := (lb_cut hs b).at_
theorem pl_le (l : KV) (b : Nat) : pl l b ≤ l.length := by have := lb_le l.keys b; unfold pl; simp [KV.keys] at this ⊢; exact this
theorem keys_length (l : KV) : l.keys.length = l.length := by simp [KV.keys]
theorem has_yes {l : KV} {b : Nat} (h : has l b = true) : pl l b < l.length ∧ l.keys.getD (pl l b) 0 = b := by simpa [has] using h
theorem has_no {l : KV} {b : Nat} (h : has l b = false) : pl l b < l.length → l.keys.getD (pl l b) 0 ≠ b := by
  intro h1 h2; unfold has at h; rw [decide_eq_false_iff_not] at h; exact h ⟨h1, h2⟩
theorem get_has {l : KV} (hs : Srt l) (b : Nat) : (kget l b).isSome = has l b := by
  rw [(pl_at hs b).get hs]
  unfold has
  by_cases h : pl l b < l.length
  · simp only [h, dif_pos, true_and]
    have : l.keys.getD (pl l b) 0 = l[pl l b].1 := by simp [KV.keys, List.getD, List.getElem?_map, List.getElem?_eq_getElem h]
    rw [this]
    split <;> simp_all
  · simp [h]
theorem get_yes {l : KV} (hs : Srt l) {b : Nat} (h : has l b = true) (z : Nat × Value) : kget l b = some (l.getD (pl l b) z).2 := by
  obtain ⟨h1, h2⟩ := has_yes h
  rw [(pl_at hs b).get hs, dif_pos h1]
  have : l.keys.getD (pl l b) 0 = l[pl l b].1 := by simp [KV.keys, List.getD, List.getElem?_map, List.getElem?_eq_getElem h1]
  rw [if_pos (by rw [← this]; exact h2)]
  simp [List.getD, List.getElem?_eq_getElem h1]
theorem get_no {l : KV} (hs : Srt l) {b : Nat} (h : has l b = false) : kget l b = none := by
  have := get_has hs b
  rw [h] at this
  simpa using this
theorem ins_no {l : KV} (hs : Srt l) {b : Nat} (h : has l b = false) (x : Value) : kins l b x = l.take (pl l b) ++ (b, x) :: l.drop (pl l b) := (pl_at hs b).ins hs (has_no h) x
theorem ins_yes {l : KV} (hs : Srt l) {b : Nat} (h : has l b = true) (x : Value) : kins l b x = l.take (pl l b) ++ (b, x) :: l.drop (pl l b + 1) := (pl_at hs b).ins_is hs (has_yes h).1 (has_yes h).2 x
theorem del_yes {l : KV} (hs : Srt l) {b : Nat} (h : has l b = true) : kdel l b = l.take (pl l b) ++ l.drop (pl l b + 1) := (pl_at hs b).del hs (has_yes h).1 (has_yes h).2
theorem del_no {l : KV} (hs : Srt l) {b : Nat} (h : has l b = false) : kdel l b = l := (pl_at hs b).del_none hs (has_no h)
theorem nxt_pl {l : KV} (hs : Srt l) (b : Nat) : knxt l b = l[pl l b]? := by
  have a := pl_at hs b
  unfold knxt
  cases h : l[pl l b]? with
  | none =>
    have hn : l.length ≤ pl l b := by simpa using h
    rw [List.find?_eq_none]
    intro q hq
    obtain ⟨j, hj, rfl⟩ := List.getElem_of_mem hq
    have := a.lo j hj (by omega); simp; omega
  | some y =>
    obtain ⟨hl, rfl⟩ := List.getElem?_eq_some_iff.1 h
    rw [List.find?_eq_some_iff_getElem]
    refine ⟨by have := a.hi _ hl (Nat.le_refl _); simp; omega, _, hl, rfl, fun j hj => ?_⟩
    have := a.lo j (by omega) hj; simp; omega
theorem nxt_neg (l : KV) {f : Int} (hf : f ≤ 0) : knxt l f = knxt l (0 : Nat) := by
  unfold knxt
  congr 1
  funext p
  have h1 : f ≤ (p.1 : Int) := by omega
  have h2 : ((0 : Nat) : Int) ≤ (p.1 : Int) := by omega
  simp [h1]
theorem nxt_high {l : KV} (hl : Low l) {f : Int} (hf : 255 < f) : knxt l f = none := by
  unfold knxt
  rw [List.find?_eq_none]
  intro p hp
  have := hl p hp; simp; omega
theorem nxt_hit {l : KV} (hs : Srt l) {b : Nat} {v : Value} (h : kget l b = some v) : knxt l (b : Nat) = some (b, v) := by
  have hh : has l b = true := by rw [← get_has hs, h]; rfl
  obtain ⟨h1, h2⟩ := has_yes hh
  have e1 : l.keys.getD (pl l b) 0 = l[pl l b].1 := by simp [KV.keys, List.getD, List.getElem?_map, List.getElem?_eq_getElem h1]
  have e2 := get_yes hs hh (0, .nilIface)
  rw [h] at e2
  simp only [List.getD, List.getElem?_eq_getElem h1, Option.getD_some, Option.some.injEq] at e2
  rw [nxt_pl hs, List.getElem?_eq_getElem h1, Option.some.injEq]
  exact Prod.ext (by omega) e2.symm
theorem get_none_ne {l : KV} (hs : Srt l) {b : Nat} (h : kget l b = none) : ∀ p ∈ l, p.1 ≠ b := by
  intro p hp e
  have := (mem_get (b := p.1) (x := p.2) hs).2 hp
  rw [e, h] at this
  simp at this
theorem find_congr' {α : Type} {l : List α} {p q : α → Bool} (h : ∀ x ∈ l, p x = q x) : l.find? p = l.find? q := by
  induction l with
  | nil => rfl
  | cons a t ih =>
    rw [List.find?_cons, List.find?_cons, h a (by simp), ih (fun x hx => h x (by simp [hx]))]
theorem nxt_miss {l : KV} (hs : Srt l) {b : Nat} (h : kget l b = none) : knxt l (b : Nat) = knxt l ((b + 1 : Nat) : Int) := by
  unfold knxt
  refine find_congr' fun p hp => ?_
  have := get_none_ne hs h p hp
  rw [Bool.eq_iff_iff]
  simp
  omega
theorem prv_miss {l : KV} (hs : Srt l) {b : Nat} (h : kget l b = none) : kprv l (b : Nat) = kprv l ((b : Int) - 1) := by
  unfold kprv
  congr 1
  refine List.filter_congr fun p hp => ?_
  have := get_none_ne hs h p hp
  rw [Bool.eq_iff_iff]
  simp
  omega
theorem prv_take {l : KV} (q : Nat × Value → Bool) (i : Nat) (h : l.filter q = l.take i) (hi : i ≤ l.length) : (l.filter q).getLast? = if i = 0 then none else l[i - 1]? := by
  rw [h, List.getLast?_eq_getElem?]
  split
  · rename_i e; subst e; simp
  · rw [List.length_take, List.getElem?_take, if_pos (by omega)]; congr 1; omega
theorem prv_no {l : KV} (hs : Srt l) {b : Nat} (h : has l b = false) : kprv l b = if pl l b = 0 then none else l[pl l b - 1]? := by
  have a := pl_at hs b
  refine prv_take _ _ ?_ a.le
  refine filter_take l _ _ a.le (fun p hp hpi => ?_) (fun p hp hpi => ?_)
  · have := a.lo p hp hpi; simp; omega
  · have h1 := a.hi p hp hpi
    have hil : pl l b < l.length := by omega
    have h2 := has_no h hil
    have : l.keys.getD (pl l b) 0 = l[pl l b].1 := by simp [KV.keys, List.getD, List.getElem?_map, List.getElem?_eq_getElem hil]
    rw [this] at h2
    have h3 := a.hi _ hil (Nat.le_refl _)
    by_cases e : p = pl l b
    · simp only [e]; simp; omega
    · have := hs.lt hp (show pl l b < p by omega); simp; omega
theorem prv_yes {l : KV} (hs : Srt l) {b : Nat} (h : has l b = true) : kprv l b = l[pl l b]? := by
  have a := pl_at hs b
  obtain ⟨h1, h2⟩ := has_yes h
  have e1 : l.keys.getD (pl l b) 0 = l[pl l b].1 := by simp [KV.keys, List.getD, List.getElem?_map, List.getElem?_eq_getElem h1]
  rw [e1] at h2
  have := prv_take (l := l) (fun p => decide ((p.1 : Int) ≤ b)) (pl l b + 1) (filter_take l _ _ (by omega) (fun p hp hpi => ?_) (fun p hp hpi => ?_)) (by omega)
  · unfold kprv; rw [this]; simp
  · by_cases e : p = pl l b
    · simp only [e]; simp; omega
    · have := a.lo p hp (by omega); simp; omega
  · have := hs.lt hp (show pl l b < p by omega); simp; omega
theorem prv_hit {l : KV} (hs : Srt l) {b : Nat} {v : Value} (h : kget l b = some v) : kprv l (b : Nat) = some (b, v) := by
  have hh : has l b = true := by rw [← get_has hs, h]; rfl
  rw [prv_yes hs hh, ← nxt_pl hs, nxt_hit hs h]
theorem prv_neg (l : KV) {f : Int} (hf : f < 0) : kprv l f = none := by
  unfold kprv
  have : l.filter (fun p => decide ((p.1 : Int) ≤ f)) = [] := by rw [List.filter_eq_nil_iff]; intro p _; simp; omega
  rw [this]; rfl
theorem prv_high {l : KV} (hl : Low l) {f : Int} (hf : 255 ≤ f) : kprv l f = kprv l (255 : Nat) := by
  unfold kprv
  congr 1
  apply List.filter_congr
  intro p hp
  have := hl p hp
  have h1 : (p.1 : Int) ≤ f := by omega
  have h2 : (p.1 : Int) ≤ ((255 : Nat) : Int) := by omega
  simp only [h1, h2]
end Go.Proofs.YtfhdiimcimafkaaGreatDoor
/- Rows of few things (small.Row): what is read. -/
namespace Go.Proofs.YtfhdiimcimafkaaGreatDoor
open Go.RowKit

/-- the world is the old one, some orders having been drawn -/
def Dr (w w' : World) : Prop := ∃ n, w' = w.drewN n
theorem Dr.refl (w : World) : Dr w w := ⟨0, rfl⟩
theorem Dr.step {w w' : World} (h : Dr w w') (n : Nat) : Dr w (w'.drewN n) := by
  obtain ⟨m, rfl⟩ := h
  exact ⟨m + n, World.drewN_drewN ..⟩

theorem isNaNs (x : Int) (w : World) : Calls Tryz.prog 128 #[.int .u8 x] w fun e w' => e = .returned (.bool false) ∧ w = w' := by
  go_enter Tryz.func128, Tryz.ntmps128
  go_wp2
  go_ret
  exact ⟨by simp, rfl⟩
theorem isNaNc (x : Int) (w : World) : Calls Tryz.prog 129 #[.int .u8 x] w fun e w' => e = .returned (.bool false) ∧ w = w' := by
  go_enter Tryz.func129, Tryz.ntmps129
  go_wp2
  go_ret
  exact ⟨by simp, rfl⟩
theorem less_any (x y : Int) (w : World) : Calls Tryz.prog 127 #[.int .u8 x, .int .u8 y] w fun e w' => e = .returned (.bool (decide (x < y))) ∧ w = w' := by
  go_enter Tryz.func127, Tryz.ntmps127
  go_wp2_with (go_at_call 129; refine (isNaNc _ _).mono ?_; rintro e w' ⟨rfl, rfl⟩)
  go_ret
  exact ⟨by simp, rfl⟩

def bsPost (ks : List Nat) (t n : Nat) (w : World) (e : Ending) (w' : World) : Prop := ∃ i : Nat, Cut ks t i ∧ e = .returned (.tuple #[.int .i64 i, .bool (decide (i < n ∧ ks.getD i 0 = t))]) ∧ w = w'

set_option maxHeartbeats 800000 in
theorem bs_any (b o n c : Nat) (ks : List Nat) (t : Nat) (w : World) (hb : n ≤ 1000) (hn : ks.length = n)
    (hs : ks.Pairwise (· < ·)) 
    (hc : ∀ j, j < n → w.cell? ⟨b, o + j, none⟩ = some (.int .u8 (ks.getD j 0 : Nat))) :
    Calls Tryz.prog 123 #[.slice (some ⟨b, o, none⟩) n c, .int .u8 t] w (bsPost ks t n w) := by
  have HN := Lib.hid hn
  have HS := Lib.hid hs
  have HC := Lib.hid hc
  clear hn hs hc
  go_enter Tryz.func123, Tryz.ntmps123
  go_wp2_with fail
  go_loop [7, 8] (fun vi vj => ∃ i j : Nat, i ≤ j ∧ j ≤ n ∧ Hid (CutIn ks t n i j) ∧ vi = .int .i64 i ∧ vj = .int .i64 j) (fun vi vj => (intOf vj - intOf vi).toNat)
  case atStart => exact ⟨0, n, by omega, by omega, Lib.hid ⟨by intro p hp; omega, by intro p h1 h2; omega⟩, rfl, rfl⟩
  case round =>
    obtain ⟨i, j, hij, hjn, HI, rfl, rfl⟩ := hrel
    by_cases hlt : i < j
    · have hc := HC.out ((i+j)/2) (by omega)
      by_cases hlt2 : ks.getD ((i+j)/2) 0 < t
      · have HI2 := Lib.hid (CutIn.up HS.out HI.out (by have := HN.out; omega) hlt2)
        go_wp2_with (go_at_call 127; refine (less_any _ _ _).mono ?_; rintro e w' ⟨rfl, rfl⟩)
        go_round
        case rel => exact ⟨(i + j) / 2 + 1, j, by omega, by omega, HI2, by go_num, rfl⟩
        case measure => simp [intOf]; omega
      · have HI2 := Lib.hid (CutIn.down HS.out HN.out HI.out hlt2)
        go_wp2_with (go_at_call 127; refine (less_any _ _ _).mono ?_; rintro e w' ⟨rfl, rfl⟩)
        go_round
        case rel => exact ⟨i, (i + j) / 2, by omega, by omega, HI2, rfl, by go_num⟩
        case measure => simp [intOf]; omega
    · have hij' : i = j := by omega
      subst hij'
      have HR : Hid (Cut ks t i) := ⟨by have := HN.out; omega, HI.out.1, by have := HN.out; have h2 := HI.out.2; subst this; exact h2⟩
      obtain ⟨x, hx⟩ : ∃ x, x = ks.getD i 0 := ⟨_, rfl⟩
      by_cases hin : i < n
      · have hc := HC.out i hin
        rw [← hx] at hc
        by_cases he : x = t
        · subst he
          have hR : bsPost ks x n w (.returned (.tuple #[.int .i64 i, .bool true])) w := ⟨i, HR.out, by simp [hin, hx], rfl⟩
          clear hx
          go_wp2_with fail
          go_ret2
          exact hR
        · have he2 : ((x : Int) == (t : Int)) = false := beq_eq_false_iff_ne.mpr (by omega)
          have hR : bsPost ks t n w (.returned (.tuple #[.int .i64 i, .bool false])) w := ⟨i, HR.out, by rw [← hx]; simp [he], rfl⟩
          clear hx he
          go_wp2_with (go_at_call 128; refine (isNaNs _ _).mono ?_; rintro e w' ⟨rfl, rfl⟩)
          go_ret2
          exact hR
      · have hR : bsPost ks t n w (.returned (.tuple #[.int .i64 i, .bool false])) w := ⟨i, HR.out, by simp [hin], rfl⟩
        clear hx
        go_wp2_with fail
        go_ret2
        exact hR

theorem bs_is (b o n c : Nat) (l : KV) (t : Nat) (w : World) (hn : l.length = n) (hb : n ≤ 1000) (hs : Srt l)
    (hc : ∀ j, j < n → w.cell? ⟨b, o + j, none⟩ = some (.int .u8 (l.keys.getD j 0 : Nat))) :
    Calls Tryz.prog 123 #[.slice (some ⟨b, o, none⟩) n c, .int .u8 t] w fun e w' => e = .returned (.tuple #[.int .i64 (pl l t : Nat), .bool (has l t)]) ∧ w' = w := by
  subst hn
  refine (bs_any b o _ c l.keys t w hb (by simp [KV.keys]) hs hc).mono ?_
  rintro e w' ⟨i, hcut, rfl, rfl⟩
  have := hcut.lb hs
  subst this
  exact ⟨rfl, rfl⟩

/-- What a row's block holds. -/
structure RowIs (ty : Nat) (w : World) (r rm : Nat) (l : KV) (B X : List Value) : Prop where
  blk : w.heap[r]? = some (.cells (.int .i64 rm :: .int .i64 l.length :: (B ++ X)).toArray ty (0, 0))
  lB : B.length = 16
  lX : X.length = 16
  bs : B.take l.length = l.map (fun p => .int .u8 (p.1 : Nat))
  xs : X.take l.length = l.map (·.2)
  le : l.length ≤ rm
  r1 : 1 ≤ rm
  r16 : rm ≤ 16
  srt : Srt l
  low : Low l
  one : ∀ v ∈ B ++ X, v.oneCell' = true
def RowAt (ty : Nat) (w : World) (r rm : Nat) (l : KV) : Prop := ∃ B X, RowIs ty w r rm l B X

section
variable {ty : Nat} {w : World} {r rm : Nat} {l : KV} {B X : List Value}
theorem cell_of_blk {w : World} {b : Nat} {c : List Value} {t : Nat} (h : w.heap[b]? = some (.cells c.toArray t (0, 0))) (j : Nat) : w.cell? ⟨b, j, none⟩ = c[j]? := by
  simp [World.cell?, h]
theorem frozen_of_blk {w : World} {b : Nat} {c : Array Value} {t : Nat} (h : w.heap[b]? = some (.cells c t (0, 0))) (j : Nat) : w.frozen? ⟨b, j, none⟩ = false := by
  simp [World.frozen?, h]
theorem RowIs.c0 (h : RowIs ty w r rm l B X) : w.cell? ⟨r, 0, none⟩ = some (.int .i64 rm) := by rw [cell_of_blk h.blk]; rfl
theorem RowIs.c1 (h : RowIs ty w r rm l B X) : w.cell? ⟨r, 1, none⟩ = some (.int .i64 l.length) := by rw [cell_of_blk h.blk]; rfl
theorem take_get {α : Type} {L M : List α} {n j : Nat} (h : L.take n = M) (hj : j < n) : L[j]? = M[j]? := by
  rw [← h, List.getElem?_take, if_pos hj]
theorem RowIs.cb (h : RowIs ty w r rm l B X) (j : Nat) (hj : j < l.length) : w.cell? ⟨r, 2 + j, none⟩ = some (.int .u8 (l.keys.getD j 0 : Nat)) := by
  rw [cell_of_blk h.blk, show 2 + j = (j + 1) + 1 from by omega, List.getElem?_cons_succ, List.getElem?_cons_succ,
    List.getElem?_append_left (by have := h.lB; have := h.le; have := h.r16; omega), take_get h.bs hj]
  simp [KV.keys, List.getElem?_map, List.getElem?_eq_getElem hj]
theorem RowIs.cx (h : RowIs ty w r rm l B X) (j : Nat) (hj : j < l.length) (z : Nat × Value) : w.cell? ⟨r, 18 + j, none⟩ = some (l.getD j z).2 := by
  rw [cell_of_blk h.blk, show 18 + j = (16 + j + 1) + 1 from by omega, List.getElem?_cons_succ, List.getElem?_cons_succ,
    List.getElem?_append_right (by have := h.lB; omega), h.lB, show 16 + j - 16 = j from by omega, take_get h.xs hj]
  simp [List.getElem?_map, List.getElem?_eq_getElem hj]
theorem RowIs.n16 (h : RowIs ty w r rm l B X) : l.length ≤ 16 := Nat.le_trans h.le h.r16
theorem RowIs.keep {w' : World} (h : RowIs ty w r rm l B X) (hk : w'.heap[r]? = w.heap[r]?) : RowIs ty w' r rm l B X :=
  ⟨hk.trans h.blk, h.lB, h.lX, h.bs, h.xs, h.le, h.r1, h.r16, h.srt, h.low, h.one⟩
theorem RowAt.keep {w' : World} (h : RowAt ty w r rm l) (hk : w'.heap[r]? = w.heap[r]?) : RowAt ty w' r rm l := by
  obtain ⟨B, X, h⟩ := h; exact ⟨B, X, h.keep hk⟩
theorem RowIs.oneV (h : RowIs ty w r rm l B X) : ∀ p ∈ l, p.2.oneCell' = true := by
  intro p hp
  have : p.2 ∈ X.take l.length := by rw [h.xs]; exact List.mem_map_of_mem hp
  exact h.one _ (List.mem_append_right _ (List.mem_of_mem_take this))
theorem RowIs.lt (h : RowIs ty w r rm l B X) : r < w.heap.size := (Array.getElem?_eq_some_iff.1 h.blk).1
end

/-- What may have changed: blocks in S alone; no block has gone. -/
structure Mod (S : Nat → Prop) (w w' : World) : Prop where
  os : w'.os = w.os
  tape : w'.tape = w.tape
  output : w'.output = w.output
  size : w.heap.size ≤ w'.heap.size
  same : ∀ k, k < w.heap.size → ¬ S k → w'.heap[k]? = w.heap[k]?
theorem Mod.refl (S : Nat → Prop) (w : World) : Mod S w w := ⟨rfl, rfl, rfl, Nat.le_refl _, fun _ _ _ => rfl⟩
theorem Mod.trans {S : Nat → Prop} {a b c : World} (h : Mod S a b) (k : Mod S b c) : Mod S a c :=
  ⟨k.os.trans h.os, k.tape.trans h.tape, k.output.trans h.output, Nat.le_trans h.size k.size, fun i hi hs => (k.same i (Nat.lt_of_lt_of_le hi h.size) hs).trans (h.same i hi hs)⟩
theorem Mod.mono {S T : Nat → Prop} {a b : World} (h : Mod S a b) (hs : ∀ k, k < a.heap.size → S k → T k) : Mod T a b :=
  ⟨h.os, h.tape, h.output, h.size, fun i hi ht => h.same i hi (fun e => ht (hs i hi e))⟩
/-- a step that changes more, but of old blocks only such as S has -/
theorem Mod.then {S T : Nat → Prop} {a b c : World} (h : Mod S a b) (k : Mod T b c) (hs : ∀ i, i < a.heap.size → T i → S i) : Mod S a c :=
  ⟨k.os.trans h.os, k.tape.trans h.tape, k.output.trans h.output, Nat.le_trans h.size k.size, fun i hi hn => (k.same i (Nat.lt_of_lt_of_le hi h.size) (fun e => hn (hs i hi e))).trans (h.same i hi hn)⟩
theorem Mod.drewN {S : Nat → Prop} {a b : World} (h : Mod S a b) (n : Nat) : Mod S a (b.drewN n) := ⟨h.os, h.tape, h.output, h.size, h.same⟩
theorem Mod.drew {S : Nat → Prop} {a b : World} (h : Mod S a b) : Mod S a b.drew := ⟨h.os, h.tape, h.output, h.size, h.same⟩
theorem Mod.alloc {S : Nat → Prop} {a b : World} (h : Mod S a b) (o : Obj) : Mod S a (b.alloc o) :=
  h.trans ⟨rfl, rfl, rfl, by simp, fun k hk _ => Below.heap_alloc _ _ _ hk⟩
theorem Mod.setCell {S : Nat → Prop} {a b : World} (h : Mod S a b) (p : Addr) (v : Value) (hp : p.block < a.heap.size → S p.block) : Mod S a (b.setCell p v) :=
  h.then (T := fun k => k = p.block) ⟨rfl, rfl, rfl, by simp [World.setCell], fun k _ hn => Below.heap_setCell _ _ _ _ hn⟩ (fun i hi e => by subst e; exact hp hi)
theorem Mod.setRow {S : Nat → Prop} {a b : World} (h : Mod S a b) (g : Nat) (c : Array Value) (hp : g < a.heap.size → S g) : Mod S a (b.setRow g c) :=
  h.then (T := fun k => k = g) ⟨rfl, rfl, rfl, by simp, fun k _ hn => setRow_other _ _ _ _ hn⟩ (fun i hi e => by subst e; exact hp hi)
theorem Mod.below {w w' : World} (h : Mod (fun _ => False) w w') : Below w.heap.size w w' := ⟨h.os, h.tape, h.output, h.size, fun k hk => h.same k hk (fun e => e)⟩
theorem Mod.of_below {S : Nat → Prop} {w w' : World} (h : Below w.heap.size w w') : Mod S w w' := ⟨h.os, h.tape, h.output, h.size, fun k hk _ => h.block k hk⟩

/-- copy from one place of a block into another one, as one step of a region that draws -/
theorem step_copy_in {P : Program} {ops : Array Oper} {o : Oper} {a : Act} {w : World} {K : Act → World → Prop} {Q : Exit → Act → World → Prop} {E : Prop} (hgd : o.guard = none) (d s : Operand) (dT sT : TypeId)
    (ho : o.op = .call { callee := .builtin .copy, args := #[d, s], argTypes := #[dT, sT] }) (elem : TypeId) (hu : P.underlying dT = some (.slice elem)) (hsz : (P.info? elem).map (·.size) = some 1)
    (dp sp : Option Addr) (dLen dCap sLen sCap : Nat) (hd : a.eval d = .slice dp dLen dCap) (hs : a.eval s = .slice sp sLen sCap)
    (g off : Nat) (cur : List Value) (t : TypeId) (hg : w.heap[g]? = some (.cells cur.toArray t (0, 0))) (cs : List Value) (hn : cs.length = Nat.min sLen dLen)
    (hpos : 0 < cs.length → dp = some ⟨g, off, none⟩ ∧ ∃ ad, sp = some ad ∧ ∀ j v, cs[j]? = some v → w.cell? (ad.add j) = some v)
    (hfit : off + cs.length ≤ cur.length) (h1 : ∀ v ∈ cs, v.oneCell' = true)
    (h : ∀ w', Hid (w'.heap[g]? = some (.cells (splice cur off cs).toArray t (0, 0))) → Hid (Mod (· = g) w w') → K (a.put o.dst (goInt cs.length)) w') :
    if Region.wanted o (yielded ops a.tmps) = true then Oper.wp P o a w K Q else E := by
  have hw : Region.wanted o (yielded ops a.tmps) = true := by simp [Region.wanted, hgd]
  rw [if_pos hw]
  by_cases h0 : cs.length = 0
  · obtain rfl : cs = [] := List.eq_nil_of_length_eq_zero h0
    have hrun := run_copy_none (P := P) w dT sT o.type elem dp sp dLen dCap sLen sCap hu hsz (by simpa using hn.symm)
    unfold Oper.wp
    simp [execOp, ho, resolve, invoke, builtin, hd, hs, hrun, Result.andThen]
    exact h w (show _ = _ by rw [show splice cur off [] = cur from by simp [splice]]; exact hg) (Mod.refl _ _)
  · obtain ⟨rfl, ad, rfl, hsrc⟩ := hpos (by omega)
    have hrun := run_copy_row (P := P) w dT sT o.type elem g off dLen dCap ad sLen sCap cur.toArray t cs hu hsz hg hn hsrc (by simpa using hfit) h1
    unfold Oper.wp
    simp [execOp, ho, resolve, invoke, builtin, hd, hs, hrun, Result.andThen]
    exact h _ (show _ = _ by rw [setRow_heap w g _ _ t _ hg]; simp [splice]) ((Mod.refl _ _).setRow _ _ (fun _ => rfl))
end Go.Proofs.YtfhdiimcimafkaaGreatDoor
/- A slice whose memory is known whole: what append makes of it. -/
namespace Go.Proofs.YtfhdiimcimafkaaGreatDoor
open Go.RowKit

/-- v is a slice of one-cell things that reads xs: nil, or the head of block g -/
def Own (ty : Nat) (w : World) (v : Value) (xs : List Value) (bo : Option Nat) : Prop :=
  (v = .slice none 0 0 ∧ xs = [] ∧ bo = none) ∨
  (∃ g cap cur, bo = some g ∧ v = .slice (some ⟨g, 0, none⟩) xs.length cap ∧ w.heap[g]? = some (.cells cur ty (0, 0)) ∧ xs.length ≤ cap ∧ cap ≤ maxLen ∧ cur.size = cap ∧ cur.toList.take xs.length = xs)
/-- the block is the old one, or a new one -/
def NewOr (w : World) (bo bo' : Option Nat) : Prop := bo' = bo ∨ ∃ g, bo' = some g ∧ w.heap.size ≤ g

theorem Own.nil (ty : Nat) (w : World) : Own ty w (.slice none 0 0) [] none := Or.inl ⟨rfl, rfl, rfl⟩
theorem Own.len {ty : Nat} {w : World} {v : Value} {xs : List Value} {bo : Option Nat} (h : Own ty w v xs bo) : ∃ a c, v = .slice a xs.length c := by
  rcases h with ⟨rfl, rfl, rfl⟩ | ⟨g, cap, cur, rfl, rfl, _⟩
  · exact ⟨_, _, rfl⟩
  · exact ⟨_, _, rfl⟩
theorem Own.lt {ty : Nat} {w : World} {v : Value} {xs : List Value} {g : Nat} (h : Own ty w v xs (some g)) : g < w.heap.size := by
  rcases h with ⟨_, _, h⟩ | ⟨g', cap, cur, e, _, hg, _⟩
  · simp at h
  · cases e; exact (Array.getElem?_eq_some_iff.1 hg).1
theorem Own.keep {ty : Nat} {w w' : World} {v : Value} {xs : List Value} {bo : Option Nat} (h : Own ty w v xs bo) (hk : ∀ g, bo = some g → w'.heap[g]? = w.heap[g]?) : Own ty w' v xs bo := by
  rcases h with h | ⟨g, cap, cur, rfl, hv, hg, r⟩
  · exact Or.inl h
  · exact Or.inr ⟨g, cap, cur, rfl, hv, (hk g rfl).trans hg, r⟩
theorem Own.at_ {ty : Nat} {w : World} {v : Value} {xs : List Value} {bo : Option Nat} (h : Own ty w v xs bo) {j : Nat} (hj : j < xs.length) : ∃ g cap, bo = some g ∧ v = .slice (some ⟨g, 0, none⟩) xs.length cap ∧ w.cell? ⟨g, j, none⟩ = some xs[j] ∧ w.frozen? ⟨g, j, none⟩ = false ∧ xs.length ≤ cap := by
  rcases h with ⟨_, rfl, _⟩ | ⟨g, cap, cur, rfl, rfl, hg, hl, hm, hs, ht⟩
  · simp at hj
  · refine ⟨g, cap, rfl, rfl, ?_, frozen_of_blk hg j, hl⟩
    rw [cell_of_row w g j cur ty (0, 0) hg]
    have := take_get ht hj
    rw [List.getElem?_eq_getElem hj] at this
    simpa using this
theorem Own.take {ty : Nat} {w : World} {v : Value} {xs : List Value} {g : Nat} {n : Nat} {cap : Nat} (h : Own ty w v xs (some g)) (hv : v = .slice (some ⟨g, 0, none⟩) xs.length cap) (hn : n ≤ xs.length) : Own ty w (.slice (some ⟨g, 0, none⟩) n cap) (xs.take n) (some g) := by
  rcases h with ⟨_, _, h⟩ | ⟨g', cap', cur, e, hv', hg, hl, hm, hs, ht⟩
  · simp at h
  · cases e
    rw [hv] at hv'
    simp only [Value.slice.injEq, true_and] at hv'
    obtain rfl := hv'
    have e : (xs.take n).length = n := by simp; omega
    exact Or.inr ⟨g, cap, cur, rfl, by rw [e], hg, by omega, hm, hs, by rw [e, ← ht, List.take_take, Nat.min_eq_left hn]⟩
theorem Own.set {ty : Nat} {w : World} {v : Value} {xs : List Value} {g : Nat} (h : Own ty w v xs (some g)) (j : Nat) (x : Value) : Own ty (w.setCell ⟨g, j, none⟩ x) v (xs.set j x) (some g) := by
  rcases h with ⟨_, _, h⟩ | ⟨g', cap, cur, e, hv, hg, hl, hm, hs, ht⟩
  · simp at h
  · cases e
    refine Or.inr ⟨g, cap, cur.setIfInBounds j x, rfl, by simpa using hv, ?_, by simpa using hl, hm, by simpa using hs, ?_⟩
    · rw [setCell_eq_setRow w g j cur ty (0, 0) x hg, setRow_heap w g _ _ _ _ hg]
    · simp only [List.length_set, Array.toList_setIfInBounds]
      rw [List.take_set, ht]

section
variable {P : Program}
theorem run_append_at (w : World) (t ty e : TypeId) (i : TypeInfo) (z : Value) (bytes : Nat) (ht : P.underlying t = some (.slice e)) (hi : P.info? e = some i) (hz : i.zero = some z)
    (hsize : i.size = 1) (hby : i.bytes = bytes) (hzs : z.cells.size = 1)
    (v : Value) (xs : List Value) (bo : Option Nat) (hown : Own e w v xs bo)
    (a : Addr) (m c : Nat) (news : List Value) (hl : news.length = m) (hnews : ∀ j u, news[j]? = some u → w.cell? (a.add j) = some u) (h1 : ∀ u ∈ news, u.oneCell' = true)
    (h63 : xs.length + m ≤ maxLen) (hbytes : (xs.length + m) * bytes ≤ 140737488355328) :
    ∃ v' w' bo', (Builtin.append_ #[t, t] ty #[v, .slice (some a) m c]).run P w = .ok v' w' ∧ Own e w' v' (xs ++ news) bo' ∧ Mod (fun k => bo = some k) w w' ∧ NewOr w bo bo' := by
  have fresh : ∀ v' w', w'.ownsRow w.heap.size e 1 v' (xs.length + m) (xs ++ news) → ∃ bo', Own e w' v' (xs ++ news) bo' ∧ (bo' = none ∨ ∃ g, bo' = some g ∧ w.heap.size ≤ g) := by
    intro v' w' ho
    have hlen : (xs ++ news).length = xs.length + m := by simp [hl]
    rcases ho.2 with ⟨rfl, h0⟩ | ⟨g, cap, cur, rfl, hb, hg, h2, h3, h4, h5⟩
    · exact ⟨none, Or.inl ⟨rfl, List.eq_nil_of_length_eq_zero (by omega), rfl⟩, Or.inl rfl⟩
    · exact ⟨some g, Or.inr ⟨g, cap, cur, rfl, by rw [hlen], hg, by omega, h3, by omega, by rw [hlen]; simpa using h5⟩, Or.inr ⟨g, rfl, hb⟩⟩
  rcases hown with ⟨rfl, rfl, rfl⟩ | ⟨g, cap, cur, rfl, rfl, hg, hnc, hcm, hcs, htake⟩
  · obtain ⟨v', w', hr, h2, h3, _⟩ := run_append_own (P := P) w w.heap.size t ty e i z 1 bytes ht hi hz hsize hby hzs (by omega) (.slice none 0 0) 0 [] (World.ownsRow_nil w _ e 1) a m c news (by omega) hnews h1 (by simpa using h63) (by simpa using hbytes) (Nat.le_refl _)
    obtain ⟨bo', ho, hn⟩ := fresh v' w' (by simpa using h2)
    refine ⟨v', w', bo', hr, by simpa using ho, ⟨h3.os, h3.tape, h3.output, h3.size, fun k hk _ => h3.block k hk (by simp [Value.ownBlock])⟩, ?_⟩
    rcases hn with rfl | h
    · exact Or.inl rfl
    · exact Or.inr h
  · by_cases hroom : xs.length + m ≤ cap
    · have hr := run_append_room (P := P) w t ty e i ht hi g xs.length cap cur hg a m c news (by rw [hsize]; omega) hnews h1 hroom (by rw [hsize]; omega)
      refine ⟨_, _, some g, hr, Or.inr ⟨g, cap, _, rfl, by simp [hl], setRow_heap w g cur _ e _ hg, by simp; omega, hcm, ?_, ?_⟩, (Mod.refl _ w).setRow g _ (fun _ => rfl), Or.inl rfl⟩
      · simp [hsize]; omega
      · have hlen : (cur.toList.take xs.length ++ news).length = (xs ++ news).length := by rw [htake]
        simp only [hsize, Nat.mul_one]
        rw [htake]
        exact List.take_left
    · have holds : ∀ j u, xs[j]? = some u → w.cell? ((⟨g, 0, none⟩ : Addr).add j) = some u := by
        intro j u hj
        have hjl : j < xs.length := by
          by_cases h : j < xs.length
          · exact h
          · rw [List.getElem?_eq_none (by omega)] at hj; simp at hj
        have e : (⟨g, 0, none⟩ : Addr).add j = ⟨g, j, none⟩ := by unfold Addr.add; split <;> simp_all
        rw [e, cell_of_row w g j cur _ (0, 0) hg, ← hj, ← take_get htake hjl]
        simp
      obtain ⟨v', w', hr, h2, h3⟩ := run_append_arg_grows (P := P) w t ty e i z 1 bytes ht hi hz hsize hby hzs (by omega) ⟨g, 0, none⟩ xs.length cap xs (by omega) holds a m c news (by omega) hnews (by omega) h63 hbytes
      obtain ⟨bo', ho, hn⟩ := fresh v' w' h2
      refine ⟨v', w', bo', hr, ho, ⟨h3.os, h3.tape, h3.output, h3.size, fun k hk _ => h3.block k hk (by simp)⟩, ?_⟩
      rcases hn with rfl | h
      · rcases ho with ⟨_, h0, _⟩ | ⟨_, _, _, h0, _⟩
        · have : xs.length + news.length = 0 := by rw [← List.length_append, h0]; rfl
          omega
        · simp at h0
      · exact Or.inr h

theorem wpList_append_at {w : World} {ops : Array Oper} {rest : List Oper} {o : Oper} {a : Act} {Q : Exit → Act → World → Prop} (hgd : o.guard = none) (s x : Operand) (t : TypeId)
    (ho : o.op = .call { callee := .builtin .append, args := #[s, x], argTypes := #[t, t] }) (e : TypeId) (z : Value) (bytes : Nat) (ht : P.underlying t = some (.slice e)) (hinfo : (P.info? e).map (fun i => (i.zero, i.size, i.bytes)) = some (some z, 1, bytes)) (hzs : z.cells.size = 1)
    (v : Value) (hs : a.eval s = v) (xs : List Value) (bo : Option Nat) (hown : Own e w v xs bo)
    (ad : Addr) (m c : Nat) (news : List Value) (hx : a.eval x = .slice (some ad) m c) (hl : news.length = m) (hnews : ∀ j u, news[j]? = some u → w.cell? (ad.add j) = some u) (h1 : ∀ u ∈ news, u.oneCell' = true)
    (h63 : xs.length + m ≤ maxLen) (hbytes : (xs.length + m) * bytes ≤ 140737488355328)
    (h : ∀ v' w' bo', Hid (Own e w' v' (xs ++ news) bo') → Hid (Mod (fun k => bo = some k) w w') → Hid (NewOr w bo bo') → wpList P ops Q rest (a.put o.dst v') w') : wpList P ops Q (o :: rest) a w := by
  obtain ⟨i, hi, hz, hsize, hby⟩ := info_parts hinfo
  refine wpList_plain hgd fun K hK => ?_
  obtain ⟨v', w', bo', hr, h2, h3, h4⟩ := run_append_at (P := P) w t o.type e i z bytes ht hi hz hsize hby hzs v xs bo hown ad m c news hl hnews h1 h63 hbytes
  unfold Oper.wp execOp
  simp only [ho, resolve, invoke, builtin, Sem.run_bind, Sem.run_pure, Result.andThen_ok, List.map_toArray, List.map_cons, List.map_nil, hs, hx, hr]
  exact hK _ _ (h v' w' bo' h2 h3 h4)
theorem step_append_at {w : World} {ops : Array Oper} {o : Oper} {a : Act} {K : Act → World → Prop} {Q : Exit → Act → World → Prop} {E : Prop} (hgd : o.guard = none) (s x : Operand) (t : TypeId)
    (ho : o.op = .call { callee := .builtin .append, args := #[s, x], argTypes := #[t, t] }) (e : TypeId) (z : Value) (bytes : Nat) (ht : P.underlying t = some (.slice e)) (hinfo : (P.info? e).map (fun i => (i.zero, i.size, i.bytes)) = some (some z, 1, bytes)) (hzs : z.cells.size = 1)
    (v : Value) (hs : a.eval s = v) (xs : List Value) (bo : Option Nat) (hown : Own e w v xs bo)
    (ad : Addr) (m c : Nat) (news : List Value) (hx : a.eval x = .slice (some ad) m c) (hl : news.length = m) (hnews : ∀ j u, news[j]? = some u → w.cell? (ad.add j) = some u) (h1 : ∀ u ∈ news, u.oneCell' = true)
    (h63 : xs.length + m ≤ maxLen) (hbytes : (xs.length + m) * bytes ≤ 140737488355328)
    (h : ∀ v' w' bo', Hid (Own e w' v' (xs ++ news) bo') → Hid (Mod (fun k => bo = some k) w w') → Hid (NewOr w bo bo') → K (a.put o.dst v') w') :
    if Region.wanted o (yielded ops a.tmps) = true then Oper.wp P o a w K Q else E := by
  have hw : Region.wanted o (yielded ops a.tmps) = true := by simp [Region.wanted, hgd]
  rw [if_pos hw]
  obtain ⟨i, hi, hz, hsize, hby⟩ := info_parts hinfo
  obtain ⟨v', w', bo', hr, h2, h3, h4⟩ := run_append_at (P := P) w t o.type e i z bytes ht hi hz hsize hby hzs v xs bo hown ad m c news hl hnews h1 h63 hbytes
  unfold Oper.wp execOp
  simp only [ho, resolve, invoke, builtin, Sem.run_bind, Sem.run_pure, Result.andThen_ok, List.map_toArray, List.map_cons, List.map_nil, hs, hx, hr]
  exact h v' w' bo' h2 h3 h4
end
end Go.Proofs.YtfhdiimcimafkaaGreatDoor
/- Rows: the calls that only read. -/
namespace Go.Proofs.YtfhdiimcimafkaaGreatDoor
open Go.RowKit
namespace I
variable {w : World} {r rm : Nat} {l : KV} {B X : List Value}
/-- what stands at place j, as the calls tell it -/
def atV (o : Option (Nat × Value)) : Value := match o with
  | some p => .tuple #[.int .u8 (p.1 : Nat), p.2, .bool true]
  | none => .tuple #[.int .u8 0, (.int .i64 0), .bool false]
/-- what Get tells -/
def getV (o : Option Value) : Value := match o with
  | some v => .tuple #[v, .bool true]
  | none => .tuple #[(.int .i64 0), .bool false]
/-- behind a place: a byte, a thing, and whether -/
def trip (V a b c : Value) : Prop := V = .tuple #[a, b, c]
theorem atV_trip (o : Option (Nat × Value)) : ∃ a b c, trip (atV o) a b c := by
  cases o with
  | none => exact ⟨_, _, _, rfl⟩
  | some p => exact ⟨_, _, _, rfl⟩
end I

namespace N
abbrev rowT : Nat := 143
theorem ok_nil (w : World) : Calls Tryz.prog 100 #[.pointer none] w fun e w' => e = .returned (.bool false) ∧ w = w' := by
  go_enter Tryz.func100, Tryz.ntmps100
  go_wp2_with fail
  go_ret
  exact ⟨rfl, rfl⟩
theorem ok_yes (w : World) (r rm : Nat) (hc : w.cell? ⟨r, 0, none⟩ = some (.int .i64 rm)) (h : 0 < rm) : Calls Tryz.prog 100 #[.pointer (some ⟨r, 0, none⟩)] w fun e w' => e = .returned (.bool true) ∧ w = w' := by
  go_enter Tryz.func100, Tryz.ntmps100
  go_wp2_with fail
  go_ret
  exact ⟨rfl, rfl⟩
variable {w : World} {r rm : Nat} {l : KV} {B X : List Value}
theorem row_len (h : RowIs rowT w r rm l B X) : Calls Tryz.prog 89 #[.pointer (some ⟨r, 0, none⟩)] w fun e w' => e = .returned (.int .i64 l.length) ∧ w = w' := by
  have c0 := h.c0
  have c1 := h.c1
  have hr := h.r1
  clear h
  go_enter Tryz.func89, Tryz.ntmps89
  go_wp2_with (go_at_call 100; refine (ok_yes _ _ _ c0 hr).mono ?_; rintro e w' ⟨rfl, rfl⟩)
  go_ret
  exact ⟨rfl, rfl⟩
theorem row_room (h : RowIs rowT w r rm l B X) : Calls Tryz.prog 84 #[.pointer (some ⟨r, 0, none⟩)] w fun e w' => e = .returned (.int .i64 rm) ∧ w = w' := by
  have c0 := h.c0
  have hr := h.r1
  clear h
  go_enter Tryz.func84, Tryz.ntmps84
  go_wp2_with (go_at_call 100; refine (ok_yes _ _ _ c0 hr).mono ?_; rintro e w' ⟨rfl, rfl⟩)
  go_ret
  exact ⟨rfl, rfl⟩
set_option maxHeartbeats 800000 in
theorem row_place (h : RowIs rowT w r rm l B X) (b : Nat) : Calls Tryz.prog 108 #[.pointer (some ⟨r, 0, none⟩), .int .u8 b] w fun e w' => e = .returned (.tuple #[.int .i64 (pl l b : Nat), .bool (has l b)]) ∧ ∃ n, w' = w.drewN n := by
  have c1 := h.c1
  have h16 : (l.length : Int) ≤ 16 := by have := h.n16; omega
  have hbs : ∀ (n : Nat), Hid (Calls Tryz.prog 123 #[.slice (some ⟨r, 2, none⟩) l.length 16, .int .u8 b] (w.drewN n) fun e w' => e = .returned (.tuple #[.int .i64 (pl l b : Nat), .bool (has l b)]) ∧ w' = w.drewN n) :=
    fun n => bs_is r 2 _ 16 l b (w.drewN n) rfl (by have := h.n16; omega) h.srt h.cb
  clear h
  go_enter Tryz.func108, Tryz.ntmps108
  go_wp2_with fail
  go_quiet ((go_at_call 123; exact Calls.quiet_of_same (hbs _).out))
  go_wp2_with fail
  go_ret2
  exact ⟨rfl, nq, rfl⟩
/-- what stands at place j, as the calls tell it -/
def atV (o : Option (Nat × Value)) : Value := match o with
  | some p => .tuple #[.int .u8 (p.1 : Nat), p.2, .bool true]
  | none => .tuple #[.int .u8 0, (.pointer none), .bool false]
set_option maxHeartbeats 800000 in
theorem row_at (h : RowIs rowT w r rm l B X) (i : Int) (hi : -1 ≤ i) (hi2 : i ≤ 16) : Calls Tryz.prog 109 #[.pointer (some ⟨r, 0, none⟩), .int .i64 i] w fun e w' => e = .returned (atV (if i < 0 then none else l[i.toNat]?)) ∧ ∃ n, w' = w.drewN n := by
  have c1 := h.c1
  have h16 := h.n16
  generalize hV : atV (if i < 0 then none else l[i.toNat]?) = V
  by_cases h0 : i < 0
  · have hR : Hid (V = .tuple #[.int .u8 0, (.pointer none), .bool false]) := by show _ = _; rw [← hV, if_pos h0]; rfl
    clear h hV
    go_enter Tryz.func109, Tryz.ntmps109
    go_wp2_with fail
    go_ret3
    exact ⟨congrArg Ending.returned hR.out.symm, 0, rfl⟩
  · obtain ⟨j, rfl⟩ := Int.eq_ofNat_of_zero_le (show 0 ≤ i by omega)
    by_cases h1 : j < l.length
    · have hb := h.cb j h1
      have hx := h.cx j h1 (0, undef)
      obtain ⟨k, v, hk, hv, hkv⟩ : ∃ k v, l.keys.getD j 0 = k ∧ (l.getD j (0, undef)).2 = v ∧ Hid (V = .tuple #[.int .u8 (k : Nat), v, .bool true]) := by
        refine ⟨_, _, rfl, rfl, ?_⟩
        show _ = _
        rw [← hV, if_neg h0, Int.toNat_natCast, List.getElem?_eq_getElem h1]
        simp [atV, KV.keys, List.getD, List.getElem?_map, List.getElem?_eq_getElem h1]
      rw [hk] at hb
      rw [hv] at hx
      clear h hk hv hV
      go_enter Tryz.func109, Tryz.ntmps109
      go_wp2_with fail
      go_quiet (fail)
      go_wp2_with fail
      go_ret3
      exact ⟨congrArg Ending.returned hkv.out.symm, nq, rfl⟩
    · have hR : Hid (V = .tuple #[.int .u8 0, (.pointer none), .bool false]) := by
        show _ = _
        rw [← hV, if_neg h0, Int.toNat_natCast, List.getElem?_eq_none (by omega)]; rfl
      clear h hV
      go_enter Tryz.func109, Tryz.ntmps109
      go_wp2_with fail
      go_ret3
      exact ⟨congrArg Ending.returned hR.out.symm, 0, rfl⟩
/-- what Get tells -/
def getV (o : Option Value) : Value := match o with
  | some v => .tuple #[v, .bool true]
  | none => .tuple #[(.pointer none), .bool false]
set_option maxHeartbeats 800000 in
theorem row_get (h : RowIs rowT w r rm l B X) (b : Nat) : Calls Tryz.prog 114 #[.pointer (some ⟨r, 0, none⟩), .int .u8 b] w fun e w' => e = .returned (getV (kget l b)) ∧ ∃ n, w' = w.drewN n := by
  have c0 := h.c0
  have hr := h.r1
  have h16 := h.n16
  have hp : Hid (Calls Tryz.prog 108 #[.pointer (some ⟨r, 0, none⟩), .int .u8 b] w fun e w' => e = .returned (.tuple #[.int .i64 (pl l b : Nat), .bool (has l b)]) ∧ ∃ n, w' = w.drewN n) := row_place h b
  have hle := pl_le l b
  generalize hV : getV (kget l b) = V
  cases hh : has l b with
  | true =>
    obtain ⟨h1, h2⟩ := has_yes hh
    have hx := h.cx (pl l b) h1 (0, undef)
    have hR : Hid (V = .tuple #[(l.getD (pl l b) (0, undef)).2, .bool true]) := by show _ = _; rw [← hV, get_yes h.srt hh (0, undef)]; rfl
    obtain ⟨v, hv⟩ : ∃ v, (l.getD (pl l b) (0, undef)).2 = v := ⟨_, rfl⟩
    rw [hv] at hx hR
    rw [hh] at hp
    generalize pl l b = j at *
    clear h h2 hv hh hV
    go_enter Tryz.func114, Tryz.ntmps114
    go_wp2_with (first | (go_at_call 100; refine (ok_yes _ _ _ c0 hr).mono ?_; rintro e w' ⟨rfl, rfl⟩) | (go_at_call 108; refine hp.out.mono ?_; rintro e w' ⟨rfl, nd, rfl⟩))
    go_ret2
    exact ⟨congrArg Ending.returned hR.out.symm, nd, rfl⟩
  | false =>
    have hR : Hid (V = .tuple #[(.pointer none), .bool false]) := by show _ = _; rw [← hV, get_no h.srt hh]; rfl
    rw [hh] at hp
    generalize pl l b = j at *
    clear h hh hV
    go_enter Tryz.func114, Tryz.ntmps114
    go_wp2_with (first | (go_at_call 100; refine (ok_yes _ _ _ c0 hr).mono ?_; rintro e w' ⟨rfl, rfl⟩) | (go_at_call 108; refine hp.out.mono ?_; rintro e w' ⟨rfl, nd, rfl⟩))
    go_ret2
    exact ⟨congrArg Ending.returned hR.out.symm, nd, rfl⟩
theorem row_next_high (h : RowIs rowT w r rm l B X) (f : Int) (hf : 255 < f) : Calls Tryz.prog 91 #[.pointer (some ⟨r, 0, none⟩), .int .i64 f] w fun e w' => e = .returned (atV (knxt l f)) ∧ ∃ n, w' = w.drewN n := by
  have c0 := h.c0
  have hr := h.r1
  rw [nxt_high h.low hf]
  have hV : Hid (atV none = .tuple #[.int .u8 0, (.pointer none), .bool false]) := rfl
  generalize atV none = V at *
  clear h
  go_enter Tryz.func91, Tryz.ntmps91
  go_wp2_with (go_at_call 100; refine (ok_yes _ _ _ c0 hr).mono ?_; rintro e w' ⟨rfl, rfl⟩)
  go_ret3
  exact ⟨congrArg Ending.returned hV.out.symm, 0, rfl⟩
/-- behind a place: a byte, a thing, and whether -/
def trip (V a b c : Value) : Prop := V = .tuple #[a, b, c]
theorem atV_trip (o : Option (Nat × Value)) : ∃ a b c, trip (atV o) a b c := by
  cases o with
  | none => exact ⟨_, _, _, rfl⟩
  | some p => exact ⟨_, _, _, rfl⟩
set_option maxHeartbeats 800000 in
theorem row_next (h : RowIs rowT w r rm l B X) (f : Int) (hlo : -9223372036854775808 ≤ f) (hhi : f ≤ 9223372036854775807) : Calls Tryz.prog 91 #[.pointer (some ⟨r, 0, none⟩), .int .i64 f] w fun e w' => e = .returned (atV (knxt l f)) ∧ ∃ n, w' = w.drewN n := by
  by_cases hf : 255 < f
  · exact row_next_high h f hf
  · have c0 := h.c0
    have hr := h.r1
    have hle : Hid (pl l f.toNat ≤ 16) := by have := pl_le l f.toNat; have := h.n16; show _ ≤ _; omega
    have hp : Hid (Calls Tryz.prog 108 #[.pointer (some ⟨r, 0, none⟩), .int .u8 f.toNat] w fun e w' => e = .returned (.tuple #[.int .i64 (pl l f.toNat : Nat), .bool (has l f.toNat)]) ∧ ∃ n, w' = w.drewN n) := row_place h f.toNat
    have ha : ∀ n, Hid (Calls Tryz.prog 109 #[.pointer (some ⟨r, 0, none⟩), .int .i64 (pl l f.toNat : Nat)] (w.drewN n) fun e w' => e = .returned (atV (knxt l f)) ∧ ∃ m, w' = (w.drewN n).drewN m) := fun n => by
      have := row_at (h.keep (w' := w.drewN n) rfl) (pl l f.toNat : Nat) (by omega) (by have := hle.out; omega)
      rw [if_neg (by omega), Int.toNat_natCast, ← nxt_pl h.srt, show knxt l (f.toNat : Nat) = knxt l f from by
        by_cases h0 : 0 ≤ f
        · rw [Int.toNat_of_nonneg h0]
        · rw [nxt_neg l (f := f) (by omega)]; congr 1; omega] at this
      exact this
    obtain ⟨a, b, c, ht⟩ := atV_trip (knxt l f)
    have Ht := Lib.hid ht
    clear ht
    generalize atV (knxt l f) = V at *
    generalize pl l f.toNat = j at *
    generalize has l f.toNat = yes at *
    clear h
    by_cases h0 : 0 ≤ f
    · obtain ⟨g, rfl⟩ := Int.eq_ofNat_of_zero_le h0
      rw [Int.toNat_natCast] at hp
      clear h0
      go_enter Tryz.func91, Tryz.ntmps91
      go_wp2_with (first | (go_at_call 100; refine (ok_yes _ _ _ c0 hr).mono ?_; rintro e w' ⟨rfl, rfl⟩) | (go_at_call 108; refine hp.out.mono ?_; rintro e w' ⟨rfl, nd, rfl⟩) | (go_at_call 109; refine (ha _).out.mono ?_; rintro e w' ⟨rfl, ne, rfl⟩; rw [Ht.out]))
      go_ret3
      exact ⟨congrArg Ending.returned Ht.out.symm, nd + ne, by simp⟩
    · have hp0 : Hid (Calls Tryz.prog 108 #[.pointer (some ⟨r, 0, none⟩), .int .u8 0] w fun e w' => e = .returned (.tuple #[.int .i64 (j : Nat), .bool yes]) ∧ ∃ n, w' = w.drewN n) := by
        have := hp.out
        rw [show f.toNat = 0 from by omega] at this
        exact this
      clear hp
      go_enter Tryz.func91, Tryz.ntmps91
      go_wp2_with (first | (go_at_call 100; refine (ok_yes _ _ _ c0 hr).mono ?_; rintro e w' ⟨rfl, rfl⟩) | (go_at_call 108; refine hp0.out.mono ?_; rintro e w' ⟨rfl, nd, rfl⟩) | (go_at_call 109; refine (ha _).out.mono ?_; rintro e w' ⟨rfl, ne, rfl⟩; rw [Ht.out]))
      go_ret3
      exact ⟨congrArg Ending.returned Ht.out.symm, nd + ne, by simp⟩
end N
end Go.Proofs.YtfhdiimcimafkaaGreatDoor
/- Rows: the calls that make and write. -/
namespace Go.Proofs.YtfhdiimcimafkaaGreatDoor
open Go.RowKit

/-- a thing comes in at place i: the cells -/
theorem ins_cells {α : Type} (L : List α) (n i : Nat) (x : α) (hi : i ≤ n) (hn : n + 1 ≤ L.length) :
    ((splice L (i + 1) ((L.drop i).take (n - i))).set i x).take (n + 1) = (L.take n).take i ++ x :: (L.take n).drop i := by
  apply List.ext_getElem?
  intro j
  simp only [splice, List.getElem?_take, List.getElem?_set, List.getElem?_append, List.length_take, List.length_drop, List.length_append, List.getElem?_drop, List.getElem?_cons, List.getElem?_drop]
  have e1 : min (i + 1) L.length = i + 1 := by omega
  have e2 : min (n - i) (L.length - i) = n - i := by omega
  have e3 : min i (min n L.length) = i := by omega
  simp only [e1, e2, e3]
  by_cases h1 : j < i
  · simp [h1, show j < n + 1 by omega, show ¬ i = j by omega, show j < i + 1 by omega, show j < n by omega]
  · by_cases h2 : j = i
    · subst h2
      simp [show j < n + 1 by omega, show j < j + 1 + (n - j + (L.length - (j + 1 + (n - j)))) by omega]
    · by_cases h3 : j < n + 1
      · have h4 : j - (i + 1) < n - i := by omega
        have h5 : ¬ j < i + 1 := by omega
        have h6 : ¬ j - i = 0 := by omega
        have h7 : i + (j - (i + 1)) = i + (j - i - 1) := by omega
        have h8 : i + (j - i - 1) < n := by omega
        simp [h1, h3, h4, h5, h6, h7, h8, show ¬ i = j by omega]
      · have h6 : ¬ j - i = 0 := by omega
        have h8 : ¬ i + (j - i - 1) < n := by omega
        simp [h1, h3, h6, h8]
theorem splice_length {α : Type} (L : List α) (n i : Nat) (hi : i ≤ n) (hn : n + 1 ≤ L.length) : (splice L (i + 1) ((L.drop i).take (n - i))).length = L.length := by
  rw [length_splice]; simp; omega
theorem splice_mem {α : Type} (L : List α) (k : Nat) (cs : List α) (p : α → Prop) (h : ∀ v ∈ L, p v) (hc : ∀ v ∈ cs, p v) : ∀ v ∈ splice L k cs, p v := by
  intro v hv
  simp only [splice, List.mem_append] at hv
  rcases hv with hv | hv | hv
  · exact h v (List.mem_of_mem_take hv)
  · exact hc v hv
  · exact h v (List.mem_of_mem_drop hv)
section
variable {w : World} {r rm : Nat} {l : KV} {B X : List Value}
/-- the block of a row, in short -/
def rowL (rm n : Nat) (B X : List Value) : List Value := .int .i64 rm :: .int .i64 n :: (B ++ X)
theorem rowL_setX (rm n : Nat) (B X : List Value) (hB : B.length = 16) (i : Nat) (x : Value) : (rowL rm n B X).set (18 + i) x = rowL rm n B (X.set i x) := by
  rw [rowL, show 18 + i = (16 + i + 1) + 1 from by omega, List.set_cons_succ, List.set_cons_succ, List.set_append_right _ _ (by omega), hB, show 16 + i - 16 = i from by omega, rowL]
theorem rowL_setB (rm n : Nat) (B X : List Value) (hB : B.length = 16) (i : Nat) (hi : i < 16) (x : Value) : (rowL rm n B X).set (2 + i) x = rowL rm n (B.set i x) X := by
  rw [rowL, show 2 + i = (i + 1) + 1 from by omega, List.set_cons_succ, List.set_cons_succ, List.set_append_left _ _ (by omega), rowL]
theorem setCell_list (w : World) (g i : Nat) (cur : List Value) (t : Nat) (v : Value) (hg : w.heap[g]? = some (.cells cur.toArray t (0, 0))) : w.setCell ⟨g, i, none⟩ v = w.setRow g (cur.set i v).toArray := by
  rw [setCell_eq_setRow w g i _ t (0, 0) v hg]; simp
theorem RowIs.set {ty : Nat} (h : RowIs ty w r rm l B X) {b : Nat} (hh : has l b = true) (hb : b < 256) (x : Value) (hx : x.oneCell' = true) (w' : World) (hw : w'.heap[r]? = some (.cells (rowL rm l.length B (X.set (pl l b) x)).toArray ty (0, 0))) : RowIs ty w' r rm (kins l b x) B (X.set (pl l b) x) := by
  have hk := ins_yes h.srt hh x
  obtain ⟨h1, h2⟩ := has_yes hh
  have e1 : (kins l b x).length = l.length := by rw [hk]; simp; omega
  have hkey : l[pl l b].1 = b := by
    have : l.keys.getD (pl l b) 0 = l[pl l b].1 := by simp [KV.keys, List.getD, List.getElem?_map, List.getElem?_eq_getElem h1]
    omega
  have e2 : kins l b x = l.set (pl l b) (b, x) := by
    rw [hk, List.set_eq_take_append_cons_drop, if_pos h1]
  refine ⟨by rw [hw, e1]; rfl, h.lB, by simp [h.lX], ?_, ?_, by rw [e1]; exact h.le, h.r1, h.r16, h.srt.ins b x, h.low.ins hb x, ?_⟩
  · rw [e1, h.bs, e2, List.map_set]
    apply List.ext_getElem?
    intro j
    rw [List.getElem?_set]
    split
    · rename_i e; subst e
      simp [List.getElem?_map, List.getElem?_eq_getElem h1, h1, hkey]
    · rfl
  · rw [e1, e2, List.map_set, ← h.xs, List.take_set]
  · intro v hv
    rcases List.mem_append.1 hv with hv | hv
    · exact h.one v (List.mem_append_left _ hv)
    · rcases List.mem_or_eq_of_mem_set hv with hv | rfl
      · exact h.one v (List.mem_append_right _ hv)
      · exact hx
end
theorem rowL_get (rm n : Nat) (B X : List Value) (hB : B.length = 16) (j : Nat) (hj : j < 16) : (rowL rm n B X)[2 + j]? = B[j]? ∧ (rowL rm n B X)[18 + j]? = X[j]? := by
  constructor
  · rw [rowL, show 2 + j = (j + 1) + 1 from by omega, List.getElem?_cons_succ, List.getElem?_cons_succ, List.getElem?_append_left (by omega)]
  · rw [rowL, show 18 + j = (16 + j + 1) + 1 from by omega, List.getElem?_cons_succ, List.getElem?_cons_succ, List.getElem?_append_right (by omega), hB, show 16 + j - 16 = j from by omega]
theorem rowL_spliceB (rm n : Nat) (B X : List Value) (hB : B.length = 16) (k : Nat) (cs : List Value) (h : k + cs.length ≤ 16) : splice (rowL rm n B X) (2 + k) cs = rowL rm n (splice B k cs) X := by
  unfold splice rowL
  rw [show 2 + k + cs.length = (k + cs.length + 1) + 1 from by omega, show 2 + k = (k + 1) + 1 from by omega]
  simp only [List.take_succ_cons, List.drop_succ_cons, List.cons_append]
  rw [List.take_append_of_le_length (by omega), List.drop_append_of_le_length (by omega)]
  simp [List.append_assoc]
theorem rowL_spliceX (rm n : Nat) (B X : List Value) (hB : B.length = 16) (k : Nat) (cs : List Value) : splice (rowL rm n B X) (18 + k) cs = rowL rm n B (splice X k cs) := by
  unfold splice rowL
  rw [show 18 + k + cs.length = (16 + k + cs.length + 1) + 1 from by omega, show 18 + k = (16 + k + 1) + 1 from by omega]
  simp only [List.take_succ_cons, List.drop_succ_cons, List.cons_append]
  rw [List.take_append, List.drop_append, List.take_of_length_le (show B.length ≤ 16 + k by omega), List.drop_eq_nil_of_le (show B.length ≤ 16 + k + cs.length by omega)]
  simp only [hB, List.nil_append, List.append_assoc, show 16 + k - 16 = k from by omega, show 16 + k + cs.length - 16 = k + cs.length from by omega]
theorem rowL_length (rm n : Nat) (B X : List Value) : (rowL rm n B X).length = B.length + X.length + 2 := by simp [rowL]
/-- what the copies ask -/
theorem copy_seg {w : World} {r : Nat} {C : List Value} {t : Nat} (hg : w.heap[r]? = some (.cells C.toArray t (0, 0))) (base : Nat) (A : List Value) (hA : ∀ j, j < 16 → C[base + j]? = A[j]?) (i n : Nat) (hn : n ≤ 16) (m : Nat) :
    ∀ j v, ((A.drop i).take (n - i))[j]? = some v → (w.drewN m).cell? ((⟨r, base + i, none⟩ : Addr).add j) = some v := by
  intro j v hv
  rw [List.getElem?_take] at hv
  split at hv
  · rename_i hj
    rw [List.getElem?_drop] at hv
    have e : (⟨r, base + i, none⟩ : Addr).add j = ⟨r, base + i + j, none⟩ := by unfold Addr.add; split <;> simp_all
    rw [e, World.cell?_drewN, cell_of_blk hg, show base + i + j = base + (i + j) from by omega, hA _ (by omega)]
    exact hv
  · simp at hv
theorem mem_seg {A : List Value} {i n : Nat} {p : Value → Prop} (h : ∀ v ∈ A, p v) : ∀ v ∈ (A.drop i).take (n - i), p v := fun v hv => h v (List.mem_of_mem_drop (List.mem_of_mem_take hv))
theorem rowL_set1 (rm n : Nat) (B X : List Value) (v : Value) : (rowL rm n B X).set 1 v = .int .i64 rm :: v :: (B ++ X) := rfl
theorem RowIs.insert {ty : Nat} {w w5 : World} {r rm : Nat} {l : KV} {B X : List Value} (h : RowIs ty w r rm l B X) {b : Nat} (hh : has l b = false) (hb : b < 256) (x : Value) (hx : x.oneCell' = true) (n i : Nat) {B1 X1 : List Value}
    (hn : l.length = n) (hi : pl l b = i) (hlt : n < rm) (HB1 : splice B (i + 1) ((B.drop i).take (n - i)) = B1) (HX1 : splice X (i + 1) ((X.drop i).take (n - i)) = X1)
    (blk5 : w5.heap[r]? = some (.cells (rowL rm n B1 X1).toArray ty (0, 0))) :
    RowIs ty ((((w5.setCell ⟨r, 2 + i, none⟩ (.int .u8 b)).setCell ⟨r, 18 + i, none⟩ x).setCell ⟨r, 1, none⟩ (.int .i64 ((n : Int) + 1))).drew) r rm (kins l b x) (B1.set i (.int .u8 b)) (X1.set i x) := by
  have hle : i ≤ n := by rw [← hi, ← hn]; exact pl_le l b
  have h16 := h.r16
  have hlB1 : B1.length = 16 := by rw [← HB1, splice_length B n i hle (by have := h.lB; omega), h.lB]
  have hlX1 : X1.length = 16 := by rw [← HX1, splice_length X n i hle (by have := h.lX; omega), h.lX]
  have hk := ins_no h.srt hh x
  rw [hi] at hk
  have e1 : (kins l b x).length = n + 1 := by rw [hk]; simp; omega
  refine ⟨?_, by simp [hlB1], by simp [hlX1], ?_, ?_, by rw [e1]; omega, h.r1, h.r16, h.srt.ins b x, h.low.ins hb x, ?_⟩
  · have s1 := setCell_list w5 r (2 + i) _ ty (.int .u8 b) blk5
    rw [rowL_setB _ _ _ _ hlB1 i (by omega)] at s1
    have b1 := setRow_heap w5 r _ (rowL rm n (B1.set i (.int .u8 b)) X1).toArray _ _ blk5
    rw [← s1] at b1
    have s2 := setCell_list _ r (18 + i) _ ty x b1
    rw [rowL_setX _ _ _ _ (by simp [hlB1])] at s2
    have b2 := setRow_heap _ r _ (rowL rm n (B1.set i (.int .u8 b)) (X1.set i x)).toArray _ _ b1
    rw [← s2] at b2
    have s3 := setCell_list _ r 1 _ ty (.int .i64 ((n : Int) + 1)) b2
    rw [rowL_set1] at s3
    have b3 := setRow_heap _ r _ (.int .i64 rm :: .int .i64 ((n : Int) + 1) :: (B1.set i (.int .u8 b) ++ X1.set i x)).toArray _ _ b2
    rw [← s3] at b3
    rw [e1]
    exact b3
  · rw [e1, ← HB1, ins_cells B n i _ hle (by have := h.lB; omega), ← hn, h.bs, hk]
    simp [List.map_take, List.map_drop]
  · rw [e1, ← HX1, ins_cells X n i _ hle (by have := h.lX; omega), ← hn, h.xs, hk]
    simp [List.map_take, List.map_drop]
  · intro v hv
    have oB : ∀ v ∈ B, v.oneCell' = true := fun v hv => h.one v (List.mem_append_left _ hv)
    have oX : ∀ v ∈ X, v.oneCell' = true := fun v hv => h.one v (List.mem_append_right _ hv)
    rcases List.mem_append.1 hv with hv | hv
    · rcases List.mem_or_eq_of_mem_set hv with hv | rfl
      · rw [← HB1] at hv; exact splice_mem B _ _ (fun v => v.oneCell' = true) oB (mem_seg oB) v hv
      · rfl
    · rcases List.mem_or_eq_of_mem_set hv with hv | rfl
      · rw [← HX1] at hv; exact splice_mem X _ _ (fun v => v.oneCell' = true) oX (mem_seg oX) v hv
      · exact hx
namespace I
variable {w : World} {r rm : Nat} {l : KV} {B X : List Value}
theorem underB : Tryz.prog.underlying 38 = some (.slice 5) := by kernel_rfl
theorem infoB : (Tryz.prog.info? 5).map (·.size) = some 1 := by kernel_rfl
theorem infoX : (Tryz.prog.info? 3).map (·.size) = some 1 := by kernel_rfl
end I

namespace N
def newPost (rm : Nat) (w : World) (e : Ending) (w' : World) : Prop := e = .returned (.tuple #[.pointer (some ⟨w.heap.size, 0, none⟩), .int .i64 0]) ∧ RowAt rowT w' w.heap.size rm [] ∧ Below w.heap.size w w'
theorem row_new (rm : Nat) (h1 : 1 ≤ rm) (h16 : rm ≤ 16) (w : World) : Calls Tryz.prog 112 #[.int .i64 rm] w (newPost rm w) := by
  have hw : newPost rm w (.returned (.tuple #[.pointer (some ⟨w.heap.size, 0, none⟩), .int .i64 0])) (w.alloc (.cells (.int .i64 rm :: .int .i64 0 :: (List.replicate 16 (.int .u8 0) ++ List.replicate 16 (.pointer none))).toArray rowT)) :=
    ⟨rfl, ⟨List.replicate 16 (.int .u8 0), List.replicate 16 (.pointer none), ⟨by rw [heap_alloc_new]; rfl, by simp, by simp, rfl, rfl, by simp, h1, h16, Srt.nil, by intro p hp; simp at hp, by intro v hv; simp [List.mem_replicate] at hv; rcases hv with rfl | rfl <;> rfl⟩⟩, (Below.refl _ _).alloc (Nat.le_refl _) _⟩
  have hq : (rm : Int) ≤ 16 := by omega
  have hq1 : (1 : Int) ≤ rm := by omega
  go_enter Tryz.func112, Tryz.ntmps112
  go_wp2_with fail
  go_ret2
  exact hw
def copyPost (rm : Nat) (l : KV) (w : World) (e : Ending) (w' : World) : Prop := e = .returned (.pointer (some ⟨w.heap.size, 0, none⟩)) ∧ RowAt rowT w' w.heap.size rm l ∧ Below w.heap.size w w'
variable {w : World} {r rm : Nat} {l : KV} {B X : List Value}
theorem row_info : (Tryz.prog.info? rowT).map (·.size) = some 34 := by kernel_rfl
def setPost (r rm : Nat) (l : KV) (b : Nat) (x : Value) (c : Int) (w : World) (e : Ending) (w' : World) : Prop := e = .returned (.int .i64 c) ∧ RowAt rowT w' r rm (kins l b x) ∧ Mod (· = r) w w'
set_option maxHeartbeats 800000 in
theorem row_set_is (h : RowIs rowT w r rm l B X) (b : Nat) (hb : b < 256) (hh : has l b = true) (x : (Option Addr)) : Calls Tryz.prog 115 #[.pointer (some ⟨r, 0, none⟩), .int .u8 b, .pointer x] w (setPost r rm l b (.pointer x) 0 w) := by
  have c0 := h.c0
  have hr := h.r1
  have hp : Hid (Calls Tryz.prog 108 #[.pointer (some ⟨r, 0, none⟩), .int .u8 b] w fun e w' => e = .returned (.tuple #[.int .i64 (pl l b : Nat), .bool true]) ∧ ∃ n, w' = w.drewN n) := by have := row_place h b; rw [hh] at this; exact this
  obtain ⟨h1, h2⟩ := has_yes hh
  have h16 : pl l b < 16 := by have := h.n16; omega
  have hcx := h.cx (pl l b) h1 (0, undef)
  have hfr := frozen_of_blk h.blk (18 + pl l b)
  have hw : ∀ n, Hid (setPost r rm l b (.pointer x) 0 w (.returned (.int .i64 0)) ((w.drewN n).setCell ⟨r, 18 + pl l b, none⟩ (.pointer x))) := fun n =>
    ⟨rfl, ⟨B, _, h.set hh hb (.pointer x) rfl _ (by
      rw [setCell_list (w.drewN n) r _ _ _ (.pointer x) h.blk, setRow_heap (w.drewN n) r _ _ _ _ h.blk]
      show some (Obj.cells ((rowL rm l.length B X).set _ _).toArray _ _) = _
      rw [rowL_setX _ _ _ _ h.lB])⟩, ((Mod.refl (· = r) w).drewN n).setCell ⟨r, 18 + pl l b, none⟩ (.pointer x) (fun _ => rfl)⟩
  generalize (l.getD (pl l b) (0, undef)).2 = y at *
  generalize pl l b = i at *
  clear h h2 h1 hh
  go_enter Tryz.func115, Tryz.ntmps115
  go_wp2_with (first | (go_at_call 100; refine (ok_yes _ _ _ c0 hr).mono ?_; rintro e w' ⟨rfl, rfl⟩) | (go_at_call 108; refine hp.out.mono ?_; rintro e w' ⟨rfl, nd, rfl⟩))
  go_ret
  exact (hw nd).out
theorem underB : Tryz.prog.underlying 38 = some (.slice 5) := by kernel_rfl
theorem infoB : (Tryz.prog.info? 5).map (·.size) = some 1 := by kernel_rfl
theorem underX : Tryz.prog.underlying 96 = some (.slice 26) := by kernel_rfl
theorem infoX : (Tryz.prog.info? 26).map (·.size) = some 1 := by kernel_rfl
set_option maxHeartbeats 800000 in
theorem row_set_full (h : RowIs rowT w r rm l B X) (b : Nat) (hh : has l b = false) (hf : l.length = rm) (x : (Option Addr)) : Calls Tryz.prog 115 #[.pointer (some ⟨r, 0, none⟩), .int .u8 b, .pointer x] w fun e w' => e = .returned (.int .i64 10) ∧ ∃ n, w' = w.drewN n := by
  have c0 := h.c0
  have c1 := h.c1
  rw [hf] at c1
  have hr := h.r1
  have hp : Hid (Calls Tryz.prog 108 #[.pointer (some ⟨r, 0, none⟩), .int .u8 b] w fun e w' => e = .returned (.tuple #[.int .i64 (pl l b : Nat), .bool false]) ∧ ∃ n, w' = w.drewN n) := by have := row_place h b; rw [hh] at this; exact this
  generalize pl l b = i at *
  clear h hh hf
  go_enter Tryz.func115, Tryz.ntmps115
  go_wp2_with (first | (go_at_call 100; refine (ok_yes _ _ _ c0 hr).mono ?_; rintro e w' ⟨rfl, rfl⟩) | (go_at_call 108; refine hp.out.mono ?_; rintro e w' ⟨rfl, nd, rfl⟩))
  go_quiet (fail)
  go_wp2_with fail
  go_ret
  exact ⟨rfl, nd + nq, by simp⟩
set_option maxHeartbeats 2000000 in
theorem row_set_new (h : RowIs rowT w r rm l B X) (b : Nat) (hb : b < 256) (hh : has l b = false) (hf : l.length < rm) (x : (Option Addr)) : Calls Tryz.prog 115 #[.pointer (some ⟨r, 0, none⟩), .int .u8 b, .pointer x] w (setPost r rm l b (.pointer x) 0 w) := by
  have c0 := h.c0
  have c1 := h.c1
  have hr := h.r1
  have hblk := Lib.hid h.blk
  have hp : Hid (Calls Tryz.prog 108 #[.pointer (some ⟨r, 0, none⟩), .int .u8 b] w fun e w' => e = .returned (.tuple #[.int .i64 (pl l b : Nat), .bool false]) ∧ ∃ n, w' = w.drewN n) := by have := row_place h b; rw [hh] at this; exact this
  have hle := pl_le l b
  have h16 : rm ≤ 16 := h.r16
  generalize hn : l.length = n at *
  generalize hi : pl l b = i at *
  have HH := Lib.hid h
  have hlB := HH.out.lB
  have hlX := HH.out.lX
  have L1 : Hid (((B.drop i).take (n - i)).length = Nat.min (n - i) (15 - i)) := by show _ = _; rw [List.length_take, List.length_drop, hlB]; show _ = min _ _; omega
  have L2 : Hid (((X.drop i).take (n - i)).length = Nat.min (n - i) (15 - i)) := by show _ = _; rw [List.length_take, List.length_drop, hlX]; show _ = min _ _; omega
  have P1 : ∀ m, Hid (0 < ((B.drop i).take (n - i)).length → (some (if i = 15 then (⟨r, 2, none⟩ : Addr) else ⟨r, 2 + (i + 1), none⟩)) = some ⟨r, 2 + (i + 1), none⟩ ∧ ∃ ad, (some (if 16 = i then (⟨r, 2, none⟩ : Addr) else ⟨r, 2 + i, none⟩)) = some ad ∧ ∀ j v, ((B.drop i).take (n - i))[j]? = some v → (w.drewN m).cell? (ad.add j) = some v) := fun m h0 => by
    have hl1 := L1.out
    have : ¬ i = 15 := by
      intro e
      have : Nat.min (n - i) (15 - i) = 0 := by show min _ _ = 0; omega
      omega
    refine ⟨by rw [if_neg this], _, by rw [if_neg (by omega)], copy_seg hblk.out 2 B (fun j hj => (rowL_get rm n B X hlB j hj).1) i n (by omega) m⟩
  have F1 : Hid (2 + (i + 1) + ((B.drop i).take (n - i)).length ≤ (rowL rm n B X).length) := by show _ ≤ _; rw [rowL_length, L1.out, hlB, hlX]; show _ + min _ _ ≤ _; omega
  have O1 : Hid (∀ v ∈ (B.drop i).take (n - i), v.oneCell' = true) := mem_seg fun v hv => HH.out.one v (List.mem_append_left _ hv)
  have hq1 : ((n : Int) == (rm : Int)) = false := beq_eq_false_iff_ne.mpr (by omega)
  have hq2 : (n == rm) = false := beq_eq_false_iff_ne.mpr (by omega)
  have hq3 : ((i : Int) + 1 ≤ 16) := by omega
  have hq4 : ((n : Int) ≤ 16) := by omega
  have hq5 : ((i : Int) ≤ n) := by omega
  have Hn := Lib.hid hn
  have Hi := Lib.hid hi
  have Hh := Lib.hid hh
  clear h hh hn hi
  go_enter Tryz.func115, Tryz.ntmps115
  go_wp2_with (first | (go_at_call 100; refine (ok_yes _ _ _ c0 hr).mono ?_; rintro e w' ⟨rfl, rfl⟩) | (go_at_call 108; refine hp.out.mono ?_; rintro e w' ⟨rfl, nd, rfl⟩))
  go_quiet (fail)
  go_wp2_with fail
  have k1 : IntKind.i64.wrap ((i : Int) + 1) = (i : Int) + 1 := IntWalk.i64_in _ (by omega)
  have k2 : (0 : Int) ≤ (i : Int) + 1 := by omega
  have k3 : ((i : Int) + 1).toNat = i + 1 := by omega
  go_region_law (refine step_copy_in rfl (.tmp 41) (.tmp 50) 38 38 rfl 5 underB infoB _ _ _ _ _ _ rfl rfl r (2 + (i + 1)) (rowL rm n B X) rowT hblk.out ((B.drop i).take (n - i)) L1.out (P1 _).out F1.out O1.out ?_; intro w4 hb4 hm4)
  have e4 : Hid (splice (rowL rm n B X) (2 + (i + 1)) ((B.drop i).take (n - i)) = rowL rm n (splice B (i + 1) ((B.drop i).take (n - i))) X) := rowL_spliceB rm n B X hlB (i + 1) _ (by have := L1.out; have h2 : Nat.min (n - i) (15 - i) ≤ 15 - i := Nat.min_le_right _ _; omega)
  obtain ⟨B1, HB1⟩ : ∃ B1, Hid (splice B (i + 1) ((B.drop i).take (n - i)) = B1) := ⟨_, rfl⟩
  have hlB1 : B1.length = 16 := by rw [← HB1.out, splice_length B n i hle (by omega), hlB]
  have blk4 : Hid (w4.heap[r]? = some (.cells (rowL rm n B1 X).toArray rowT (0, 0))) := by have := hb4.out; rw [e4.out, HB1.out] at this; exact this
  have c14 : w4.cell? ⟨r, 1, none⟩ = some (.int .i64 n) := by rw [cell_of_blk blk4.out]; rfl
  have M4 : Hid (Mod (· = r) w w4) := ((Mod.refl (· = r) w).drewN _).trans hm4.out
  clear hb4 hm4 e4 P1 F1 O1
  generalize (if i = 15 then (⟨r, 2, none⟩ : Addr) else ⟨r, 2 + (i + 1), none⟩) = A1
  generalize (if 16 = i then (⟨r, 2, none⟩ : Addr) else ⟨r, 2 + i, none⟩) = A2
  have P2 : ∀ m, Hid (0 < ((X.drop i).take (n - i)).length → (some (if i = 15 then (⟨r, 18, none⟩ : Addr) else ⟨r, 18 + (i + 1), none⟩)) = some ⟨r, 18 + (i + 1), none⟩ ∧ ∃ ad, (some (if 16 = i then (⟨r, 18, none⟩ : Addr) else ⟨r, 18 + i, none⟩)) = some ad ∧ ∀ j v, ((X.drop i).take (n - i))[j]? = some v → (w4.drewN m).cell? (ad.add j) = some v) := fun m h0 => by
    have hl1 := L2.out
    have : ¬ i = 15 := by
      intro e
      have : Nat.min (n - i) (15 - i) = 0 := by show min _ _ = 0; omega
      omega
    refine ⟨by rw [if_neg this], _, by rw [if_neg (by omega)], copy_seg blk4.out 18 X (fun j hj => (rowL_get rm n B1 X hlB1 j hj).2) i n (by omega) m⟩
  have F2 : Hid (18 + (i + 1) + ((X.drop i).take (n - i)).length ≤ (rowL rm n B1 X).length) := by show _ ≤ _; rw [rowL_length, L2.out, hlB1, hlX]; show _ + min _ _ ≤ _; omega
  have O2 : Hid (∀ v ∈ (X.drop i).take (n - i), v.oneCell' = true) := mem_seg fun v hv => HH.out.one v (List.mem_append_right _ hv)
  go_wp2_with fail
  go_region_law (refine step_copy_in rfl (.tmp 57) (.tmp 66) 96 96 rfl 26 underX infoX _ _ _ _ _ _ rfl rfl r (18 + (i + 1)) (rowL rm n B1 X) rowT blk4.out ((X.drop i).take (n - i)) L2.out (P2 1).out F2.out O2.out ?_; intro w5 hb5 hm5)
  have e5 : Hid (splice (rowL rm n B1 X) (18 + (i + 1)) ((X.drop i).take (n - i)) = rowL rm n B1 (splice X (i + 1) ((X.drop i).take (n - i)))) := rowL_spliceX rm n B1 X hlB1 (i + 1) _
  obtain ⟨X1, HX1⟩ : ∃ X1, Hid (splice X (i + 1) ((X.drop i).take (n - i)) = X1) := ⟨_, rfl⟩
  have hlX1 : X1.length = 16 := by rw [← HX1.out, splice_length X n i hle (by omega), hlX]
  have blk5 : Hid (w5.heap[r]? = some (.cells (rowL rm n B1 X1).toArray rowT (0, 0))) := by have := hb5.out; rw [e5.out, HX1.out] at this; exact this
  have c15 : w5.cell? ⟨r, 1, none⟩ = some (.int .i64 n) := by rw [cell_of_blk blk5.out]; rfl
  have M5 : Hid (Mod (· = r) w w5) := (M4.out.drewN 1).trans hm5.out
  have fr5 : ∀ j, w5.frozen? ⟨r, j, none⟩ = false := fun j => frozen_of_blk blk5.out j
  obtain ⟨y1, hy1⟩ : ∃ y, w5.cell? ⟨r, 2 + i, none⟩ = some y := ⟨_, by rw [cell_of_blk blk5.out, (rowL_get rm n B1 X1 hlB1 i (by omega)).1, List.getElem?_eq_getElem (by omega)]⟩
  obtain ⟨y2, hy2⟩ : ∃ y, w5.cell? ⟨r, 18 + i, none⟩ = some y := ⟨_, by rw [cell_of_blk blk5.out, (rowL_get rm n B1 X1 hlB1 i (by omega)).2, List.getElem?_eq_getElem (by omega)]⟩
  clear hb5 hm5 e5 P2 F2 O2 k1 k2 k3 c14
  generalize (if i = 15 then (⟨r, 18, none⟩ : Addr) else ⟨r, 18 + (i + 1), none⟩) = A3
  generalize (if 16 = i then (⟨r, 18, none⟩ : Addr) else ⟨r, 18 + i, none⟩) = A4
  go_wp2_with fail
  go_region
  go_wp2_with fail
  go_ret
  exact ⟨rfl, ⟨_, _, HH.out.insert Hh.out hb (.pointer x) rfl n i Hn.out Hi.out hf HB1.out HX1.out blk5.out⟩, (((M5.out.setCell ⟨r, _, none⟩ _ (fun _ => rfl)).setCell ⟨r, _, none⟩ _ (fun _ => rfl)).setCell ⟨r, _, none⟩ _ (fun _ => rfl)).drew⟩
end N
end Go.Proofs.YtfhdiimcimafkaaGreatDoor
/- Rows: Drop. -/
namespace Go.Proofs.YtfhdiimcimafkaaGreatDoor
open Go.RowKit

theorem del_cells {α : Type} (L : List α) (k i : Nat) (z : α) (hi : i ≤ k) (hn : k + 1 ≤ L.length) :
    ((splice L i ((L.drop (i + 1)).take (k - i))).set k z).take k = (L.take (k + 1)).take i ++ (L.take (k + 1)).drop (i + 1) := by
  apply List.ext_getElem?
  intro j
  simp only [splice, List.getElem?_take, List.getElem?_set, List.getElem?_append, List.length_take, List.length_drop, List.length_append, List.getElem?_drop]
  have e1 : min i L.length = i := by omega
  have e2 : min (k - i) (L.length - (i + 1)) = k - i := by omega
  have e3 : min i (min (k + 1) L.length) = i := by omega
  simp only [e1, e2, e3]
  by_cases h1 : j < i
  · simp [h1, show j < k by omega, show ¬ k = j by omega, show j < k + 1 by omega]
  · by_cases h3 : j < k
    · have h4 : j - i < k - i := by omega
      have h8 : i + 1 + (j - i) < k + 1 := by omega
      simp [h1, h3, h4, h8, show ¬ k = j by omega]
    · have h8 : ¬ i + 1 + (j - i) < k + 1 := by omega
      simp [h1, h3, h8]
theorem splice_length' {α : Type} (L : List α) (k i : Nat) (hi : i ≤ k) (hn : k + 1 ≤ L.length) : (splice L i ((L.drop (i + 1)).take (k - i))).length = L.length := by
  rw [length_splice]; simp; omega
theorem RowIs.remove {ty : Nat} {w w5 : World} {r rm : Nat} {l : KV} {B X : List Value} (h : RowIs ty w r rm l B X) {b : Nat} (hh : has l b = true) (z : Value) (hz : z.oneCell' = true) (k i : Nat) {B1 X1 : List Value}
    (hn : l.length = k + 1) (hi : pl l b = i) (HB1 : splice B i ((B.drop (i + 1)).take (k - i)) = B1) (HX1 : splice X i ((X.drop (i + 1)).take (k - i)) = X1)
    (blk5 : w5.heap[r]? = some (.cells (rowL rm (k + 1) B1 X1).toArray ty (0, 0))) :
    RowIs ty (((w5.setCell ⟨r, 1, none⟩ (.int .i64 (k : Int))).setCell ⟨r, 2 + k, none⟩ (.int .u8 0)).setCell ⟨r, 18 + k, none⟩ z).drew r rm (kdel l b) (B1.set k (.int .u8 0)) (X1.set k z) := by
  have hle : i ≤ k := by have := (has_yes hh).1; omega
  have h16 := h.n16
  have hlB1 : B1.length = 16 := by rw [← HB1, splice_length' B k i hle (by have := h.lB; omega), h.lB]
  have hlX1 : X1.length = 16 := by rw [← HX1, splice_length' X k i hle (by have := h.lX; omega), h.lX]
  have hk := del_yes h.srt hh
  rw [hi] at hk
  have e1 : (kdel l b).length = k := by rw [hk]; simp; omega
  refine ⟨?_, by simp [hlB1], by simp [hlX1], ?_, ?_, by have := h.le; rw [e1]; omega, h.r1, h.r16, h.srt.del b, h.low.del b, ?_⟩
  · have s3 := setCell_list _ r 1 _ ty (.int .i64 (k : Int)) blk5
    rw [rowL_set1] at s3
    have b3 := setRow_heap _ r _ (rowL rm k B1 X1).toArray _ _ blk5
    rw [show rowL rm k B1 X1 = .int .i64 rm :: .int .i64 (k : Int) :: (B1 ++ X1) from rfl, ← s3] at b3
    have b3' : (w5.setCell ⟨r, 1, none⟩ (.int .i64 (k : Int))).heap[r]? = some (.cells (rowL rm k B1 X1).toArray ty (0, 0)) := b3
    have s1 := setCell_list _ r (2 + k) _ ty (.int .u8 0) b3'
    rw [rowL_setB _ _ _ _ hlB1 k (by omega)] at s1
    have b1 := setRow_heap _ r _ (rowL rm k (B1.set k (.int .u8 0)) X1).toArray _ _ b3'
    rw [← s1] at b1
    have s2 := setCell_list _ r (18 + k) _ ty z b1
    rw [rowL_setX _ _ _ _ (by simp [hlB1])] at s2
    have b2 := setRow_heap _ r _ (rowL rm k (B1.set k (.int .u8 0)) (X1.set k z)).toArray _ _ b1
    rw [← s2] at b2
    rw [e1]
    exact b2
  · rw [e1, ← HB1, del_cells B k i _ hle (by have := h.lB; omega), ← hn, h.bs, hk]
    simp [List.map_take, List.map_drop]
  · rw [e1, ← HX1, del_cells X k i _ hle (by have := h.lX; omega), ← hn, h.xs, hk]
    simp [List.map_take, List.map_drop]
  · intro v hv
    have oB : ∀ v ∈ B, v.oneCell' = true := fun v hv => h.one v (List.mem_append_left _ hv)
    have oX : ∀ v ∈ X, v.oneCell' = true := fun v hv => h.one v (List.mem_append_right _ hv)
    have sg : ∀ {A : List Value}, (∀ v ∈ A, v.oneCell' = true) → ∀ v ∈ (A.drop (i + 1)).take (k - i), v.oneCell' = true := fun h v hv => h v (List.mem_of_mem_drop (List.mem_of_mem_take hv))
    rcases List.mem_append.1 hv with hv | hv
    · rcases List.mem_or_eq_of_mem_set hv with hv | rfl
      · rw [← HB1] at hv; exact splice_mem B _ _ (fun v => v.oneCell' = true) oB (sg oB) v hv
      · rfl
    · rcases List.mem_or_eq_of_mem_set hv with hv | rfl
      · rw [← HX1] at hv; exact splice_mem X _ _ (fun v => v.oneCell' = true) oX (sg oX) v hv
      · exact hz
theorem copy_seg' {w : World} {r : Nat} {C : List Value} {t : Nat} (hg : w.heap[r]? = some (.cells C.toArray t (0, 0))) (base : Nat) (A : List Value) (hA : ∀ j, j < 16 → C[base + j]? = A[j]?) (i k : Nat) (hn : k + 1 ≤ 16) (m : Nat) :
    ∀ j v, ((A.drop (i + 1)).take (k - i))[j]? = some v → (w.drewN m).cell? ((⟨r, base + (i + 1), none⟩ : Addr).add j) = some v := by
  intro j v hv
  rw [List.getElem?_take] at hv
  split at hv
  · rename_i hj
    rw [List.getElem?_drop] at hv
    have e : (⟨r, base + (i + 1), none⟩ : Addr).add j = ⟨r, base + (i + 1) + j, none⟩ := by unfold Addr.add; split <;> simp_all
    rw [e, World.cell?_drewN, cell_of_blk hg, show base + (i + 1) + j = base + (i + 1 + j) from by omega, hA _ (by omega)]
    exact hv
  · simp at hv
namespace I
variable {w : World} {r rm : Nat} {l : KV} {B X : List Value}
end I

namespace N
variable {w : World} {r rm : Nat} {l : KV} {B X : List Value}
def dropPost (r rm : Nat) (l : KV) (b : Nat) (c : Int) (w : World) (e : Ending) (w' : World) : Prop := e = .returned (.int .i64 c) ∧ RowAt rowT w' r rm (kdel l b) ∧ Mod (· = r) w w'
end N
end Go.Proofs.YtfhdiimcimafkaaGreatDoor
/- Boards of many things (wide.Board): what a board's block holds; what is read. -/
namespace Go.Proofs.YtfhdiimcimafkaaGreatDoor
open Go.RowKit

/-- the cells of the places -/
def atL (p : Nat → Nat) : List Value := (List.range 256).map fun b => .int .u16 (p b : Nat)
def bdL (rm n : Nat) (p : Nat → Nat) (vx vf : Value) : List Value := .int .i64 rm :: .int .i64 n :: (atL p ++ [vx, vf])
def upd (p : Nat → Nat) (b q : Nat) : Nat → Nat := fun c => if c = b then q else p c
theorem atL_length (p : Nat → Nat) : (atL p).length = 256 := by simp [atL]
theorem atL_get (p : Nat → Nat) (b : Nat) (hb : b < 256) : (atL p)[b]? = some (.int .u16 (p b : Nat)) := by simp [atL, hb]
theorem atL_set (p : Nat → Nat) (b q : Nat) (hb : b < 256) : (atL p).set b (.int .u16 (q : Nat)) = atL (upd p b q) := by
  apply List.ext_getElem?
  intro j
  rw [List.getElem?_set]
  by_cases h : b = j
  · subst h; rw [if_pos rfl, if_pos (by rw [atL_length]; exact hb), atL_get _ _ hb]; simp [upd]
  · by_cases hj : j < 256
    · rw [if_neg h, atL_get _ _ hj, atL_get _ _ hj]; simp [upd, show ¬ j = b by omega]
    · rw [if_neg h, List.getElem?_eq_none (by rw [atL_length]; omega), List.getElem?_eq_none (by rw [atL_length]; omega)]
theorem bdL_setA (rm n : Nat) (p : Nat → Nat) (vx vf : Value) (b q : Nat) (hb : b < 256) : (bdL rm n p vx vf).set (2 + b) (.int .u16 (q : Nat)) = bdL rm n (upd p b q) vx vf := by
  rw [bdL, show 2 + b = (b + 1) + 1 from by omega, List.set_cons_succ, List.set_cons_succ, List.set_append_left _ _ (by rw [atL_length]; omega), atL_set p b q hb, bdL]
theorem bdL_setX (rm n : Nat) (p : Nat → Nat) (vx vf v : Value) : (bdL rm n p vx vf).set 258 v = bdL rm n p v vf := by
  rw [bdL, show 258 = (256 + 1) + 1 from rfl, List.set_cons_succ, List.set_cons_succ, List.set_append_right _ _ (by rw [atL_length]; omega), atL_length]; rfl
theorem bdL_setF (rm n : Nat) (p : Nat → Nat) (vx vf v : Value) : (bdL rm n p vx vf).set 259 v = bdL rm n p vx v := by
  rw [bdL, show 259 = (257 + 1) + 1 from rfl, List.set_cons_succ, List.set_cons_succ, List.set_append_right _ _ (by rw [atL_length]; omega), atL_length]; rfl
theorem bdL_set1 (rm n m : Nat) (p : Nat → Nat) (vx vf : Value) : (bdL rm n p vx vf).set 1 (.int .i64 (m : Nat)) = bdL rm m p vx vf := rfl
theorem bdL_length (rm n : Nat) (p : Nat → Nat) (vx vf : Value) : (bdL rm n p vx vf).length = 260 := by simp [bdL, atL_length]
theorem bdL_A (rm n : Nat) (p : Nat → Nat) (vx vf : Value) (b : Nat) (hb : b < 256) : (bdL rm n p vx vf)[2 + b]? = some (.int .u16 (p b : Nat)) := by
  rw [bdL, show 2 + b = (b + 1) + 1 from by omega, List.getElem?_cons_succ, List.getElem?_cons_succ, List.getElem?_append_left (by rw [atL_length]; omega), atL_get p b hb]
theorem bdL_X (rm n : Nat) (p : Nat → Nat) (vx vf : Value) : (bdL rm n p vx vf)[258]? = some vx := by
  rw [bdL, show 258 = (256 + 1) + 1 from rfl, List.getElem?_cons_succ, List.getElem?_cons_succ, List.getElem?_append_right (by rw [atL_length]; omega), atL_length]; rfl
theorem bdL_F (rm n : Nat) (p : Nat → Nat) (vx vf : Value) : (bdL rm n p vx vf)[259]? = some vf := by
  rw [bdL, show 259 = (257 + 1) + 1 from rfl, List.getElem?_cons_succ, List.getElem?_cons_succ, List.getElem?_append_right (by rw [atL_length]; omega), atL_length]; rfl

def fsV (fs : List Nat) : List Value := fs.map fun q => .int .u16 (q : Nat)
/-- how the places stand to the things -/
structure Places (rm : Nat) (l : KV) (p : Nat → Nat) (xs : List Value) (fs : List Nat) : Prop where
  zero : ∀ b, b < 256 → (p b = 0 ↔ has l b = false)
  at_ : ∀ b, b < 256 → p b ≠ 0 → p b ≤ xs.length ∧ xs[p b - 1]? = kget l b
  inj : ∀ b c, b < 256 → c < 256 → p b ≠ 0 → p b = p c → b = c
  fnd : fs.Nodup
  fin : ∀ q ∈ fs, 1 ≤ q ∧ q ≤ xs.length ∧ ∀ b, b < 256 → p b ≠ q
  cnt : xs.length = l.length + fs.length
  le : l.length ≤ rm
  leX : xs.length ≤ rm
  rm_ : rm = 48 ∨ rm = 256
  srt : Srt l
  low : Low l
  one : ∀ v ∈ xs, v.oneCell' = true
/-- What a board's block holds. -/
structure BdIs (ty tx tf : Nat) (w : World) (r rm : Nat) (l : KV) (p : Nat → Nat) (vx : Value) (xs : List Value) (bx : Option Nat) (vf : Value) (fs : List Nat) (bf : Option Nat) : Prop where
  blk : w.heap[r]? = some (.cells (bdL rm l.length p vx vf).toArray ty (0, 0))
  ownX : Own tx w vx xs bx
  ownF : Own tf w vf (fsV fs) bf
  neX : bx ≠ some r
  neF : bf ≠ some r
  neXF : ∀ g, bx = some g → bf ≠ some g
  pl : Places rm l p xs fs
/-- the blocks of a board -/
def bdS (r : Nat) (bx bf : Option Nat) (k : Nat) : Prop := k = r ∨ bx = some k ∨ bf = some k
def BdAt (ty tx tf : Nat) (w : World) (r rm : Nat) (l : KV) (S : Nat → Prop) : Prop := ∃ p vx xs bx vf fs bf, BdIs ty tx tf w r rm l p vx xs bx vf fs bf ∧ S = bdS r bx bf

section
variable {ty tx tf : Nat} {w : World} {r rm : Nat} {l : KV} {p : Nat → Nat} {vx : Value} {xs : List Value} {bx : Option Nat} {vf : Value} {fs : List Nat} {bf : Option Nat}
theorem BdIs.c0 (h : BdIs ty tx tf w r rm l p vx xs bx vf fs bf) : w.cell? ⟨r, 0, none⟩ = some (.int .i64 rm) := by rw [cell_of_blk h.blk]; rfl
theorem BdIs.c1 (h : BdIs ty tx tf w r rm l p vx xs bx vf fs bf) : w.cell? ⟨r, 1, none⟩ = some (.int .i64 l.length) := by rw [cell_of_blk h.blk]; rfl
theorem BdIs.cA (h : BdIs ty tx tf w r rm l p vx xs bx vf fs bf) (b : Nat) (hb : b < 256) : w.cell? ⟨r, 2 + b, none⟩ = some (.int .u16 (p b : Nat)) := by rw [cell_of_blk h.blk, bdL_A _ _ _ _ _ _ hb]
theorem BdIs.cX (h : BdIs ty tx tf w r rm l p vx xs bx vf fs bf) : w.cell? ⟨r, 258, none⟩ = some vx := by rw [cell_of_blk h.blk, bdL_X]
theorem BdIs.cF (h : BdIs ty tx tf w r rm l p vx xs bx vf fs bf) : w.cell? ⟨r, 259, none⟩ = some vf := by rw [cell_of_blk h.blk, bdL_F]
theorem BdIs.r1 (h : BdIs ty tx tf w r rm l p vx xs bx vf fs bf) : 1 ≤ rm := by rcases h.pl.rm_ with e | e <;> omega
theorem BdIs.r256 (h : BdIs ty tx tf w r rm l p vx xs bx vf fs bf) : rm ≤ 256 := by rcases h.pl.rm_ with e | e <;> omega
theorem BdIs.lt (h : BdIs ty tx tf w r rm l p vx xs bx vf fs bf) : r < w.heap.size := (Array.getElem?_eq_some_iff.1 h.blk).1
theorem BdIs.keep {w' : World} (h : BdIs ty tx tf w r rm l p vx xs bx vf fs bf) (hk : ∀ k, bdS r bx bf k → w'.heap[k]? = w.heap[k]?) : BdIs ty tx tf w' r rm l p vx xs bx vf fs bf :=
  ⟨(hk r (Or.inl rfl)).trans h.blk, h.ownX.keep fun g e => hk g (Or.inr (Or.inl e)), h.ownF.keep fun g e => hk g (Or.inr (Or.inr e)), h.neX, h.neF, h.neXF, h.pl⟩
theorem BdIs.here (h : BdIs ty tx tf w r rm l p vx xs bx vf fs bf) {b : Nat} (hb : b < 256) (hh : has l b = true) :
    ∃ g cap q v, bx = some g ∧ vx = .slice (some ⟨g, 0, none⟩) xs.length cap ∧ p b = q + 1 ∧ q < xs.length ∧ w.cell? ⟨g, q, none⟩ = some v ∧ w.frozen? ⟨g, q, none⟩ = false ∧ kget l b = some v ∧ xs.length ≤ cap := by
  have h0 : p b ≠ 0 := fun e => by have := (h.pl.zero b hb).1 e; rw [hh] at this; simp at this
  obtain ⟨h1, h2⟩ := h.pl.at_ b hb h0
  obtain ⟨g, cap, e1, e2, e3, e4, e5⟩ := h.ownX.at_ (j := p b - 1) (by omega)
  refine ⟨g, cap, p b - 1, xs[p b - 1], e1, e2, by omega, by omega, e3, e4, ?_, e5⟩
  rw [← h2, List.getElem?_eq_getElem]
end
end Go.Proofs.YtfhdiimcimafkaaGreatDoor
/- Boards: the calls that only read. -/
namespace Go.Proofs.YtfhdiimcimafkaaGreatDoor
open Go.RowKit
namespace I
abbrev elT : Nat := 3
abbrev u16T : Nat := 144
variable {w : World} {r rm : Nat} {l : KV} {p : Nat → Nat} {vx : Value} {xs : List Value} {bx : Option Nat} {vf : Value} {fs : List Nat} {bf : Option Nat}
end I

namespace N
abbrev bdT : Nat := 148
abbrev elT : Nat := 26
abbrev u16T : Nat := 144
variable {w : World} {r rm : Nat} {l : KV} {p : Nat → Nat} {vx : Value} {xs : List Value} {bx : Option Nat} {vf : Value} {fs : List Nat} {bf : Option Nat}
theorem bok_nil (w : World) : Calls Tryz.prog 101 #[.pointer none] w fun e w' => e = .returned (.bool false) ∧ w = w' := by
  go_enter Tryz.func101, Tryz.ntmps101
  go_wp2_with fail
  go_ret
  exact ⟨rfl, rfl⟩
theorem bok_yes (w : World) (r rm : Nat) (hc : w.cell? ⟨r, 0, none⟩ = some (.int .i64 rm)) (h : 0 < rm) : Calls Tryz.prog 101 #[.pointer (some ⟨r, 0, none⟩)] w fun e w' => e = .returned (.bool true) ∧ w = w' := by
  go_enter Tryz.func101, Tryz.ntmps101
  go_wp2_with fail
  go_ret
  exact ⟨rfl, rfl⟩
theorem bd_len (h : BdIs bdT elT u16T w r rm l p vx xs bx vf fs bf) : Calls Tryz.prog 90 #[.pointer (some ⟨r, 0, none⟩)] w fun e w' => e = .returned (.int .i64 l.length) ∧ w = w' := by
  have c0 := h.c0
  have c1 := h.c1
  have hr := h.r1
  clear h
  go_enter Tryz.func90, Tryz.ntmps90
  go_wp2_with (go_at_call 101; refine (bok_yes _ _ _ c0 hr).mono ?_; rintro e w' ⟨rfl, rfl⟩)
  go_ret
  exact ⟨rfl, rfl⟩
theorem bd_room (h : BdIs bdT elT u16T w r rm l p vx xs bx vf fs bf) : Calls Tryz.prog 85 #[.pointer (some ⟨r, 0, none⟩)] w fun e w' => e = .returned (.int .i64 rm) ∧ w = w' := by
  have c0 := h.c0
  have hr := h.r1
  clear h
  go_enter Tryz.func85, Tryz.ntmps85
  go_wp2_with (go_at_call 101; refine (bok_yes _ _ _ c0 hr).mono ?_; rintro e w' ⟨rfl, rfl⟩)
  go_ret
  exact ⟨rfl, rfl⟩
set_option maxHeartbeats 800000 in
theorem bd_get (h : BdIs bdT elT u16T w r rm l p vx xs bx vf fs bf) (b : Nat) (hb : b < 256) : Calls Tryz.prog 110 #[.pointer (some ⟨r, 0, none⟩), .int .u8 b] w fun e w' => e = .returned (getV (kget l b)) ∧ ∃ n, w' = w.drewN n := by
  have c0 := h.c0
  have hr := h.r1
  have cA := h.cA b hb
  have hbi : (b : Int) < 256 := by omega
  generalize hV : getV (kget l b) = V
  cases hh : has l b with
  | false =>
    rw [(h.pl.zero b hb).2 hh] at cA
    have cA' : w.cell? ⟨r, 2 + b, none⟩ = some (.int .u16 0) := cA
    have hR : Hid (V = .tuple #[(.pointer none), .bool false]) := by show _ = _; rw [← hV, get_no h.pl.srt hh]; rfl
    clear h hh hV cA
    go_enter Tryz.func110, Tryz.ntmps110
    go_wp2_with (go_at_call 101; refine (bok_yes _ _ _ c0 hr).mono ?_; rintro e w' ⟨rfl, rfl⟩)
    go_ret2
    exact ⟨congrArg Ending.returned hR.out.symm, 0, rfl⟩
  | true =>
    obtain ⟨g, cap, q, v, e1, e2, e3, e4, e5, e6, e7, e8⟩ := h.here hb hh
    rw [e3, show ((q + 1 : Nat) : Int) = (q : Int) + 1 from by omega] at cA
    have cX := h.cX
    rw [e2] at cX
    have hR : Hid (V = .tuple #[v, .bool true]) := by show _ = _; rw [← hV, e7]; rfl
    have hx : xs.length ≤ 256 := by have := h.pl.leX; have := h.r256; omega
    generalize xs.length = k at *
    have hq0 : ((q : Int) + 1 == 0) = false := beq_eq_false_iff_ne.mpr (by omega)
    have hq1 : (q : Int) < (k : Int) := by omega
    have hq2 : (q : Int) ≤ 256 := by omega
    clear h hh hV e1 e2 e3 e7 e6
    go_enter Tryz.func110, Tryz.ntmps110
    go_wp2_with (go_at_call 101; refine (bok_yes _ _ _ c0 hr).mono ?_; rintro e w' ⟨rfl, rfl⟩)
    have k1 : IntKind.u16.wrap ((q : Int) + 1 - 1) = (q : Int) := by rw [IntWalk.u16_in _ (by omega)]; omega
    go_quiet (fail)
    go_wp2_with fail
    go_ret2
    exact ⟨congrArg Ending.returned hR.out.symm, nq, rfl⟩
set_option maxHeartbeats 800000 in
set_option maxRecDepth 100000 in
theorem bd_next (h : BdIs bdT elT u16T w r rm l p vx xs bx vf fs bf) (f : Int) (hlo : -9223372036854775808 ≤ f) (hhi : f ≤ 9223372036854775807) : Calls Tryz.prog 92 #[.pointer (some ⟨r, 0, none⟩), .int .i64 f] w fun e w' => e = .returned (atV (knxt l f)) ∧ ∃ n, w' = w.drewN n := by
  have Hhi := Lib.hid hhi
  have Hlo := Lib.hid hlo
  clear hhi hlo
  have c0 := h.c0
  have hr := h.r1
  have HL := Lib.hid h.pl.low
  have HS := Lib.hid h.pl.srt
  have HG : ∀ n b, b < 256 → Hid (Calls Tryz.prog 110 #[.pointer (some ⟨r, 0, none⟩), .int .u8 (b : Nat)] (w.drewN n) fun e w' => e = .returned (getV (kget l b)) ∧ ∃ m, w' = (w.drewN n).drewN m) := fun n b hb => bd_get (h.keep (w' := w.drewN n) fun _ _ => rfl) b hb
  have Hg := Lib.hid HG
  clear HG h
  generalize hV : atV (knxt l f) = V
  have HV := Lib.hid hV
  clear hV
  obtain ⟨g, Hgf⟩ : ∃ g : Nat, Hid (g = f.toNat) := ⟨_, rfl⟩
  have key : Hid (knxt l f = knxt l (g : Nat)) := by
    show _ = _
    rw [Hgf.out]
    by_cases h0 : 0 ≤ f
    · rw [Int.toNat_of_nonneg h0]
    · rw [nxt_neg l (f := f) (by omega)]; congr 1; omega
  have fin : Hid (∀ g', 256 ≤ g' → knxt l ((g' : Nat) : Int) = none) := fun g' hg => nxt_high HL.out (by omega)
  have start : Hid (V = atV (knxt l (g : Nat))) := by show _ = _; rw [← HV.out, key.out]
  by_cases h0 : 0 ≤ f
  · obtain ⟨q, rfl⟩ := Int.eq_ofNat_of_zero_le h0
    obtain rfl : g = q := by have := Hgf.out; omega
    clear Hgf h0
    go_enter Tryz.func92, Tryz.ntmps92
    go_wp2_with (go_at_call 101; refine (bok_yes _ _ _ c0 hr).mono ?_; rintro e w' ⟨rfl, rfl⟩)
    go_loopw [7] (fun vb wr => ∃ b n : Nat, vb = .int .i64 b ∧ Hid (V = atV (knxt l (b : Nat))) ∧ wr = w.drewN n) (fun vb _ => (256 - intOf vb).toNat)
    case atStart => exact ⟨g, 0, rfl, start.out, rfl⟩
    case round =>
      obtain ⟨b, n, rfl, HK, rfl⟩ := hrel
      by_cases hlt : b < 256
      · have hg1 := Hg.out n b hlt
        have hlt2 : (b : Int) ≤ 255 := by omega
        clear hlt
        cases hk : kget l b with
        | some v =>
          have hR : Hid (V = .tuple #[.int .u8 (b : Nat), v, .bool true]) := by show _ = _; rw [HK.out, nxt_hit HS.out hk]; rfl
          have hgv : Hid (getV (kget l b) = .tuple #[v, .bool true]) := by show _ = _; rw [hk]; rfl
          clear hk
          go_wp2_with (go_at_call 110; refine hg1.out.mono ?_; rintro e w' ⟨rfl, nd, rfl⟩; rw [hgv.out])
          go_ret3
          exact ⟨congrArg Ending.returned hR.out.symm, n + nd, by simp⟩
        | none =>
          have HK2 : Hid (V = atV (knxt l ((b + 1 : Nat) : Int))) := by show _ = _; rw [HK.out, nxt_miss HS.out hk]
          have hgv : Hid (getV (kget l b) = .tuple #[(.pointer none), .bool false]) := by show _ = _; rw [hk]; rfl
          clear hk
          go_wp2_with (go_at_call 110; refine hg1.out.mono ?_; rintro e w' ⟨rfl, nd, rfl⟩; rw [hgv.out])
          go_roundw
          case rel => exact ⟨b + 1, n + nd, (by first | rfl | go_num), HK2, by simp⟩
          case measure => (simp [intOf]) <;> omega
      · have hlt2 : 256 ≤ (b : Int) := by omega
        have hR : Hid (V = .tuple #[.int .u8 0, (.pointer none), .bool false]) := by show _ = _; rw [HK.out, fin.out b (by omega)]; rfl
        clear hlt
        go_wp2_with fail
        go_ret3
        exact ⟨congrArg Ending.returned hR.out.symm, n, rfl⟩
  · obtain rfl : g = 0 := by have := Hgf.out; omega
    clear Hgf
    go_enter Tryz.func92, Tryz.ntmps92
    go_wp2_with (go_at_call 101; refine (bok_yes _ _ _ c0 hr).mono ?_; rintro e w' ⟨rfl, rfl⟩)
    go_loopw [7] (fun vb wr => ∃ b n : Nat, vb = .int .i64 b ∧ Hid (V = atV (knxt l (b : Nat))) ∧ wr = w.drewN n) (fun vb _ => (256 - intOf vb).toNat)
    case atStart => exact ⟨0, 0, rfl, start.out, rfl⟩
    case round =>
      obtain ⟨b, n, rfl, HK, rfl⟩ := hrel
      by_cases hlt : b < 256
      · have hg1 := Hg.out n b hlt
        have hlt2 : (b : Int) ≤ 255 := by omega
        clear hlt
        cases hk : kget l b with
        | some v =>
          have hR : Hid (V = .tuple #[.int .u8 (b : Nat), v, .bool true]) := by show _ = _; rw [HK.out, nxt_hit HS.out hk]; rfl
          have hgv : Hid (getV (kget l b) = .tuple #[v, .bool true]) := by show _ = _; rw [hk]; rfl
          clear hk
          go_wp2_with (go_at_call 110; refine hg1.out.mono ?_; rintro e w' ⟨rfl, nd, rfl⟩; rw [hgv.out])
          go_ret3
          exact ⟨congrArg Ending.returned hR.out.symm, n + nd, by simp⟩
        | none =>
          have HK2 : Hid (V = atV (knxt l ((b + 1 : Nat) : Int))) := by show _ = _; rw [HK.out, nxt_miss HS.out hk]
          have hgv : Hid (getV (kget l b) = .tuple #[(.pointer none), .bool false]) := by show _ = _; rw [hk]; rfl
          clear hk
          go_wp2_with (go_at_call 110; refine hg1.out.mono ?_; rintro e w' ⟨rfl, nd, rfl⟩; rw [hgv.out])
          go_roundw
          case rel => exact ⟨b + 1, n + nd, (by first | rfl | go_num), HK2, by simp⟩
          case measure => (simp [intOf]) <;> omega
      · have hlt2 : 256 ≤ (b : Int) := by omega
        have hR : Hid (V = .tuple #[.int .u8 0, (.pointer none), .bool false]) := by show _ = _; rw [HK.out, fin.out b (by omega)]; rfl
        clear hlt
        go_wp2_with fail
        go_ret3
        exact ⟨congrArg Ending.returned hR.out.symm, n, rfl⟩
end N
end Go.Proofs.YtfhdiimcimafkaaGreatDoor
/- Boards: the calls that make and write. -/
namespace Go.Proofs.YtfhdiimcimafkaaGreatDoor
open Go.RowKit

theorem places_nil (rm : Nat) (h : rm = 48 ∨ rm = 256) : Places rm [] (fun _ => 0) [] [] :=
  ⟨fun b _ => by simp [has, pl, lb, KV.keys], fun b _ h => by simp at h, fun b c _ _ h => by simp at h, List.nodup_nil, by simp, rfl, by simp, by simp, h, Srt.nil, (by intro p hp; simp at hp), by simp⟩
theorem has_ins {l : KV} (hs : Srt l) (b : Nat) (x : Value) (c : Nat) : has (kins l b x) c = (decide (c = b) || has l c) := by
  rw [← get_has (hs.ins b x), ← get_has hs, get_ins hs]
  by_cases e : c = b <;> simp [e]
theorem has_del {l : KV} (hs : Srt l) (b : Nat) (c : Nat) : has (kdel l b) c = (!decide (c = b) && has l c) := by
  rw [← get_has (hs.del b), ← get_has hs, get_del hs]
  by_cases e : c = b <;> simp [e]
theorem ins_len {l : KV} (hs : Srt l) {b : Nat} (h : has l b = false) (x : Value) : (kins l b x).length = l.length + 1 := by
  rw [ins_no hs h]; have := pl_le l b; simp; omega
theorem ins_len' {l : KV} (hs : Srt l) {b : Nat} (h : has l b = true) (x : Value) : (kins l b x).length = l.length := by
  rw [ins_yes hs h]; have := (has_yes h).1; simp; omega
theorem del_len {l : KV} (hs : Srt l) {b : Nat} (h : has l b = true) : (kdel l b).length + 1 = l.length := by
  rw [del_yes hs h]; have := (has_yes h).1; simp; omega

section
variable {rm : Nat} {l : KV} {p : Nat → Nat} {xs : List Value} {fs : List Nat}
theorem Places.nz (h : Places rm l p xs fs) {b : Nat} (hb : b < 256) (hh : has l b = true) : p b ≠ 0 := fun e => by have := (h.zero b hb).1 e; rw [hh] at this; simp at this
/-- a thing takes another one's place at the same byte -/
theorem Places.same (h : Places rm l p xs fs) {b : Nat} (hb : b < 256) (hh : has l b = true) (x : Value) (hx : x.oneCell' = true) : Places rm (kins l b x) p (xs.set (p b - 1) x) fs := by
  have h0 := h.nz hb hh
  obtain ⟨h1, h2⟩ := h.at_ b hb h0
  refine ⟨fun c hc => ?_, fun c hc hz => ?_, h.inj, h.fnd, fun q hq => ?_, ?_, ?_, ?_, h.rm_, h.srt.ins b x, h.low.ins hb x, ?_⟩
  · rw [has_ins h.srt]
    by_cases e : c = b
    · subst e; simp [h0]
    · simp [e, h.zero c hc]
  · obtain ⟨k1, k2⟩ := h.at_ c hc hz
    refine ⟨by simpa using k1, ?_⟩
    rw [get_ins h.srt]
    by_cases e : c = b
    · rw [e, if_pos rfl, List.getElem?_set_self (by omega)]
    · have : p b ≠ p c := fun e2 => e (h.inj b c hb hc h0 e2).symm
      rw [List.getElem?_set_ne (by omega), if_neg e, k2]
  · simpa using h.fin q hq
  · rw [ins_len' h.srt hh]; simpa using h.cnt
  · rw [ins_len' h.srt hh]; exact h.le
  · simpa using h.leX
  · intro v hv
    rcases List.mem_or_eq_of_mem_set hv with hv | rfl
    · exact h.one v hv
    · exact hx
/-- a thing comes to a place that nothing stood at -/
theorem Places.fresh (h : Places rm l p xs fs) {b : Nat} (hb : b < 256) (hh : has l b = false) (x : Value) (hx : x.oneCell' = true) {xs' : List Value} {fs' : List Nat} {q : Nat} (hq : q < xs'.length)
    (hxs : ∀ j, j < xs.length → j ≠ q → xs'[j]? = xs[j]?) (hlen : xs'.length = l.length + 1 + fs'.length) (hle : xs.length ≤ xs'.length) (hrm : xs'.length ≤ rm) (hr : l.length < rm) (hnd : fs'.Nodup) (hfs : ∀ y ∈ fs', y ∈ fs ∧ y ≠ q + 1) (hno : ∀ c, c < 256 → p c ≠ q + 1) (hone : ∀ v ∈ xs', v.oneCell' = true) :
    Places rm (kins l b x) (upd p b (q + 1)) (xs'.set q x) fs' := by
  refine ⟨fun c hc => ?_, fun c hc hz => ?_, fun c d hc hd hz he => ?_, hnd, fun y hy => ?_, ?_, ?_, ?_, h.rm_, h.srt.ins b x, h.low.ins hb x, ?_⟩
  · rw [has_ins h.srt]
    unfold upd
    by_cases e : c = b
    · subst e; simp
    · simp [e, h.zero c hc]
  · unfold upd at hz ⊢
    rw [get_ins h.srt]
    by_cases e : c = b
    · subst e; simp [hq]; omega
    · simp only [e, if_false] at hz ⊢
      obtain ⟨k1, k2⟩ := h.at_ c hc hz
      have := hno c hc
      refine ⟨by simp; omega, ?_⟩
      rw [List.getElem?_set_ne (by omega), hxs _ (by omega) (by omega), k2]
  · unfold upd at hz he
    by_cases e : c = b
    · by_cases e2 : d = b
      · rw [e, e2]
      · simp only [e, e2, if_true, if_false] at he
        exact absurd he.symm (hno d hd)
    · by_cases e2 : d = b
      · simp only [e, e2, if_true, if_false] at he
        exact absurd he (hno c hc)
      · simp only [e, e2, if_false] at hz he
        exact h.inj c d hc hd hz he
  · obtain ⟨h1, h2⟩ := hfs y hy
    obtain ⟨k1, k2, k3⟩ := h.fin y h1
    refine ⟨k1, by simp; omega, fun c hc => ?_⟩
    unfold upd
    split
    · omega
    · exact k3 c hc
  · rw [ins_len h.srt hh]; simp; omega
  · rw [ins_len h.srt hh]; omega
  · simpa using hrm
  · intro v hv
    rcases List.mem_or_eq_of_mem_set hv with hv | rfl
    · exact hone v hv
    · exact hx
/-- a thing goes -/
theorem Places.drop (h : Places rm l p xs fs) {b : Nat} (hb : b < 256) (hh : has l b = true) (z : Value) (hz : z.oneCell' = true) : Places rm (kdel l b) (upd p b 0) (xs.set (p b - 1) z) (fs ++ [p b]) := by
  have h0 := h.nz hb hh
  obtain ⟨h1, h2⟩ := h.at_ b hb h0
  have hl := del_len h.srt hh
  refine ⟨fun c hc => ?_, fun c hc hz => ?_, fun c d hc hd hz he => ?_, ?_, fun y hy => ?_, ?_, ?_, ?_, h.rm_, h.srt.del b, h.low.del b, ?_⟩
  · rw [has_del h.srt]
    unfold upd
    by_cases e : c = b
    · subst e; simp
    · simp [e, h.zero c hc]
  · unfold upd at hz ⊢
    rw [get_del h.srt]
    by_cases e : c = b
    · subst e; simp at hz
    · simp only [e, if_false] at hz ⊢
      obtain ⟨k1, k2⟩ := h.at_ c hc hz
      have : p b ≠ p c := fun e2 => e (h.inj b c hb hc h0 e2).symm
      refine ⟨by simpa using k1, ?_⟩
      rw [List.getElem?_set_ne (by omega), k2]
  · unfold upd at hz he
    by_cases e : c = b
    · simp [e] at hz
    · by_cases e2 : d = b
      · simp [e, e2] at hz he; omega
      · simp only [e, e2, if_false] at hz he
        exact h.inj c d hc hd hz he
  · rw [List.nodup_append]
    refine ⟨h.fnd, by simp, fun y hy y' hy' => ?_⟩
    simp at hy'; subst hy'
    exact fun e => (h.fin y hy).2.2 b hb e.symm
  · rcases List.mem_append.1 hy with hy | hy
    · obtain ⟨k1, k2, k3⟩ := h.fin y hy
      refine ⟨k1, by simpa using k2, fun c hc => ?_⟩
      unfold upd
      split
      · omega
      · exact k3 c hc
    · simp at hy; subst hy
      refine ⟨by omega, by simpa using h1, fun c hc => ?_⟩
      unfold upd
      split
      · omega
      · rename_i e
        exact fun e2 => e (h.inj b c hb hc h0 e2.symm).symm
  · have := h.cnt; simp; omega
  · have := h.le; omega
  · simpa using h.leX
  · intro v hv
    rcases List.mem_or_eq_of_mem_set hv with hv | rfl
    · exact h.one v hv
    · exact hz
end
theorem new_cell {S : Nat → Prop} {w w1 : World} {o : Obj} {r : Nat} (hm : Mod S (w.alloc o) w1) (hlt : r < w.heap.size) (hr : ¬ S r) : w1.heap[r]? = w.heap[r]? :=
  (hm.same r (by simp; omega) hr).trans (Below.heap_alloc _ _ _ hlt)
theorem Own.alloc {ty : Nat} {w : World} {v : Value} {xs : List Value} {bo : Option Nat} (h : Own ty w v xs bo) (o : Obj) : Own ty (w.alloc o) v xs bo :=
  h.keep fun g hg => Below.heap_alloc _ _ _ (by subst hg; exact h.lt)
theorem NewOr.of_alloc {w : World} {o : Obj} {a b : Option Nat} (h : NewOr (w.alloc o) a b) : NewOr w a b := by
  rcases h with h | ⟨g, h1, h2⟩
  · exact Or.inl h
  · exact Or.inr ⟨g, h1, by simp at h2; omega⟩
namespace I
variable {w : World} {r rm : Nat} {l : KV} {p : Nat → Nat} {vx : Value} {xs : List Value} {bx : Option Nat} {vf : Value} {fs : List Nat} {bf : Option Nat}
/-- what place tells and does: a free place is taken again -/
def placeFree (r q : Nat) (fs : List Nat) (bf : Option Nat) (w : World) (e : Ending) (w' : World) : Prop := e = .returned (.int .u16 (q : Nat)) ∧ ∃ vf', w' = w.setCell ⟨r, 259, none⟩ vf' ∧ Own u16T w vf' (fsV fs) bf
/-- .. a new place is made -/
def placeNew (r : Nat) (xs : List Value) (bx : Option Nat) (w : World) (e : Ending) (w' : World) : Prop := e = .returned (.int .u16 ((xs.length : Int) + 1)) ∧ ∃ vx' w1 bx', w' = w1.setCell ⟨r, 258, none⟩ vx' ∧ Own elT w1 vx' (xs ++ [(.int .i64 0)]) bx' ∧ Mod (fun k => bx = some k) w w1 ∧ NewOr w bx bx'
theorem infoEl : (Tryz.prog.info? elT).map (fun i => (i.zero, i.size, i.bytes)) = some (some (.int .i64 0), 1, 8) := by kernel_rfl
theorem infoU : (Tryz.prog.info? u16T).map (fun i => (i.zero, i.size, i.bytes)) = some (some (.int .u16 0), 1, 2) := by kernel_rfl
theorem underU : Tryz.prog.underlying 146 = some (.slice u16T) := by kernel_rfl
end I

namespace N
def bnewPost (rm : Nat) (w : World) (e : Ending) (w' : World) : Prop := e = .returned (.tuple #[.pointer (some ⟨w.heap.size, 0, none⟩), .int .i64 0]) ∧ BdIs bdT elT u16T w' w.heap.size rm [] (fun _ => 0) (.slice none 0 0) [] none (.slice none 0 0) [] none ∧ Below w.heap.size w w'
set_option maxRecDepth 100000 in
theorem bd_new48 (w : World) : Calls Tryz.prog 113 #[.int .i64 48] w (bnewPost 48 w) := by
  have hw : bnewPost 48 w (.returned (.tuple #[.pointer (some ⟨w.heap.size, 0, none⟩), .int .i64 0])) (w.alloc (.cells (bdL 48 0 (fun _ => 0) (.slice none 0 0) (.slice none 0 0)).toArray bdT)) :=
    ⟨rfl, ⟨by rw [heap_alloc_new]; rfl, Own.nil _ _, Own.nil _ _, by simp, by simp, by simp, places_nil 48 (Or.inl rfl)⟩, (Below.refl _ _).alloc (Nat.le_refl _) _⟩
  go_enter Tryz.func113, Tryz.ntmps113
  go_wp2_with fail
  go_ret2
  exact hw
set_option maxRecDepth 100000 in
theorem bd_new256 (w : World) : Calls Tryz.prog 113 #[.int .i64 256] w (bnewPost 256 w) := by
  have hw : bnewPost 256 w (.returned (.tuple #[.pointer (some ⟨w.heap.size, 0, none⟩), .int .i64 0])) (w.alloc (.cells (bdL 256 0 (fun _ => 0) (.slice none 0 0) (.slice none 0 0)).toArray bdT)) :=
    ⟨rfl, ⟨by rw [heap_alloc_new]; rfl, Own.nil _ _, Own.nil _ _, by simp, by simp, by simp, places_nil 256 (Or.inr rfl)⟩, (Below.refl _ _).alloc (Nat.le_refl _) _⟩
  go_enter Tryz.func113, Tryz.ntmps113
  go_wp2_with fail
  go_ret2
  exact hw
variable {w : World} {r rm : Nat} {l : KV} {p : Nat → Nat} {vx : Value} {xs : List Value} {bx : Option Nat} {vf : Value} {fs : List Nat} {bf : Option Nat}
/-- Set where the byte is there -/
def bsetPost (r rm : Nat) (l : KV) (b : Nat) (x : Value) (S : Nat → Prop) (w : World) (e : Ending) (w' : World) : Prop := e = .returned (.int .i64 0) ∧ ∃ S', BdAt bdT elT u16T w' r rm (kins l b x) S' ∧ Mod S w w' ∧ ∀ k, S' k → S k ∨ w.heap.size ≤ k
set_option maxHeartbeats 1000000 in
set_option maxRecDepth 100000 in
theorem bd_set_is (h : BdIs bdT elT u16T w r rm l p vx xs bx vf fs bf) (b : Nat) (hb : b < 256) (hh : has l b = true) (x : (Option Addr)) : Calls Tryz.prog 116 #[.pointer (some ⟨r, 0, none⟩), .int .u8 b, .pointer x] w (bsetPost r rm l b (.pointer x) (bdS r bx bf) w) := by
  have c0 := h.c0
  have hr := h.r1
  have cA := h.cA b hb
  have hbi : (b : Int) < 256 := by omega
  obtain ⟨g, cap, q, v, e1, e2, e3, e4, e5, e6, e7, e8⟩ := h.here hb hh
  rw [e3, show ((q + 1 : Nat) : Int) = (q : Int) + 1 from by omega] at cA
  have cX := h.cX
  rw [e2] at cX
  have hx : xs.length ≤ 256 := by have := h.pl.leX; have := h.r256; omega
  have hw : ∀ n, Hid (bsetPost r rm l b (.pointer x) (bdS r bx bf) w (.returned (.int .i64 0)) ((w.drewN n).setCell ⟨g, q, none⟩ (.pointer x))) := fun n => by
    have hp := h.pl.same hb hh (.pointer x) rfl
    rw [show p b - 1 = q from by omega] at hp
    have hgr : g ≠ r := fun e => h.neX (by rw [e1, e])
    have hfg : bf ≠ some g := h.neXF g e1
    refine ⟨rfl, _, ⟨p, vx, _, bx, vf, fs, bf, ⟨?_, ?_, ?_, h.neX, h.neF, h.neXF, hp⟩, rfl⟩, ((Mod.refl _ w).drewN n).setCell _ _ (fun _ => Or.inr (Or.inl e1)), fun k hk => Or.inl hk⟩
    · rw [Below.heap_setCell _ _ _ _ (fun e => hgr e.symm), ins_len' h.pl.srt hh]; exact h.blk
    · have ho := h.ownX
      rw [e1] at ho ⊢
      exact (ho.keep (w' := w.drewN n) fun _ _ => rfl).set q (.pointer x)
    · exact h.ownF.keep fun g' e => Below.heap_setCell _ _ _ _ (fun e' => hfg (by rw [e, e']))
  generalize xs.length = k at *
  have hq0 : ((q : Int) + 1 == 0) = false := beq_eq_false_iff_ne.mpr (by omega)
  have hq1 : (q : Int) < (k : Int) := by omega
  have hq2 : (q : Int) ≤ 256 := by omega
  clear h hh e1 e2 e3 e7
  go_enter Tryz.func116, Tryz.ntmps116
  go_wp2_with (go_at_call 101; refine (bok_yes _ _ _ c0 hr).mono ?_; rintro e w' ⟨rfl, rfl⟩)
  go_quiet (fail)
  go_wp2_with fail
  have k1 : IntKind.u16.wrap ((q : Int) + 1 - 1) = (q : Int) := by rw [IntWalk.u16_in _ (by omega)]; omega
  go_region
  go_wp2_with fail
  go_ret
  exact (hw _).out
set_option maxHeartbeats 1000000 in
set_option maxRecDepth 100000 in
theorem bd_set_full (h : BdIs bdT elT u16T w r rm l p vx xs bx vf fs bf) (b : Nat) (hb : b < 256) (hh : has l b = false) (hf : l.length = rm) (x : (Option Addr)) : Calls Tryz.prog 116 #[.pointer (some ⟨r, 0, none⟩), .int .u8 b, .pointer x] w fun e w' => e = .returned (.int .i64 10) ∧ ∃ n, w' = w.drewN n := by
  have c0 := h.c0
  have c1 := h.c1
  rw [hf] at c1
  have hr := h.r1
  have cA := h.cA b hb
  rw [(h.pl.zero b hb).2 hh] at cA
  have cA' : w.cell? ⟨r, 2 + b, none⟩ = some (.int .u16 0) := cA
  have hbi : (b : Int) < 256 := by omega
  clear h hh cA hf
  go_enter Tryz.func116, Tryz.ntmps116
  go_wp2_with (go_at_call 101; refine (bok_yes _ _ _ c0 hr).mono ?_; rintro e w' ⟨rfl, rfl⟩)
  go_quiet (fail)
  go_wp2_with fail
  go_ret
  exact ⟨rfl, _, rfl⟩
/-- what place tells and does: a free place is taken again -/
def placeFree (r q : Nat) (fs : List Nat) (bf : Option Nat) (w : World) (e : Ending) (w' : World) : Prop := e = .returned (.int .u16 (q : Nat)) ∧ ∃ vf', w' = w.setCell ⟨r, 259, none⟩ vf' ∧ Own u16T w vf' (fsV fs) bf
set_option maxRecDepth 100000 in
theorem bd_place_free {q : Nat} (h : BdIs bdT elT u16T w r rm l p vx xs bx vf (fs ++ [q]) bf) : Calls Tryz.prog 124 #[.pointer (some ⟨r, 0, none⟩)] w (placeFree r q fs bf w) := by
  have hl : (fsV (fs ++ [q])).length = fs.length + 1 := by simp [fsV]
  obtain ⟨g, cap, e1, e2, e3, e4, e5⟩ := h.ownF.at_ (j := fs.length) (by omega)
  have e6 : (fsV (fs ++ [q]))[fs.length]'(by omega) = .int .u16 (q : Nat) := by simp [fsV]
  rw [e6] at e3
  have cF := h.cF
  rw [e2, hl] at cF
  have hfr := frozen_of_blk h.blk 259
  have hw : placeFree r q fs bf w (.returned (.int .u16 (q : Nat))) (w.setCell ⟨r, 259, none⟩ (.slice (some ⟨g, 0, none⟩) fs.length cap)) := by
    refine ⟨rfl, _, rfl, ?_⟩
    have ho := h.ownF
    rw [e1] at ho ⊢
    have := ho.take e2 (n := fs.length) (by omega)
    rw [show (fsV (fs ++ [q])).take fs.length = fsV fs from by simp [fsV, List.take_append]] at this
    exact this
  have hk : fs.length ≤ 256 := by have := h.pl.cnt; have := h.pl.leX; have := h.r256; simp at *; omega
  have hcap : fs.length + 1 ≤ cap := by omega
  clear h hl e1 e2 e5 e6
  generalize fs.length = k at *
  have hq : (k : Int) ≤ 256 := by omega
  have hq2 : (k : Int) + 1 ≤ cap := by omega
  have hq3 : (k : Int) ≤ cap := by omega
  go_enter Tryz.func124, Tryz.ntmps124
  go_wp2_with fail
  go_ret
  exact hw
/-- .. a new place is made -/
def placeNew (r : Nat) (xs : List Value) (bx : Option Nat) (w : World) (e : Ending) (w' : World) : Prop := e = .returned (.int .u16 ((xs.length : Int) + 1)) ∧ ∃ vx' w1 bx', w' = w1.setCell ⟨r, 258, none⟩ vx' ∧ Own elT w1 vx' (xs ++ [(.pointer none)]) bx' ∧ Mod (fun k => bx = some k) w w1 ∧ NewOr w bx bx'
theorem infoEl : (Tryz.prog.info? elT).map (fun i => (i.zero, i.size, i.bytes)) = some (some (.pointer none), 1, 8) := by kernel_rfl
theorem infoU : (Tryz.prog.info? u16T).map (fun i => (i.zero, i.size, i.bytes)) = some (some (.int .u16 0), 1, 2) := by kernel_rfl
theorem underU : Tryz.prog.underlying 146 = some (.slice u16T) := by kernel_rfl
set_option maxHeartbeats 1000000 in
set_option maxRecDepth 100000 in
theorem bd_place_new (h : BdIs bdT elT u16T w r rm l p vx xs bx vf [] bf) : Calls Tryz.prog 124 #[.pointer (some ⟨r, 0, none⟩)] w (placeNew r xs bx w) := by
  have cX := h.cX
  have cF := h.cF
  obtain ⟨af, cf, hvf⟩ := h.ownF.len
  rw [hvf] at cF
  have cF' : w.cell? ⟨r, 259, none⟩ = some (.slice af 0 cf) := cF
  have hlt := h.lt
  have ho := Lib.hid h.ownX
  have hk : xs.length ≤ 256 := by have := h.pl.leX; have := h.r256; omega
  obtain ⟨ax, cx, hvx⟩ := h.ownX.len
  have hne := Lib.hid h.neX
  have hfr := frozen_of_blk h.blk 258
  have hb1 : Hid (xs.length + 1 ≤ maxLen) := by show _ ≤ _; simp only [maxLen]; omega
  have hb2 : Hid ((xs.length + 1) * 8 ≤ 140737488355328) := by show _ ≤ _; omega
  have Hk := Lib.hid hk
  have hone : Hid (∀ u ∈ ([(.pointer none)] : List Value), u.oneCell' = true) := by intro u hu; simp at hu; rw [hu]; rfl
  rw [hvx] at cX ho
  clear h hvf cF hvx hk
  go_enter Tryz.func124, Tryz.ntmps124
  go_wp2_with (at_builtin; go_loud (refine wpList_append_at rfl (.tmp 36) (.tmp 38) 96 rfl elT (.pointer none) 8 underX infoEl rfl _ rfl xs bx (ho.out.alloc _) ⟨w.heap.size, 0, none⟩ 1 1 [(.pointer none)] rfl rfl (cell_one_new _ _ _) hone.out hb1.out hb2.out ?_); intro v1 w1 bo1 HO HM HN; obtain ⟨a1, c1, rfl⟩ := HO.out.len; have hh := Lib.hid (new_cell HM.out hlt hne.out); have hc1 := (World.cell?_of_block (a := ⟨r, 258, none⟩) hh.out).trans cX; have hf1 := (World.frozen?_of_block (a := ⟨r, 258, none⟩) hh.out).trans hfr)
  go_ret
  exact ⟨congrArg (fun z => Ending.returned (Value.int .u16 z)) (IntWalk.u16_in _ (by have := Hk.out; omega)), _, w1, bo1, rfl, (by have := HO.out; rw [List.length_append] at this; exact this), ((Mod.refl _ w).alloc _).trans HM.out, HN.out.of_alloc⟩
theorem bset_free {q : Nat} (h : BdIs bdT elT u16T w r rm l p vx xs bx vf (fs ++ [q + 1]) bf) (b : Nat) (hb : b < 256) (hh : has l b = false) (hr : l.length < rm) (x : (Option Addr)) (g cap : Nat) (e1 : bx = some g) (n : Nat) (vf' : Value) (hf : Own u16T w vf' (fsV fs) bf) :
    bsetPost r rm l b (.pointer x) (bdS r bx bf) w (.returned (.int .i64 0)) (((((w.setCell ⟨r, 259, none⟩ vf').setCell ⟨r, 2 + b, none⟩ (.int .u16 ((q + 1 : Nat) : Int))).setCell ⟨r, 1, none⟩ (.int .i64 ((l.length + 1 : Nat) : Int))).drewN n).setCell ⟨g, q, none⟩ (.pointer x)) := by
  have hgr : g ≠ r := fun e => h.neX (by rw [e1, e])
  have hfg : bf ≠ some g := h.neXF g e1
  have hfin := h.pl.fin (q + 1) (by simp)
  have hp := h.pl.fresh (xs' := xs) (fs' := fs) (q := q) hb hh (.pointer x) rfl (by omega) (fun _ _ _ => rfl) (by have := h.pl.cnt; simp at this; omega) (Nat.le_refl _) h.pl.leX hr ((List.nodup_append.1 h.pl.fnd).1)
    (fun y hy => ⟨List.mem_append_left _ hy, fun e => by have := (List.nodup_append.1 h.pl.fnd).2.2 y hy (q + 1) (by simp); exact this e⟩) hfin.2.2 h.pl.one
  have b1 := setCell_list w r 259 _ bdT vf' h.blk
  rw [bdL_setF] at b1
  have k1 := setRow_heap w r _ (bdL rm l.length p vx vf').toArray _ _ h.blk
  rw [← b1] at k1
  have b2 := setCell_list _ r (2 + b) _ bdT (.int .u16 ((q + 1 : Nat) : Int)) k1
  rw [bdL_setA _ _ _ _ _ _ _ hb] at b2
  have k2 := setRow_heap _ r _ (bdL rm l.length (upd p b (q + 1)) vx vf').toArray _ _ k1
  rw [← b2] at k2
  have b3 := setCell_list _ r 1 _ bdT (.int .i64 ((l.length + 1 : Nat) : Int)) k2
  rw [bdL_set1] at b3
  have k3 := setRow_heap _ r _ (bdL rm (l.length + 1) (upd p b (q + 1)) vx vf').toArray _ _ k2
  rw [← b3] at k3
  have kS : ∀ k, k ≠ r → (((w.setCell ⟨r, 259, none⟩ vf').setCell ⟨r, 2 + b, none⟩ (.int .u16 ((q + 1 : Nat) : Int))).setCell ⟨r, 1, none⟩ (.int .i64 ((l.length + 1 : Nat) : Int))).heap[k]? = w.heap[k]? := fun k hk => by
    rw [Below.heap_setCell _ _ _ _ hk, Below.heap_setCell _ _ _ _ hk, Below.heap_setCell _ _ _ _ hk]
  refine ⟨rfl, _, ⟨_, vx, _, bx, vf', fs, bf, ⟨?_, ?_, ?_, h.neX, h.neF, h.neXF, hp⟩, rfl⟩, ?_, fun k hk => Or.inl hk⟩
  · rw [Below.heap_setCell _ _ _ _ (fun e => hgr e.symm), ins_len h.pl.srt hh]
    exact k3
  · have ho := h.ownX
    rw [e1] at ho ⊢
    exact (ho.keep (w' := World.drewN _ n) fun g' e => by cases e; exact kS g hgr).set q (.pointer x)
  · exact hf.keep fun g' e => by
      rw [Below.heap_setCell _ _ _ _ (fun e' => hfg (by rw [e, e']))]
      exact kS g' (fun e' => h.neF (by rw [e, e']))
  · exact (((((Mod.refl (bdS r bx bf) w).setCell ⟨r, _, none⟩ _ (fun _ => Or.inl rfl)).setCell ⟨r, _, none⟩ _ (fun _ => Or.inl rfl)).setCell ⟨r, _, none⟩ _ (fun _ => Or.inl rfl)).drewN n).setCell ⟨g, q, none⟩ _ (fun _ => Or.inr (Or.inl e1))
end N
end Go.Proofs.YtfhdiimcimafkaaGreatDoor
/- Boards: Set at a new byte, Drop, Copy. -/
namespace Go.Proofs.YtfhdiimcimafkaaGreatDoor
open Go.RowKit
namespace I
variable {w : World} {r rm : Nat} {l : KV} {p : Nat → Nat} {vx : Value} {xs : List Value} {bx : Option Nat} {vf : Value} {fs : List Nat} {bf : Option Nat}
end I

namespace N
variable {w : World} {r rm : Nat} {l : KV} {p : Nat → Nat} {vx : Value} {xs : List Value} {bx : Option Nat} {vf : Value} {fs : List Nat} {bf : Option Nat}
set_option maxHeartbeats 1000000 in
set_option maxRecDepth 100000 in
theorem bd_set_free {q : Nat} (h : BdIs bdT elT u16T w r rm l p vx xs bx vf (fs ++ [q + 1]) bf) (b : Nat) (hb : b < 256) (hh : has l b = false) (hf : l.length < rm) (x : (Option Addr)) : Calls Tryz.prog 116 #[.pointer (some ⟨r, 0, none⟩), .int .u8 b, .pointer x] w (bsetPost r rm l b (.pointer x) (bdS r bx bf) w) := by
  have c0 := h.c0
  have c1 := h.c1
  have hr := h.r1
  have cA := h.cA b hb
  rw [(h.pl.zero b hb).2 hh] at cA
  have cA' : w.cell? ⟨r, 2 + b, none⟩ = some (.int .u16 0) := cA
  have hfin := h.pl.fin (q + 1) (by simp)
  obtain ⟨g, cap, e1, e2, e3, e4, e5⟩ := h.ownX.at_ (j := q) (by omega)
  have cX := h.cX
  rw [e2] at cX
  have hgr : g ≠ r := fun e => h.neX (by rw [e1, e])
  have hx : xs.length ≤ 256 := by have := h.pl.leX; have := h.r256; omega
  have hpl : ∀ m, Hid (Calls Tryz.prog 124 #[.pointer (some ⟨r, 0, none⟩)] (w.drewN m) (placeFree r (q + 1) fs bf (w.drewN m))) := fun m => bd_place_free (h.keep (w' := w.drewN m) fun _ _ => rfl)
  have hw : ∀ n vf', Own u16T w vf' (fsV fs) bf → Hid (bsetPost r rm l b (.pointer x) (bdS r bx bf) w (.returned (.int .i64 0)) (((((w.setCell ⟨r, 259, none⟩ vf').setCell ⟨r, 2 + b, none⟩ (.int .u16 ((q + 1 : Nat) : Int))).setCell ⟨r, 1, none⟩ (.int .i64 ((l.length + 1 : Nat) : Int))).drewN n).setCell ⟨g, q, none⟩ (.pointer x))) := fun n vf' ho => bset_free h b hb hh hf x g cap e1 n vf' ho
  have Hw := Lib.hid hw
  have frr := frozen_of_blk h.blk
  have hln : l.length ≤ 256 := by have := h.r256; omega
  generalize hy : xs[q]'(by omega) = y at *
  have hq1 : q < xs.length := by omega
  clear hy
  generalize xs.length = k at *
  generalize l.length = n at *
  have hnm : ((n : Int) == (rm : Int)) = false := beq_eq_false_iff_ne.mpr (by omega)
  have hnm2 : (n == rm) = false := beq_eq_false_iff_ne.mpr (by omega)
  have hbi : (b : Int) < 256 := by omega
  have hq2 : (q : Int) < (k : Int) := by omega
  clear h hh cA e1 e2 hfin hw
  go_enter Tryz.func116, Tryz.ntmps116
  go_wp2_with (go_at_call 101; refine (bok_yes _ _ _ c0 hr).mono ?_; rintro e w' ⟨rfl, rfl⟩)
  go_quiet (fail)
  go_wp2_with fail
  go_region_with (go_at_call 124; refine (hpl _).out.mono ?_; rintro e w1 ⟨rfl, vf1, hw1, Hf⟩)
  have HF := Lib.hid Hf
  clear Hf hw1 hpl
  have n1 : ¬ (258 = 2 + b) := by omega
  have n2 : ¬ (2 + b = 258) := by omega
  have n3 : ¬ (b = 256) := by omega
  go_wp2_with fail
  have k1 : IntKind.u16.wrap ((q : Int) + 1 - 1) = (q : Int) := by rw [IntWalk.u16_in _ (by omega)]; omega
  go_region
  go_wp2_with fail
  go_ret
  exact (Hw.out (nq + 2) vf1 HF.out).out
theorem new_facts (h : BdIs bdT elT u16T w r rm l p vx xs bx vf [] bf) (m : Nat) {vx1 : Value} {w1 : World} {bo1 : Option Nat} (HO : Own elT w1 vx1 (xs ++ [(.pointer none)]) bo1) (HM : Mod (fun k => bx = some k) (w.drewN m) w1) (HN : NewOr (w.drewN m) bx bo1) :
    ∃ g cap, vx1 = .slice (some ⟨g, 0, none⟩) (xs.length + 1) cap ∧ bo1 = some g ∧ g ≠ r ∧ bf ≠ some g ∧ w1.cell? ⟨g, xs.length, none⟩ = some (.pointer none) ∧ w1.frozen? ⟨g, xs.length, none⟩ = false ∧ w1.heap[r]? = w.heap[r]? ∧ xs.length + 1 ≤ cap := by
  have hl : (xs ++ ([(.pointer none)] : List Value)).length = xs.length + 1 := by simp
  obtain ⟨g, cap, e1, e2, e3, e4, e5⟩ := HO.at_ (j := xs.length) (by omega)
  rw [hl] at e2 e5
  have hg : g ≠ r ∧ bf ≠ some g := by
    rcases HN with e | ⟨g', e, hg'⟩
    · rw [e1] at e
      exact ⟨fun e' => h.neX (by rw [← e, e']), fun e' => h.neXF g e.symm e'⟩
    · rw [e1] at e; cases e
      have hlt := h.lt
      simp only [World.heap_drewN] at hg'
      refine ⟨by omega, fun e' => ?_⟩
      have ho := h.ownF
      rw [e'] at ho
      have := ho.lt
      omega
  refine ⟨g, cap, e2, e1, hg.1, hg.2, by rw [e3]; simp, e4, HM.same r h.lt h.neX, e5⟩
theorem bset_new (h : BdIs bdT elT u16T w r rm l p vx xs bx vf [] bf) (b : Nat) (hb : b < 256) (hh : has l b = false) (hr : l.length < rm) (x : (Option Addr)) (m n : Nat) {w1 : World} {g cap : Nat} (HO : Own elT w1 (.slice (some ⟨g, 0, none⟩) (xs.length + 1) cap) (xs ++ [(.pointer none)]) (some g)) (HM : Mod (fun k => bx = some k) (w.drewN m) w1) (HN : NewOr (w.drewN m) bx (some g)) (hgr : g ≠ r) (hfg : bf ≠ some g) :
    bsetPost r rm l b (.pointer x) (bdS r bx bf) w (.returned (.int .i64 0)) (((((w1.setCell ⟨r, 258, none⟩ (.slice (some ⟨g, 0, none⟩) (xs.length + 1) cap)).setCell ⟨r, 2 + b, none⟩ (.int .u16 ((xs.length + 1 : Nat) : Int))).setCell ⟨r, 1, none⟩ (.int .i64 ((l.length + 1 : Nat) : Int))).drewN n).setCell ⟨g, xs.length, none⟩ (.pointer x)) := by
  have hcnt := h.pl.cnt
  simp only [List.length_nil, Nat.add_zero] at hcnt
  have hp := h.pl.fresh (xs' := xs ++ [(.pointer none)]) (fs' := []) (q := xs.length) hb hh (.pointer x) rfl (by simp) (fun j hj _ => List.getElem?_append_left hj) (by simp [hcnt]) (by simp) (by simp; omega) hr List.nodup_nil (by simp)
    (fun c hc e => by have := h.pl.at_ c hc (by omega); omega) (fun v hv => by
      rcases List.mem_append.1 hv with hv | hv
      · exact h.pl.one v hv
      · simp at hv; rw [hv]; rfl)
  have blk1 : w1.heap[r]? = some (.cells (bdL rm l.length p vx vf).toArray bdT (0, 0)) := (HM.same r h.lt h.neX).trans h.blk
  have b1 := setCell_list w1 r 258 _ bdT (.slice (some ⟨g, 0, none⟩) (xs.length + 1) cap) blk1
  rw [bdL_setX] at b1
  have k1 := setRow_heap w1 r _ (bdL rm l.length p (.slice (some ⟨g, 0, none⟩) (xs.length + 1) cap) vf).toArray _ _ blk1
  rw [← b1] at k1
  have b2 := setCell_list _ r (2 + b) _ bdT (.int .u16 ((xs.length + 1 : Nat) : Int)) k1
  rw [bdL_setA _ _ _ _ _ _ _ hb] at b2
  have k2 := setRow_heap _ r _ (bdL rm l.length (upd p b (xs.length + 1)) (.slice (some ⟨g, 0, none⟩) (xs.length + 1) cap) vf).toArray _ _ k1
  rw [← b2] at k2
  have b3 := setCell_list _ r 1 _ bdT (.int .i64 ((l.length + 1 : Nat) : Int)) k2
  rw [bdL_set1] at b3
  have k3 := setRow_heap _ r _ (bdL rm (l.length + 1) (upd p b (xs.length + 1)) (.slice (some ⟨g, 0, none⟩) (xs.length + 1) cap) vf).toArray _ _ k2
  rw [← b3] at k3
  have kS : ∀ k, k ≠ r → (((w1.setCell ⟨r, 258, none⟩ (.slice (some ⟨g, 0, none⟩) (xs.length + 1) cap)).setCell ⟨r, 2 + b, none⟩ (.int .u16 ((xs.length + 1 : Nat) : Int))).setCell ⟨r, 1, none⟩ (.int .i64 ((l.length + 1 : Nat) : Int))).heap[k]? = w1.heap[k]? := fun k hk => by
    rw [Below.heap_setCell _ _ _ _ hk, Below.heap_setCell _ _ _ _ hk, Below.heap_setCell _ _ _ _ hk]
  refine ⟨rfl, _, ⟨_, .slice (some ⟨g, 0, none⟩) (xs.length + 1) cap, _, some g, vf, [], bf, ⟨?_, ?_, ?_, fun e => hgr (by simpa using e), h.neF, fun g' e => by cases e; exact hfg, hp⟩, rfl⟩, ?_, fun k hk => ?_⟩
  · rw [Below.heap_setCell _ _ _ _ (fun e => hgr e.symm), ins_len h.pl.srt hh]
    exact k3
  · exact (HO.keep (w' := World.drewN _ n) fun g' e => by cases e; exact kS g hgr).set xs.length (.pointer x)
  · exact h.ownF.keep fun g' e => by
      rw [Below.heap_setCell _ _ _ _ (fun e' => hfg (by rw [e, e']))]
      have hl : g' < w.heap.size := by have ho := h.ownF; rw [e] at ho; exact ho.lt
      exact (kS g' (fun e' => h.neF (by rw [e, e']))).trans (HM.same g' hl (fun e' => h.neXF g' e' e))
  · have m1 : Mod (bdS r bx bf) w w1 := ((Mod.refl _ w).drewN m).then HM (fun i _ e => Or.inr (Or.inl e))
    refine ((((m1.setCell ⟨r, _, none⟩ _ (fun _ => Or.inl rfl)).setCell ⟨r, _, none⟩ _ (fun _ => Or.inl rfl)).setCell ⟨r, _, none⟩ _ (fun _ => Or.inl rfl)).drewN n).setCell ⟨g, _, none⟩ _ (fun hg => ?_)
    rcases HN with e | ⟨g', e, hg'⟩
    · exact Or.inr (Or.inl e.symm)
    · cases e; have hg2 : g < w.heap.size := hg; have hg3 : w.heap.size ≤ g := hg'; omega
  · rcases hk with hk | hk | hk
    · exact Or.inl (Or.inl hk)
    · cases hk
      rcases HN with e | ⟨g', e, hg'⟩
      · exact Or.inl (Or.inr (Or.inl e.symm))
      · cases e; exact Or.inr hg'
    · exact Or.inl (Or.inr (Or.inr hk))
set_option maxHeartbeats 1000000 in
set_option maxRecDepth 100000 in
theorem bd_set_fresh (h : BdIs bdT elT u16T w r rm l p vx xs bx vf [] bf) (b : Nat) (hb : b < 256) (hh : has l b = false) (hf : l.length < rm) (x : (Option Addr)) : Calls Tryz.prog 116 #[.pointer (some ⟨r, 0, none⟩), .int .u8 b, .pointer x] w (bsetPost r rm l b (.pointer x) (bdS r bx bf) w) := by
  have c0 := h.c0
  have c1 := h.c1
  have hr := h.r1
  have cA := h.cA b hb
  rw [(h.pl.zero b hb).2 hh] at cA
  have cA' : w.cell? ⟨r, 2 + b, none⟩ = some (.int .u16 0) := cA
  have cX := h.cX
  have hx : xs.length ≤ 256 := by have := h.pl.leX; have := h.r256; omega
  have hpl : ∀ m, Hid (Calls Tryz.prog 124 #[.pointer (some ⟨r, 0, none⟩)] (w.drewN m) (placeNew r xs bx (w.drewN m))) := fun m => bd_place_new (h.keep (w' := w.drewN m) fun _ _ => rfl)
  have HH := Lib.hid h
  have Hh := Lib.hid hh
  have Hf := Lib.hid hf
  have frr := frozen_of_blk h.blk
  have hln : l.length ≤ 256 := by have := h.r256; omega
  have hnm : ((l.length : Int) == (rm : Int)) = false := beq_eq_false_iff_ne.mpr (by omega)
  have hnm2 : (l.length == rm) = false := beq_eq_false_iff_ne.mpr (by omega)
  have hbi : (b : Int) < 256 := by omega
  clear h hh cA hf
  go_enter Tryz.func116, Tryz.ntmps116
  go_wp2_with (go_at_call 101; refine (bok_yes _ _ _ c0 hr).mono ?_; rintro e w' ⟨rfl, rfl⟩)
  go_quiet (fail)
  go_wp2_with fail
  go_region_with (go_at_call 124; refine (hpl _).out.mono ?_; rintro e w2 ⟨rfl, vx1, w1, bo1, hw1, HO, HM, HN⟩; obtain ⟨g, cap, rfl, rfl, hgr, hfg, q1, q2, q3, q4⟩ := new_facts HH.out _ HO HM HN; have HO := Lib.hid HO; have HM := Lib.hid HM; have HN := Lib.hid HN; have hfg := Lib.hid hfg; have d1 := (World.cell?_of_block (a := ⟨r, 2 + b, none⟩) q3).trans cA'; have d2 := (World.cell?_of_block (a := ⟨r, 1, none⟩) q3).trans c1; have d3 := (World.cell?_of_block (a := ⟨r, 258, none⟩) q3).trans cX; have d4 : ∀ j, w1.frozen? ⟨r, j, none⟩ = false := fun j => (World.frozen?_of_block (a := ⟨r, j, none⟩) q3).trans (frr j); clear q3)
  clear hw1 hpl cX cA' c1 frr
  have n1 : ¬ (258 = 2 + b) := by omega
  have n2 : ¬ (2 + b = 258) := by omega
  have n3 : ¬ (b = 256) := by omega
  have n4 : xs.length < xs.length + 1 := by omega
  have n5 : (xs.length : Int) < (xs.length : Int) + 1 := by omega
  go_wp2_with fail
  have k1 : IntKind.u16.wrap ((xs.length : Int) + 1 - 1) = (xs.length : Int) := by rw [IntWalk.u16_in _ (by omega)]; omega
  go_region
  go_wp2_with fail
  go_ret
  exact bset_new HH.out b hb Hh.out Hf.out x _ 1 HO.out HM.out HN.out hgr hfg.out
end N
end Go.Proofs.YtfhdiimcimafkaaGreatDoor
/- Boards: Drop, Copy. -/
namespace Go.Proofs.YtfhdiimcimafkaaGreatDoor
open Go.RowKit
namespace I
variable {w : World} {r rm : Nat} {l : KV} {p : Nat → Nat} {vx : Value} {xs : List Value} {bx : Option Nat} {vf : Value} {fs : List Nat} {bf : Option Nat}
end I

namespace N
variable {w : World} {r rm : Nat} {l : KV} {p : Nat → Nat} {vx : Value} {xs : List Value} {bx : Option Nat} {vf : Value} {fs : List Nat} {bf : Option Nat}
def bdropPost (r rm : Nat) (l : KV) (b : Nat) (S : Nat → Prop) (w : World) (e : Ending) (w' : World) : Prop := e = .returned (.int .i64 0) ∧ ∃ S', BdAt bdT elT u16T w' r rm (kdel l b) S' ∧ Mod S w w' ∧ ∀ k, S' k → S k ∨ w.heap.size ≤ k
theorem bdrop_end (h : BdIs bdT elT u16T w r rm l p vx xs bx vf fs bf) (b : Nat) (hb : b < 256) (hh : has l b = true) (q n m : Nat) (g : Nat) (e1 : bx = some g) (e3 : p b = q + 1) (hn : l.length = n + 1) {o : Obj} {w2 : World} {v2 : Value} {bo2 : Option Nat}
    (HO : Own u16T w2 v2 (fsV fs ++ [.int .u16 ((q + 1 : Nat) : Int)]) bo2) (HM : Mod (fun k => bf = some k) (((w.setCell ⟨g, q, none⟩ (.pointer none)).alloc o).drewN m) w2) (HN : NewOr (((w.setCell ⟨g, q, none⟩ (.pointer none)).alloc o).drewN m) bf bo2) :
    bdropPost r rm l b (bdS r bx bf) w (.returned (.int .i64 0)) (((w2.setCell ⟨r, 259, none⟩ v2).setCell ⟨r, 2 + b, none⟩ (.int .u16 ((0 : Nat) : Int))).setCell ⟨r, 1, none⟩ (.int .i64 (n : Nat))) := by
  have hgr : g ≠ r := fun e => h.neX (by rw [e1, e])
  have hfg : bf ≠ some g := h.neXF g e1
  have hp := h.pl.drop hb hh (.pointer none) rfl
  rw [show p b - 1 = q from by omega, e3] at hp
  have hgl : g < w.heap.size := by have ho := h.ownX; rw [e1] at ho; exact ho.lt
  have sz : ((w.setCell ⟨g, q, none⟩ (.pointer none)).alloc o).heap.size = w.heap.size + 1 := by simp [World.setCell]
  have old : ∀ k, k < w.heap.size → k ≠ g → bf ≠ some k → w2.heap[k]? = w.heap[k]? := fun k hk hkg hkf =>
    (HM.same k (by show k < ((w.setCell ⟨g, q, none⟩ (.pointer none)).alloc o).heap.size; omega) hkf).trans ((Below.heap_alloc _ _ _ (by simp [World.setCell]; exact hk)).trans (Below.heap_setCell _ _ _ _ hkg))
  have blk2 : w2.heap[r]? = some (.cells (bdL rm l.length p vx vf).toArray bdT (0, 0)) := (old r h.lt (fun e => hgr e.symm) h.neF).trans h.blk
  have hb2g : bo2 ≠ some g := by
    rcases HN with e | ⟨g', e, hg'⟩
    · rw [e]; exact hfg
    · rw [e]; intro e'; cases e'
      have hg2 : ((w.setCell ⟨g, q, none⟩ (.pointer none)).alloc o).heap.size ≤ g := hg'
      omega
  have hb2r : bo2 ≠ some r := by
    rcases HN with e | ⟨g', e, hg'⟩
    · rw [e]; exact h.neF
    · rw [e]; intro e'; cases e'
      have hg2 : ((w.setCell ⟨g, q, none⟩ (.pointer none)).alloc o).heap.size ≤ r := hg'
      have := h.lt
      omega
  have b1 := setCell_list w2 r 259 _ bdT v2 blk2
  rw [bdL_setF] at b1
  have k1 := setRow_heap w2 r _ (bdL rm l.length p vx v2).toArray _ _ blk2
  rw [← b1] at k1
  have b2 := setCell_list _ r (2 + b) _ bdT (.int .u16 ((0 : Nat) : Int)) k1
  rw [bdL_setA _ _ _ _ _ _ _ hb] at b2
  have k2 := setRow_heap _ r _ (bdL rm l.length (upd p b 0) vx v2).toArray _ _ k1
  rw [← b2] at k2
  have b3 := setCell_list _ r 1 _ bdT (.int .i64 (n : Nat)) k2
  rw [bdL_set1] at b3
  have k3 := setRow_heap _ r _ (bdL rm n (upd p b 0) vx v2).toArray _ _ k2
  rw [← b3] at k3
  have kS : ∀ k, k ≠ r → (((w2.setCell ⟨r, 259, none⟩ v2).setCell ⟨r, 2 + b, none⟩ (.int .u16 ((0 : Nat) : Int))).setCell ⟨r, 1, none⟩ (.int .i64 (n : Nat))).heap[k]? = w2.heap[k]? := fun k hk => by
    rw [Below.heap_setCell _ _ _ _ hk, Below.heap_setCell _ _ _ _ hk, Below.heap_setCell _ _ _ _ hk]
  have hlen : (kdel l b).length = n := by have := del_len h.pl.srt hh; omega
  refine ⟨rfl, _, ⟨_, vx, _, bx, v2, _, bo2, ⟨?_, ?_, ?_, h.neX, hb2r, fun g' e => by rw [e1] at e; cases e; exact hb2g, hp⟩, rfl⟩, ?_, fun k hk => ?_⟩
  · rw [hlen]; exact k3
  · have ho := h.ownX
    rw [e1] at ho ⊢
    refine (ho.set q (.pointer none)).keep fun g' e => ?_
    cases e
    rw [kS g hgr]
    exact (HM.same g (by show g < ((w.setCell ⟨g, q, none⟩ (.pointer none)).alloc o).heap.size; omega) hfg).trans (Below.heap_alloc _ _ _ (by simp [World.setCell]; exact hgl))
  · have : fsV (fs ++ [q + 1]) = fsV fs ++ [.int .u16 ((q + 1 : Nat) : Int)] := by simp [fsV]
    rw [this]
    exact HO.keep fun g' e => kS g' (fun e' => hb2r (by rw [e, e']))
  · have m1 : Mod (bdS r bx bf) w w2 := ((((Mod.refl (bdS r bx bf) w).setCell ⟨g, q, none⟩ (.pointer none) (fun _ => Or.inr (Or.inl e1))).alloc o).drewN m).then HM (fun i _ e => Or.inr (Or.inr e))
    exact ((m1.setCell ⟨r, _, none⟩ _ (fun _ => Or.inl rfl)).setCell ⟨r, _, none⟩ _ (fun _ => Or.inl rfl)).setCell ⟨r, _, none⟩ _ (fun _ => Or.inl rfl)
  · rcases hk with hk | hk | hk
    · exact Or.inl (Or.inl hk)
    · exact Or.inl (Or.inr (Or.inl hk))
    · rcases HN with e | ⟨g', e, hg'⟩
      · exact Or.inl (Or.inr (Or.inr (by rw [← e, hk])))
      · rw [hk] at e; cases e
        have hg2 : ((w.setCell ⟨g, q, none⟩ (.pointer none)).alloc o).heap.size ≤ k := hg'
        exact Or.inr (by omega)
end N
end Go.Proofs.YtfhdiimcimafkaaGreatDoor
/- Boards: Copy. -/
namespace Go.Proofs.YtfhdiimcimafkaaGreatDoor
open Go.RowKit
/-- a clone of a slice -/
def clonePost (ty : Nat) (xs : List Value) (w : World) (e : Ending) (w' : World) : Prop := ∃ v' bo', e = .returned v' ∧ Own ty w' v' xs bo' ∧ Below w.heap.size w w' ∧ (bo' = none ∨ ∃ g, bo' = some g ∧ w.heap.size ≤ g)
theorem Own.read {ty : Nat} {w : World} {a : Addr} {n c : Nat} {xs : List Value} {bo : Option Nat} (h : Own ty w (.slice (some a) n c) xs bo) : xs.length = n ∧ ∀ j u, xs[j]? = some u → w.cell? (a.add j) = some u := by
  rcases h with ⟨h, _, _⟩ | ⟨g, cap, cur, rfl, hv, hg, hl, hm, hs, ht⟩
  · simp at h
  · simp only [Value.slice.injEq, Option.some.injEq] at hv
    obtain ⟨rfl, rfl, rfl⟩ := hv
    refine ⟨rfl, fun j u hj => ?_⟩
    have hjl : j < xs.length := by
      by_cases h : j < xs.length
      · exact h
      · rw [List.getElem?_eq_none (by omega)] at hj; simp at hj
    have e : (⟨g, 0, none⟩ : Addr).add j = ⟨g, j, none⟩ := by unfold Addr.add; split <;> simp_all
    rw [e, cell_of_row w g j cur _ (0, 0) hg, ← hj, ← take_get ht hjl]
    simp
theorem Own.fresh0 (ty : Nat) (w : World) : Own ty (w.alloc (.cells #[] ty)) (.slice (some ⟨w.heap.size, 0, none⟩) 0 0) [] (some w.heap.size) :=
  Or.inr ⟨w.heap.size, 0, #[], rfl, rfl, heap_alloc_new w _, by simp, by simp [maxLen], rfl, rfl⟩
theorem clone_end {ty : Nat} {xs : List Value} {w w1 : World} {v1 : Value} {bo1 : Option Nat} {o : Obj} (HO : Own ty w1 v1 ([] ++ xs) bo1) (HM : Mod (fun k => some w.heap.size = some k) (w.alloc o) w1) (HN : NewOr (w.alloc o) (some w.heap.size) bo1) : clonePost ty xs w (.returned v1) w1 := by
  refine ⟨v1, bo1, rfl, by simpa using HO, ?_, ?_⟩
  · have this : Mod (fun _ => False) w w1 := ((Mod.refl (fun _ => False) w).alloc o).then HM (fun i hi e => by have h := Option.some.inj e; omega)
    exact this.below
  · rcases HN with e | ⟨g, e, hg⟩
    · exact Or.inr ⟨_, e, Nat.le_refl _⟩
    · exact Or.inr ⟨g, e, by simp at hg; omega⟩
theorem cloneI_info : (Tryz.prog.info? 3).map (fun i => (i.zero, i.size, i.bytes)) = some (some (.int .i64 0), 1, 8) := by kernel_rfl
theorem cloneN_under : Tryz.prog.underlying 96 = some (.slice 26) := by kernel_rfl
theorem cloneN_info : (Tryz.prog.info? 26).map (fun i => (i.zero, i.size, i.bytes)) = some (some (.pointer none), 1, 8) := by kernel_rfl
theorem cloneU_under : Tryz.prog.underlying 146 = some (.slice 144) := by kernel_rfl
theorem cloneU_info : (Tryz.prog.info? 144).map (fun i => (i.zero, i.size, i.bytes)) = some (some (.int .u16 0), 1, 2) := by kernel_rfl
namespace I
variable {w : World} {r rm : Nat} {l : KV} {p : Nat → Nat} {vx : Value} {xs : List Value} {bx : Option Nat} {vf : Value} {fs : List Nat} {bf : Option Nat}
end I

namespace N
variable {w : World} {r rm : Nat} {l : KV} {p : Nat → Nat} {vx : Value} {xs : List Value} {bx : Option Nat} {vf : Value} {fs : List Nat} {bf : Option Nat}
def bcopyPost (rm : Nat) (l : KV) (w : World) (e : Ending) (w' : World) : Prop := e = .returned (.pointer (some ⟨w.heap.size, 0, none⟩)) ∧ ∃ S, BdAt bdT elT u16T w' w.heap.size rm l S ∧ Below w.heap.size w w' ∧ ∀ k, S k → w.heap.size ≤ k
theorem bcopy_end (h : BdIs bdT elT u16T w r rm l p vx xs bx vf fs bf) {W0 w1 w2 : World} {v1 v2 : Value} {bo1 bo2 : Option Nat} (hB0 : Below w.heap.size w W0) (hs0 : W0.heap.size = w.heap.size + 1)
    (HB1 : Below W0.drew.heap.size W0.drew w1) (HB2 : Below w1.heap.size w1 w2) (HO1 : Own elT w1 v1 xs bo1) (HO2 : Own u16T w2 v2 (fsV fs) bo2) (HN1 : bo1 = none ∨ ∃ g, bo1 = some g ∧ W0.drew.heap.size ≤ g) (HN2 : bo2 = none ∨ ∃ g, bo2 = some g ∧ w1.heap.size ≤ g)
    (hb2 : w2.heap[w.heap.size]? = some (.cells (bdL rm l.length p vx vf).toArray bdT (0, 0))) :
    bcopyPost rm l w (.returned (.pointer (some ⟨w.heap.size, 0, none⟩))) ((w2.setCell ⟨w.heap.size, 258, none⟩ v1).setCell ⟨w.heap.size, 259, none⟩ v2) := by
  have s1 : W0.heap.size ≤ w1.heap.size := HB1.size
  have s2 := HB2.size
  have n1 : ∀ g, bo1 = some g → w.heap.size < g ∧ g < w1.heap.size := fun g e => by
    rcases HN1 with e' | ⟨g', e', hg⟩
    · rw [e'] at e; simp at e
    · rw [e'] at e; cases e
      rw [e'] at HO1
      have hg2 : W0.heap.size ≤ g := hg
      exact ⟨by omega, HO1.lt⟩
  have n2 : ∀ g, bo2 = some g → w1.heap.size ≤ g := fun g e => by
    rcases HN2 with e' | ⟨g', e', hg⟩
    · rw [e'] at e; simp at e
    · rw [e'] at e; cases e; exact hg
  have b1 := setCell_list w2 w.heap.size 258 _ bdT v1 hb2
  rw [bdL_setX] at b1
  have k1 := setRow_heap w2 w.heap.size _ (bdL rm l.length p v1 vf).toArray _ _ hb2
  rw [← b1] at k1
  have b2 := setCell_list _ w.heap.size 259 _ bdT v2 k1
  rw [bdL_setF] at b2
  have k2 := setRow_heap _ w.heap.size _ (bdL rm l.length p v1 v2).toArray _ _ k1
  rw [← b2] at k2
  have kS : ∀ k, k ≠ w.heap.size → ((w2.setCell ⟨w.heap.size, 258, none⟩ v1).setCell ⟨w.heap.size, 259, none⟩ v2).heap[k]? = w2.heap[k]? := fun k hk => by
    rw [Below.heap_setCell _ _ _ _ hk, Below.heap_setCell _ _ _ _ hk]
  refine ⟨rfl, _, ⟨p, v1, xs, bo1, v2, fs, bo2, ⟨k2, ?_, ?_, fun e => by have := n1 _ e; omega, fun e => by have := n2 _ e; omega, fun g e e' => by have := n1 _ e; have := n2 _ e'; omega, h.pl⟩, rfl⟩, ?_, fun k hk => ?_⟩
  · exact HO1.keep fun g e => (kS g (by have := n1 _ e; omega)).trans (HB2.block g (n1 _ e).2)
  · exact HO2.keep fun g e => kS g (by have := n2 _ e; omega)
  · have m : Below w.heap.size w w2 := (hB0.drew.trans (HB1.mono (by show w.heap.size ≤ W0.heap.size; omega))).trans (HB2.mono (by omega))
    exact (m.setCell (p := ⟨w.heap.size, 258, none⟩) (Nat.le_refl _) _).setCell (p := ⟨w.heap.size, 259, none⟩) (Nat.le_refl _) _
  · rcases hk with hk | hk | hk
    · omega
    · have := n1 _ hk; omega
    · have := n2 _ hk; omega
theorem bd_info : (Tryz.prog.info? bdT).map (·.size) = some 260 := by kernel_rfl
end N
end Go.Proofs.YtfhdiimcimafkaaGreatDoor
/- Kids: what they are in memory; the calls that only read. -/
namespace Go.Proofs.YtfhdiimcimafkaaGreatDoor
open Go.RowKit
theorem RowAt.lt {w : World} {ty r rm : Nat} {l : KV} (h : RowAt ty w r rm l) : r < w.heap.size := by obtain ⟨B, X, h⟩ := h; exact h.lt
theorem BdAt.keep {w w' : World} {ty tx tf r rm : Nat} {l : KV} {S : Nat → Prop} (h : BdAt ty tx tf w r rm l S) (hk : ∀ j, S j → w'.heap[j]? = w.heap[j]?) : BdAt ty tx tf w' r rm l S := by
  obtain ⟨p, vx, xs, bx, vf, fs, bf, h, rfl⟩ := h
  exact ⟨p, vx, xs, bx, vf, fs, bf, h.keep hk, rfl⟩
theorem BdAt.lt {w : World} {ty tx tf r rm : Nat} {l : KV} {S : Nat → Prop} (h : BdAt ty tx tf w r rm l S) : ∀ j, S j → j < w.heap.size := by
  obtain ⟨p, vx, xs, bx, vf, fs, bf, h, rfl⟩ := h
  intro j hj
  rcases hj with rfl | hj | hj
  · exact h.lt
  · have := h.ownX; rw [hj] at this; exact this.lt
  · have := h.ownF; rw [hj] at this; exact this.lt
theorem BdAt.self {w : World} {ty tx tf r rm : Nat} {l : KV} {S : Nat → Prop} (h : BdAt ty tx tf w r rm l S) : S r := by
  obtain ⟨p, vx, xs, bx, vf, fs, bf, h, rfl⟩ := h
  exact Or.inl rfl
theorem cells2 {w : World} {k : Nat} {a b : Value} {t : Nat} (h : w.heap[k]? = some (.cells #[a, b] t (0, 0))) : w.cell? ⟨k, 0, none⟩ = some a ∧ w.cell? ⟨k, 1, none⟩ = some b := by
  constructor <;> simp [World.cell?, h]
namespace I
def Vals (l : KV) : Prop := ∀ p ∈ l, ∃ v : Int, p.2 = .int .i64 v
variable {w : World} {k rm : Nat} {l : KV} {S : Nat → Prop}
def duo (V a b : Value) : Prop := V = .tuple #[a, b]
theorem getV_duo (o : Option Value) : ∃ a b, duo (getV o) a b := by
  cases o with
  | none => exact ⟨_, _, rfl⟩
  | some p => exact ⟨_, _, rfl⟩
end I

namespace N
abbrev kdT : Nat := 132
/-- kids at block k: few in a row, many on a board -/
def KdAt (w : World) (k rm : Nat) (l : KV) (S : Nat → Prop) : Prop :=
  (∃ r, w.heap[k]? = some (.cells #[.pointer (some ⟨r, 0, none⟩), .pointer none] kdT (0, 0)) ∧ RowAt rowT w r rm l ∧ r ≠ k ∧ S = fun j => j = k ∨ j = r) ∨
  (∃ r S', w.heap[k]? = some (.cells #[.pointer none, .pointer (some ⟨r, 0, none⟩)] kdT (0, 0)) ∧ BdAt bdT elT u16T w r rm l S' ∧ ¬ S' k ∧ S = fun j => j = k ∨ S' j)
def Vals (l : KV) : Prop := ∀ p ∈ l, ∃ v : (Option Addr), p.2 = .pointer v
variable {w : World} {k rm : Nat} {l : KV} {S : Nat → Prop}
theorem KdAt.self (h : KdAt w k rm l S) : S k := by
  rcases h with ⟨r, _, _, _, rfl⟩ | ⟨r, S', _, _, _, rfl⟩ <;> exact Or.inl rfl
theorem KdAt.lt (h : KdAt w k rm l S) : ∀ j, S j → j < w.heap.size := by
  rcases h with ⟨r, hb, hr, hne, rfl⟩ | ⟨r, S', hb, hr, hne, rfl⟩
  · rintro j (rfl | rfl)
    · exact (Array.getElem?_eq_some_iff.1 hb).1
    · exact hr.lt
  · rintro j (rfl | hj)
    · exact (Array.getElem?_eq_some_iff.1 hb).1
    · exact hr.lt j hj
theorem KdAt.keep {w' : World} (h : KdAt w k rm l S) (hk : ∀ j, S j → w'.heap[j]? = w.heap[j]?) : KdAt w' k rm l S := by
  rcases h with ⟨r, hb, hr, hne, rfl⟩ | ⟨r, S', hb, hr, hne, rfl⟩
  · exact Or.inl ⟨r, (hk k (Or.inl rfl)).trans hb, hr.keep (hk r (Or.inr rfl)), hne, rfl⟩
  · exact Or.inr ⟨r, S', (hk k (Or.inl rfl)).trans hb, hr.keep fun j hj => hk j (Or.inr hj), hne, rfl⟩
theorem KdAt.below {w' : World} (h : KdAt w k rm l S) (hb : Below w.heap.size w w') : KdAt w' k rm l S := h.keep fun j hj => hb.block j (h.lt j hj)
theorem KdAt.drewN (h : KdAt w k rm l S) (n : Nat) : KdAt (w.drewN n) k rm l S := h.keep fun _ _ => rfl
theorem KdAt.srt (h : KdAt w k rm l S) : Srt l ∧ Low l ∧ l.length ≤ rm := by
  rcases h with ⟨r, hb, ⟨B, X, hr⟩, hne, rfl⟩ | ⟨r, S', hb, ⟨p, vx, xs, bx, vf, fs, bf, hr, rfl⟩, hne, rfl⟩
  · exact ⟨hr.srt, hr.low, hr.le⟩
  · exact ⟨hr.pl.srt, hr.pl.low, hr.pl.le⟩
theorem kok_nil (w : World) : Calls Tryz.prog 83 #[.pointer none] w fun e w' => e = .returned (.bool false) ∧ w = w' := by
  go_enter Tryz.func83, Tryz.ntmps83
  go_wp2_with fail
  go_ret
  exact ⟨rfl, rfl⟩
theorem kok_bare (w : World) (k o : Nat) (h0 : w.cell? ⟨k, o, none⟩ = some (.pointer none)) (h1 : w.cell? ⟨k, o + 1, none⟩ = some (.pointer none)) : Calls Tryz.prog 83 #[.pointer (some ⟨k, o, none⟩)] w fun e w' => e = .returned (.bool false) ∧ w = w' := by
  go_enter Tryz.func83, Tryz.ntmps83
  go_wp2_with fail
  go_ret
  exact ⟨rfl, rfl⟩
theorem kok_row (w : World) (k : Nat) (a : Addr) (h0 : w.cell? ⟨k, 0, none⟩ = some (.pointer (some a))) : Calls Tryz.prog 83 #[.pointer (some ⟨k, 0, none⟩)] w fun e w' => e = .returned (.bool true) ∧ w = w' := by
  go_enter Tryz.func83, Tryz.ntmps83
  go_wp2_with fail
  go_ret
  exact ⟨rfl, rfl⟩
theorem kok_board (w : World) (k : Nat) (a : Addr) (h0 : w.cell? ⟨k, 0, none⟩ = some (.pointer none)) (h1 : w.cell? ⟨k, 1, none⟩ = some (.pointer (some a))) : Calls Tryz.prog 83 #[.pointer (some ⟨k, 0, none⟩)] w fun e w' => e = .returned (.bool true) ∧ w = w' := by
  go_enter Tryz.func83, Tryz.ntmps83
  go_wp2_with fail
  go_ret
  exact ⟨rfl, rfl⟩
theorem kd_len (h : KdAt w k rm l S) : Calls Tryz.prog 71 #[.pointer (some ⟨k, 0, none⟩)] w fun e w' => e = .returned (.int .i64 l.length) ∧ w = w' := by
  rcases h with ⟨r, hb, ⟨B, X, hr⟩, hne, rfl⟩ | ⟨r, S', hb, ⟨p, vx, xs, bx, vf, fs, bf, hr, rfl⟩, hne, rfl⟩
  · obtain ⟨c0, c1⟩ := cells2 hb
    have hx := Lib.hid (row_len hr)
    clear hb hr
    go_enter Tryz.func71, Tryz.ntmps71
    go_wp2_with (first | (go_at_call 83; refine (kok_row _ _ _ c0).mono ?_; rintro e w' ⟨rfl, rfl⟩) | (go_at_call 89; refine hx.out.mono ?_; rintro e w' ⟨rfl, rfl⟩))
    go_ret
    exact ⟨rfl, rfl⟩
  · obtain ⟨c0, c1⟩ := cells2 hb
    have hx := Lib.hid (bd_len hr)
    clear hb hr
    go_enter Tryz.func71, Tryz.ntmps71
    go_wp2_with (first | (go_at_call 83; refine (kok_board _ _ _ c0 c1).mono ?_; rintro e w' ⟨rfl, rfl⟩) | (go_at_call 90; refine hx.out.mono ?_; rintro e w' ⟨rfl, rfl⟩))
    go_ret
    exact ⟨rfl, rfl⟩
theorem kd_kind (h : KdAt w k rm l S) : Calls Tryz.prog 65 #[.pointer (some ⟨k, 0, none⟩)] w fun e w' => e = .returned (.int .i64 rm) ∧ w = w' := by
  rcases h with ⟨r, hb, ⟨B, X, hr⟩, hne, rfl⟩ | ⟨r, S', hb, ⟨p, vx, xs, bx, vf, fs, bf, hr, rfl⟩, hne, rfl⟩
  · obtain ⟨c0, c1⟩ := cells2 hb
    have hx := Lib.hid (row_room hr)
    clear hb hr
    go_enter Tryz.func65, Tryz.ntmps65
    go_wp2_with (first | (go_at_call 83; refine (kok_row _ _ _ c0).mono ?_; rintro e w' ⟨rfl, rfl⟩) | (go_at_call 84; refine hx.out.mono ?_; rintro e w' ⟨rfl, rfl⟩))
    go_ret
    exact ⟨rfl, rfl⟩
  · obtain ⟨c0, c1⟩ := cells2 hb
    have hx := Lib.hid (bd_room hr)
    clear hb hr
    go_enter Tryz.func65, Tryz.ntmps65
    go_wp2_with (first | (go_at_call 83; refine (kok_board _ _ _ c0 c1).mono ?_; rintro e w' ⟨rfl, rfl⟩) | (go_at_call 85; refine hx.out.mono ?_; rintro e w' ⟨rfl, rfl⟩))
    go_ret
    exact ⟨rfl, rfl⟩
def duo (V a b : Value) : Prop := V = .tuple #[a, b]
theorem getV_duo (o : Option Value) : ∃ a b, duo (getV o) a b := by
  cases o with
  | none => exact ⟨_, _, rfl⟩
  | some p => exact ⟨_, _, rfl⟩
theorem kd_get (h : KdAt w k rm l S) (b : Nat) (hbb : b < 256) : Calls Tryz.prog 95 #[.pointer (some ⟨k, 0, none⟩), .int .u8 b] w fun e w' => e = .returned (getV (kget l b)) ∧ ∃ n, w' = w.drewN n := by
  obtain ⟨a1, a2, ht⟩ := getV_duo (kget l b)
  have Ht := Lib.hid ht
  clear ht
  rcases h with ⟨r, hb, ⟨B, X, hr⟩, hne, rfl⟩ | ⟨r, S', hb, ⟨p, vx, xs, bx, vf, fs, bf, hr, rfl⟩, hne, rfl⟩
  · obtain ⟨c0, c1⟩ := cells2 hb
    have hx := Lib.hid (row_get hr b)
    clear hb hr
    generalize getV (kget l b) = V at *
    go_enter Tryz.func95, Tryz.ntmps95
    go_wp2_with (first | (go_at_call 83; refine (kok_row _ _ _ c0).mono ?_; rintro e w' ⟨rfl, rfl⟩) | (go_at_call 114; refine hx.out.mono ?_; rintro e w' ⟨rfl, nd, rfl⟩; rw [Ht.out]))
    go_ret2
    exact ⟨congrArg Ending.returned Ht.out.symm, nd, rfl⟩
  · obtain ⟨c0, c1⟩ := cells2 hb
    have hx := Lib.hid (bd_get hr b hbb)
    clear hb hr
    generalize getV (kget l b) = V at *
    go_enter Tryz.func95, Tryz.ntmps95
    go_wp2_with (first | (go_at_call 83; refine (kok_board _ _ _ c0 c1).mono ?_; rintro e w' ⟨rfl, rfl⟩) | (go_at_call 110; refine hx.out.mono ?_; rintro e w' ⟨rfl, nd, rfl⟩; rw [Ht.out]))
    go_ret2
    exact ⟨congrArg Ending.returned Ht.out.symm, nd, rfl⟩
theorem kd_next (h : KdAt w k rm l S) (f : Int) (hlo : -9223372036854775808 ≤ f) (hhi : f ≤ 9223372036854775807) : Calls Tryz.prog 73 #[.pointer (some ⟨k, 0, none⟩), .int .i64 f] w fun e w' => e = .returned (atV (knxt l f)) ∧ ∃ n, w' = w.drewN n := by
  obtain ⟨a1, a2, a3, ht⟩ := atV_trip (knxt l f)
  have Ht := Lib.hid ht
  clear ht
  rcases h with ⟨r, hb, ⟨B, X, hr⟩, hne, rfl⟩ | ⟨r, S', hb, ⟨p, vx, xs, bx, vf, fs, bf, hr, rfl⟩, hne, rfl⟩
  · obtain ⟨c0, c1⟩ := cells2 hb
    have hx := Lib.hid (row_next hr f hlo hhi)
    clear hb hr hlo hhi
    generalize atV (knxt l f) = V at *
    go_enter Tryz.func73, Tryz.ntmps73
    go_wp2_with (first | (go_at_call 83; refine (kok_row _ _ _ c0).mono ?_; rintro e w' ⟨rfl, rfl⟩) | (go_at_call 91; refine hx.out.mono ?_; rintro e w' ⟨rfl, nd, rfl⟩; rw [Ht.out]))
    go_ret3
    exact ⟨congrArg Ending.returned Ht.out.symm, nd, rfl⟩
  · obtain ⟨c0, c1⟩ := cells2 hb
    have hx := Lib.hid (bd_next hr f hlo hhi)
    clear hb hr hlo hhi
    generalize atV (knxt l f) = V at *
    go_enter Tryz.func73, Tryz.ntmps73
    go_wp2_with (first | (go_at_call 83; refine (kok_board _ _ _ c0 c1).mono ?_; rintro e w' ⟨rfl, rfl⟩) | (go_at_call 92; refine hx.out.mono ?_; rintro e w' ⟨rfl, nd, rfl⟩; rw [Ht.out]))
    go_ret3
    exact ⟨congrArg Ending.returned Ht.out.symm, nd, rfl⟩
end N
end Go.Proofs.YtfhdiimcimafkaaGreatDoor
/- Kids: KindOf, room, New, put. -/
namespace Go.Proofs.YtfhdiimcimafkaaGreatDoor
open Go.RowKit
def kindZ (n : Int) : Int := if n < 0 then 0 else if n ≤ 4 then 4 else if n ≤ 16 then 16 else if n ≤ 48 then 48 else if n ≤ 256 then 256 else 0
abbrev kArr : Value := .agg #[.int .i64 4, .int .i64 16, .int .i64 48, .int .i64 256]
theorem kIdx0 (w : World) : (Instr.index 163 kArr (.int .i64 0)).run Tryz.prog w = .ok (.int .i64 4) w := by kernel_rfl
theorem kIdx1 (w : World) : (Instr.index 163 kArr (.int .i64 1)).run Tryz.prog w = .ok (.int .i64 16) w := by kernel_rfl
theorem kIdx2 (w : World) : (Instr.index 163 kArr (.int .i64 2)).run Tryz.prog w = .ok (.int .i64 48) w := by kernel_rfl
theorem kIdx3 (w : World) : (Instr.index 163 kArr (.int .i64 3)).run Tryz.prog w = .ok (.int .i64 256) w := by kernel_rfl
theorem kindOf_any (n : Int) (w : World) : Calls Tryz.prog 97 #[.int .i64 n] w fun e w' => e = .returned (.int .i64 (kindZ n)) ∧ w = w' := by
  obtain ⟨K, HK⟩ : ∃ K, Hid (kindZ n = K) := ⟨_, rfl⟩
  rw [HK.out]
  by_cases h0 : n < 0
  · have hR : Hid (K = 0) := by show _ = _; rw [← HK.out]; unfold kindZ; rw [if_pos h0]
    go_enter Tryz.func97, Tryz.ntmps97
    go_wp2_with fail
    go_ret
    exact ⟨by rw [hR.out]; rfl, rfl⟩
  · have i0 := kIdx0
    have i1 := kIdx1
    have i2 := kIdx2
    have i3 := kIdx3
    have h0' : 0 ≤ n := by omega
    go_enter Tryz.func97, Tryz.ntmps97
    go_wp2_with fail
    go_loop [8] (fun v => ∃ j : Int, (j = 0 ∨ j = 1 ∧ 4 < n ∨ j = 2 ∧ 16 < n ∨ j = 3 ∧ 48 < n ∨ j = 4 ∧ 256 < n) ∧ v = .int .i64 j) (fun v => (4 - intOf v).toNat)
    case atStart => exact ⟨0, Or.inl rfl, rfl⟩
    case round =>
      obtain ⟨j, hj, rfl⟩ := hrel
      rcases hj with rfl | ⟨rfl, hj⟩ | ⟨rfl, hj⟩ | ⟨rfl, hj⟩ | ⟨rfl, hj⟩
      · by_cases hn : n ≤ 4
        · have hR : Hid (K = 4) := by show _ = _; rw [← HK.out]; unfold kindZ; rw [if_neg (show ¬ n < 0 by omega), if_pos hn]
          go_wp2_with fail
          go_ret
          exact ⟨by rw [hR.out]; rfl, rfl⟩
        · go_wp2_with fail
          go_round
          case rel => exact ⟨1, Or.inr (Or.inl ⟨rfl, by omega⟩), rfl⟩
          case measure => simp [intOf]
      · by_cases hn : n ≤ 16
        · have hR : Hid (K = 16) := by show _ = _; rw [← HK.out]; unfold kindZ; rw [if_neg (show ¬ n < 0 by omega), if_neg (by omega), if_pos hn]
          go_wp2_with fail
          go_ret
          exact ⟨by rw [hR.out]; rfl, rfl⟩
        · go_wp2_with fail
          go_round
          case rel => exact ⟨2, Or.inr (Or.inr (Or.inl ⟨rfl, by omega⟩)), rfl⟩
          case measure => simp [intOf]
      · by_cases hn : n ≤ 48
        · have hR : Hid (K = 48) := by show _ = _; rw [← HK.out]; unfold kindZ; rw [if_neg (show ¬ n < 0 by omega), if_neg (by omega), if_neg (by omega), if_pos hn]
          go_wp2_with fail
          go_ret
          exact ⟨by rw [hR.out]; rfl, rfl⟩
        · go_wp2_with fail
          go_round
          case rel => exact ⟨3, Or.inr (Or.inr (Or.inr (Or.inl ⟨rfl, by omega⟩))), rfl⟩
          case measure => simp [intOf]
      · by_cases hn : n ≤ 256
        · have hR : Hid (K = 256) := by show _ = _; rw [← HK.out]; unfold kindZ; rw [if_neg (show ¬ n < 0 by omega), if_neg (by omega), if_neg (by omega), if_neg (by omega), if_pos hn]
          go_wp2_with fail
          go_ret
          exact ⟨by rw [hR.out]; rfl, rfl⟩
        · go_wp2_with fail
          go_round
          case rel => exact ⟨4, Or.inr (Or.inr (Or.inr (Or.inr ⟨rfl, by omega⟩))), rfl⟩
          case measure => simp [intOf]
      · have hR : Hid (K = 0) := by show _ = _; rw [← HK.out]; unfold kindZ; rw [if_neg (show ¬ n < 0 by omega), if_neg (by omega), if_neg (by omega), if_neg (by omega), if_neg (by omega)]
        go_wp2_with fail
        go_ret
        exact ⟨by rw [hR.out]; rfl, rfl⟩
theorem kindZ_nat (n : Nat) (h : n ≤ 256) : kindZ n = (kindOf n : Nat) := by
  unfold kindZ kindOf
  rw [if_neg (by omega)]
  by_cases h1 : n ≤ 4
  · rw [if_pos (by omega), if_pos h1]; rfl
  · rw [if_neg (by omega), if_neg h1]
    by_cases h2 : n ≤ 16
    · rw [if_pos (by omega), if_pos h2]; rfl
    · rw [if_neg (by omega), if_neg h2]
      by_cases h3 : n ≤ 48
      · rw [if_pos (by omega), if_pos h3]; rfl
      · rw [if_neg (by omega), if_neg h3, if_pos (by omega)]; rfl
namespace I
end I

namespace N
def roomPost (rm : Nat) (w : World) (e : Ending) (w' : World) : Prop := e = .returned (.pointer (some ⟨w.heap.size, 0, none⟩)) ∧ ∃ S, KdAt w' w.heap.size rm [] S ∧ Below w.heap.size w w' ∧ ∀ j, S j → w.heap.size ≤ j
theorem room_row (rm : Nat) (h1 : 1 ≤ rm) (h16 : rm ≤ 16) (w : World) : Calls Tryz.prog 94 #[.int .i64 rm] w (roomPost rm w) := by
  have hq : (rm : Int) ≤ 16 := by omega
  have hn : ∀ w, Hid (Calls Tryz.prog 112 #[.int .i64 rm] w (newPost rm w)) := fun w => row_new rm h1 h16 w
  have fin : Hid (∀ w1, RowAt rowT w1 (w.heap.size + 1) rm [] → Below (w.heap.size + 1) (w.alloc (.cells #[.pointer none, .pointer none] kdT)) w1 → w1.cell? ⟨w.heap.size, 0, none⟩ = some (.pointer none) ∧ w1.frozen? ⟨w.heap.size, 0, none⟩ = false ∧ Hid (roomPost rm w (.returned (.pointer (some ⟨w.heap.size, 0, none⟩))) (w1.setCell ⟨w.heap.size, 0, none⟩ (.pointer (some ⟨w.heap.size + 1, 0, none⟩))))) := fun w1 hr hb => by
    have hb1 := (hb.block w.heap.size (by omega)).trans (heap_alloc_new w _)
    refine ⟨by simp [World.cell?, hb1], by simp [World.frozen?, hb1], rfl, _, Or.inl ⟨w.heap.size + 1, ?_, hr.keep (Below.heap_setCell _ _ _ _ (by simp)), by omega, rfl⟩, ?_, ?_⟩
    · rw [setCell_list w1 w.heap.size 0 [.pointer none, .pointer none] kdT _ hb1, setRow_heap w1 _ _ _ _ _ hb1]; rfl
    · exact ((((Below.refl _ w).alloc (Nat.le_refl _) _).trans (hb.mono (by omega)))).setCell (p := ⟨w.heap.size, 0, none⟩) (Nat.le_refl _) _
    · rintro j (rfl | rfl) <;> omega
  go_enter Tryz.func94, Tryz.ntmps94
  go_wp2_with (go_at_call 112; refine (hn _).out.mono ?_; rintro e w1 ⟨rfl, hr, hb⟩; simp only [World.size_alloc] at hr hb; obtain ⟨q1, q2, q3⟩ := fin.out _ hr hb)
  go_ret
  exact q3.out
end N
end Go.Proofs.YtfhdiimcimafkaaGreatDoor
/- Sorted lists of bytes and things: what is below a byte; how many there may be; kinds. -/
namespace Go.Proofs.YtfhdiimcimafkaaGreatDoor
def klt (l : KV) (t : Nat) : KV := l.filter (fun p => decide (p.1 < t))
theorem get_klt (l : KV) (t c : Nat) : kget (klt l t) c = if c < t then kget l c else none := by
  unfold kget klt
  rw [List.find?_filter]
  by_cases h : c < t
  · rw [if_pos h]
    congr 1
    apply find_congr'
    intro p _
    by_cases e : p.1 = c
    · subst e; simp [h]
    · simp [e]
  · rw [if_neg h, Option.map_eq_none_iff, List.find?_eq_none]
    intro p _
    by_cases e : p.1 = c
    · subst e; simp [h]
    · simp [e]
theorem Srt.klt {l : KV} (h : Srt l) (t : Nat) : Srt (klt l t) := h.filter _
theorem klt_zero (l : KV) : klt l 0 = [] := by simp [klt]
theorem klt_all {l : KV} {t : Nat} (h : knxt l (t : Nat) = none) : klt l t = l := by
  unfold klt
  rw [List.filter_eq_self]
  intro p hp
  have := List.find?_eq_none.1 h p hp
  simp at this ⊢; omega
theorem klt_len (l : KV) (t : Nat) : (klt l t).length ≤ l.length := List.length_filter_le _ _
theorem nxt_some {l : KV} (hs : Srt l) {t : Int} {b : Nat} {x : Value} (h : knxt l t = some (b, x)) : (b, x) ∈ l ∧ t ≤ b ∧ ∀ p ∈ l, p.1 < b → (p.1 : Int) < t := by
  obtain ⟨h1, us, bs, rfl, h2⟩ := List.find?_eq_some_iff_append.1 h
  refine ⟨by simp, by simpa using h1, ?_⟩
  intro p hp hlt
  have hs2 := (srt_append.1 hs)
  rcases List.mem_append.1 hp with hp | hp
  · have := h2 p hp; simp at this; omega
  · rcases List.mem_cons.1 hp with rfl | hp
    · simp at hlt
    · exfalso
      have h3 : (p.1 :: bs.map (·.1)).length = (p.1 :: bs.map (·.1)).length := rfl
      have h4 : Srt ((b, x) :: bs) := hs2.2.1
      have h5 := (List.pairwise_cons.1 (show List.Pairwise _ _ from h4)).1 p.1 (List.mem_map_of_mem hp)
      simp at h5; omega
theorem klt_ins {l : KV} (hs : Srt l) {t b : Nat} {x : Value} (h : knxt l (t : Nat) = some (b, x)) : kins (klt l t) b x = klt l (b + 1) ∧ has (klt l t) b = false ∧ (klt l t).length < l.length := by
  obtain ⟨h1, h2, h3⟩ := nxt_some hs h
  have h2' : t ≤ b := by omega
  have hno : has (klt l t) b = false := by
    rw [← get_has (hs.klt t), get_klt, if_neg (by omega)]; rfl
  have he : kins (klt l t) b x = klt l (b + 1) := by
    refine ((hs.klt t).ins b x).ext (hs.klt _) fun c => ?_
    rw [get_ins (hs.klt t), get_klt, get_klt]
    by_cases e : c = b
    · subst e; rw [if_pos rfl, if_pos (by omega), (mem_get hs).2 h1]
    · rw [if_neg e]
      by_cases e1 : c < t
      · rw [if_pos e1, if_pos (by omega)]
      · rw [if_neg e1]
        by_cases e2 : c < b + 1
        · rw [if_pos e2]
          cases hk : kget l c with
          | none => rfl
          | some y => have := h3 _ ((mem_get hs).1 hk) (by omega : c < b); simp at this; omega
        · rw [if_neg e2]
  refine ⟨he, hno, ?_⟩
  have : (kins (klt l t) b x).length = (klt l t).length + 1 := by
    rw [ins_no (hs.klt t) hno]; have := pl_le (klt l t) b; simp; omega
  rw [he] at this
  have := klt_len l (b + 1)
  omega
theorem len256 {l : KV} (hs : Srt l) (hl : Low l) : l.length ≤ 256 := by
  by_cases h0 : l.length = 0
  · omega
  · have key : ∀ p, p < l.keys.length → p ≤ l.keys.getD p 0 := by
      intro p
      induction p with
      | zero => intro _; omega
      | succ p ih => intro hp; have := ih (by omega); have := srt_lt hs.keys (p := p) (q := p + 1) (by omega) hp; show p + 1 ≤ _; simp only [KV.keys] at *; omega
    have h1 := key (l.length - 1) (by rw [keys_length]; omega)
    have h2 : l.keys.getD (l.length - 1) 0 < 256 := by
      have hm : l.keys.getD (l.length - 1) 0 = (l[l.length - 1]'(by omega)).1 := by
        simp [KV.keys, List.getD, List.getElem?_eq_getElem (show l.length - 1 < l.length by omega)]
      rw [hm]; exact hl _ (List.getElem_mem _)
    omega
theorem ins_len3 {l : KV} (hs : Srt l) (b : Nat) (x : Value) : (kins l b x).length = if has l b then l.length else l.length + 1 := by
  cases h : has l b with
  | true => rw [ins_yes hs h]; have := has_yes h; simp; omega
  | false => rw [ins_no hs h]; have := pl_le l b; simp; omega
theorem kind_ge {n : Nat} (h : n ≤ 256) : n ≤ kindOf n := by
  unfold kindOf
  by_cases h1 : n ≤ 4
  · rw [if_pos h1]; exact h1
  · by_cases h2 : n ≤ 16
    · rw [if_neg h1, if_pos h2]; exact h2
    · by_cases h3 : n ≤ 48
      · rw [if_neg h1, if_neg h2, if_pos h3]; exact h3
      · rw [if_neg h1, if_neg h2, if_neg h3]; exact h
theorem kind_cases (n : Nat) : kindOf n = 4 ∨ kindOf n = 16 ∨ kindOf n = 48 ∨ kindOf n = 256 := by
  unfold kindOf
  by_cases h1 : n ≤ 4
  · rw [if_pos h1]; exact Or.inl rfl
  · by_cases h2 : n ≤ 16
    · rw [if_neg h1, if_pos h2]; exact Or.inr (Or.inl rfl)
    · by_cases h3 : n ≤ 48
      · rw [if_neg h1, if_neg h2, if_pos h3]; exact Or.inr (Or.inr (Or.inl rfl))
      · rw [if_neg h1, if_neg h2, if_neg h3]; exact Or.inr (Or.inr (Or.inr rfl))
theorem kind_step {n : Nat} (h : n < kindOf n) : kindOf (n + 1) = kindOf n := by
  unfold kindOf at *
  by_cases h1 : n ≤ 4
  · rw [if_pos h1] at h ⊢; rw [if_pos (by omega)]
  · by_cases h2 : n ≤ 16
    · rw [if_neg h1, if_pos h2] at h ⊢; rw [if_neg (by omega), if_pos (by omega)]
    · by_cases h3 : n ≤ 48
      · rw [if_neg h1, if_neg h2, if_pos h3] at h ⊢; rw [if_neg (by omega), if_neg (by omega), if_pos (by omega)]
      · rw [if_neg h1, if_neg h2, if_neg h3] at h ⊢; rw [if_neg (by omega), if_neg (by omega), if_neg (by omega)]
end Go.Proofs.YtfhdiimcimafkaaGreatDoor
/- Kids: room of the greater kinds, New, put. -/
namespace Go.Proofs.YtfhdiimcimafkaaGreatDoor
open Go.RowKit
namespace I
variable {w : World} {k r rm : Nat} {l : KV} {S : Nat → Prop}
end I

namespace N
theorem room_board (rm : Nat) (w : World) (hn : ∀ w, Hid (Calls Tryz.prog 113 #[.int .i64 rm] w (bnewPost rm w))) (hq : ¬ (rm : Int) ≤ 16) : Calls Tryz.prog 94 #[.int .i64 rm] w (roomPost rm w) := by
  have fin : Hid (∀ w1, BdIs bdT elT u16T w1 (w.heap.size + 1) rm [] (fun _ => 0) (.slice none 0 0) [] none (.slice none 0 0) [] none → Below (w.heap.size + 1) (w.alloc (.cells #[.pointer none, .pointer none] kdT)) w1 → w1.cell? ⟨w.heap.size, 1, none⟩ = some (.pointer none) ∧ w1.frozen? ⟨w.heap.size, 1, none⟩ = false ∧ Hid (roomPost rm w (.returned (.pointer (some ⟨w.heap.size, 0, none⟩))) (w1.setCell ⟨w.heap.size, 1, none⟩ (.pointer (some ⟨w.heap.size + 1, 0, none⟩))))) := fun w1 hr hb => by
    have hb1 := (hb.block w.heap.size (by omega)).trans (heap_alloc_new w _)
    refine ⟨by simp [World.cell?, hb1], by simp [World.frozen?, hb1], rfl, _, Or.inr ⟨w.heap.size + 1, _, ?_, ⟨_, _, _, _, _, _, _, hr.keep ?_, rfl⟩, ?_, rfl⟩, ?_, ?_⟩
    · rw [setCell_list w1 w.heap.size 1 [.pointer none, .pointer none] kdT _ hb1, setRow_heap w1 _ _ _ _ _ hb1]; rfl
    · intro k hk
      rcases hk with rfl | hk | hk
      · exact Below.heap_setCell _ _ _ _ (by simp)
      · cases hk
      · cases hk
    · rintro (h | h | h)
      · omega
      · cases h
      · cases h
    · exact ((((Below.refl _ w).alloc (Nat.le_refl _) _).trans (hb.mono (by omega)))).setCell (p := ⟨w.heap.size, 1, none⟩) (Nat.le_refl _) _
    · rintro j (rfl | rfl | h | h)
      · omega
      · omega
      · cases h
      · cases h
  go_enter Tryz.func94, Tryz.ntmps94
  go_wp2_with (go_at_call 113; refine (hn _).out.mono ?_; rintro e w1 ⟨rfl, hr, hb⟩; simp only [World.size_alloc] at hr hb; obtain ⟨q1, q2, q3⟩ := fin.out _ hr hb)
  go_ret
  exact q3.out
theorem kd_room (rm : Nat) (h : rm = 4 ∨ rm = 16 ∨ rm = 48 ∨ rm = 256) (w : World) : Calls Tryz.prog 94 #[.int .i64 rm] w (roomPost rm w) := by
  rcases h with rfl | rfl | rfl | rfl
  · exact room_row 4 (by omega) (by omega) w
  · exact room_row 16 (by omega) (by omega) w
  · exact room_board 48 w (fun w => bd_new48 w) (by omega)
  · exact room_board 256 w (fun w => bd_new256 w) (by omega)
theorem kd_new (w : World) : Calls Tryz.prog 75 #[] w (roomPost 4 w) := by
  have hn : ∀ w, Hid (Calls Tryz.prog 94 #[.int .i64 4] w (roomPost 4 w)) := fun w => kd_room 4 (Or.inl rfl) w
  go_enter Tryz.func75, Tryz.ntmps75
  go_wp2_with (go_at_call 94; refine (hn _).out.mono ?_; rintro e w1 ⟨rfl, h⟩)
  go_ret
  exact ⟨rfl, h⟩
/-- kids k are l' now; only their own blocks have changed -/
def kPost (k rm : Nat) (l' : KV) (S : Nat → Prop) (w : World) (E : Ending) (e : Ending) (w' : World) : Prop := e = E ∧ ∃ S', KdAt w' k rm l' S' ∧ Mod S w w' ∧ ∀ j, S' j → S j ∨ w.heap.size ≤ j
variable {w : World} {k r rm : Nat} {l : KV} {S : Nat → Prop}
theorem row_set_at (h : RowAt rowT w r rm l) (b : Nat) (hb : b < 256) (hp : has l b = true ∨ l.length < rm) (x : (Option Addr)) : Calls Tryz.prog 115 #[.pointer (some ⟨r, 0, none⟩), .int .u8 b, .pointer x] w (setPost r rm l b (.pointer x) 0 w) := by
  obtain ⟨B, X, h⟩ := h
  cases hh : has l b with
  | true => exact row_set_is h b hb hh x
  | false => exact row_set_new h b hb hh (by rcases hp with hp | hp; rw [hh] at hp; cases hp; exact hp) x
theorem bd_set_at (h : BdAt bdT elT u16T w r rm l S) (b : Nat) (hb : b < 256) (hp : has l b = true ∨ l.length < rm) (x : (Option Addr)) : Calls Tryz.prog 116 #[.pointer (some ⟨r, 0, none⟩), .int .u8 b, .pointer x] w (bsetPost r rm l b (.pointer x) S w) := by
  obtain ⟨p, vx, xs, bx, vf, fs, bf, h, rfl⟩ := h
  cases hh : has l b with
  | true => exact bd_set_is h b hb hh x
  | false =>
    have hf : l.length < rm := by rcases hp with hp | hp; rw [hh] at hp; cases hp; exact hp
    rcases List.eq_nil_or_concat fs with rfl | ⟨gs, q, rfl⟩
    · exact bd_set_fresh h b hb hh hf x
    · rw [List.concat_eq_append] at h
      have := (h.pl.fin q (by simp)).1
      obtain ⟨q, rfl⟩ : ∃ q', q = q' + 1 := ⟨q - 1, by omega⟩
      exact bd_set_free h b hb hh hf x
theorem row_kids {w' : World} (hb : w.heap[k]? = some (.cells #[.pointer (some ⟨r, 0, none⟩), .pointer none] kdT (0, 0))) (hne : r ≠ k) {l' : KV} (hr : RowAt rowT w' r rm l') (hm : Mod (· = r) w w') (E : Ending) : kPost k rm l' (fun j => j = k ∨ j = r) w E E w' :=
  ⟨rfl, _, Or.inl ⟨r, (hm.same k (Array.getElem?_eq_some_iff.1 hb).1 (fun e => hne e.symm)).trans hb, hr, hne, rfl⟩, hm.mono fun j _ e => Or.inr e, fun j hj => Or.inl hj⟩
theorem bd_kids {w' : World} (hb : w.heap[k]? = some (.cells #[.pointer none, .pointer (some ⟨r, 0, none⟩)] kdT (0, 0))) (hne : ¬ S k) {l' : KV} (hr : ∃ S', BdAt bdT elT u16T w' r rm l' S' ∧ Mod S w w' ∧ ∀ k, S' k → S k ∨ w.heap.size ≤ k) (E : Ending) : kPost k rm l' (fun j => j = k ∨ S j) w E E w' := by
  obtain ⟨S', h1, h2, h3⟩ := hr
  have hk := (Array.getElem?_eq_some_iff.1 hb).1
  refine ⟨rfl, _, Or.inr ⟨r, S', (h2.same k hk hne).trans hb, h1, fun e => ?_, rfl⟩, h2.mono fun j _ e => Or.inr e, ?_⟩
  · rcases h3 k e with e | e
    · exact hne e
    · omega
  · rintro j (rfl | hj)
    · exact Or.inl (Or.inl rfl)
    · rcases h3 j hj with e | e
      · exact Or.inl (Or.inr e)
      · exact Or.inr e
theorem kd_put (h : KdAt w k rm l S) (b : Nat) (hb : b < 256) (hp : has l b = true ∨ l.length < rm) (x : (Option Addr)) : Calls Tryz.prog 98 #[.pointer (some ⟨k, 0, none⟩), .int .u8 b, .pointer x] w (kPost k rm (kins l b (.pointer x)) S w (.returned (.tuple #[]))) := by
  rcases h with ⟨r, hk, hr, hne, rfl⟩ | ⟨r, S', hk, hr, hne, rfl⟩
  · obtain ⟨c0, c1⟩ := cells2 hk
    have hx := Lib.hid (row_set_at hr b hb hp x)
    have fin : Hid (∀ w', RowAt rowT w' r rm (kins l b (.pointer x)) → Mod (· = r) w w' → kPost k rm (kins l b (.pointer x)) (fun j => j = k ∨ j = r) w (.returned (.tuple #[])) (.returned (.tuple #[])) w') := fun w' h1 h2 => row_kids hk hne h1 h2 _
    clear hk hr
    go_enter Tryz.func98, Tryz.ntmps98
    go_wp2_with (go_at_call 115; refine hx.out.mono ?_; rintro e w' ⟨rfl, q1, q2⟩; have q := Lib.hid (fin.out _ q1 q2); clear q1 q2)
    (try simp only [Exit.inBlock, Exit.then]); refine bodyPost_ret (results_none rfl _ _ _) rfl ?_
    exact q.out
  · obtain ⟨c0, c1⟩ := cells2 hk
    have hx := Lib.hid (bd_set_at hr b hb hp x)
    have fin : Hid (∀ w', (∃ S'', BdAt bdT elT u16T w' r rm (kins l b (.pointer x)) S'' ∧ Mod S' w w' ∧ ∀ k, S'' k → S' k ∨ w.heap.size ≤ k) → kPost k rm (kins l b (.pointer x)) (fun j => j = k ∨ S' j) w (.returned (.tuple #[])) (.returned (.tuple #[])) w') := fun w' h1 => bd_kids hk hne h1 _
    clear hk hr
    go_enter Tryz.func98, Tryz.ntmps98
    go_wp2_with (go_at_call 116; refine hx.out.mono ?_; rintro e w' ⟨rfl, q1⟩; have q := Lib.hid (fin.out _ q1); clear q1)
    go_end0
    exact q.out
end N
end Go.Proofs.YtfhdiimcimafkaaGreatDoor
/- Kids: move. -/
namespace Go.Proofs.YtfhdiimcimafkaaGreatDoor
open Go.RowKit
namespace I
variable {w : World} {k rm rm' : Nat} {l : KV} {S : Nat → Prop}
theorem knxt_val (hv : Vals l) {t : Int} {b : Nat} {v : Value} (h : knxt l t = some (b, v)) : ∃ x : Int, v = .int .i64 x := hv _ (List.mem_of_find?_eq_some h)
end I

namespace N
variable {w : World} {k rm rm' : Nat} {l : KV} {S : Nat → Prop}
theorem kd_info : (Tryz.prog.info? kdT).map (·.size) = some 2 := by kernel_rfl
/-- what of the things has been moved, those below t -/
def mvInv (rm' : Nat) (l : KV) (w : World) (t : Nat) (wr : World) : Prop :=
  ∃ S1, KdAt wr w.heap.size rm' (klt l t) S1 ∧ Below w.heap.size w wr ∧ ∀ j, S1 j → w.heap.size ≤ j
theorem mvInv.drewN {t : Nat} {wr : World} (h : mvInv rm' l w t wr) (n : Nat) : mvInv rm' l w t (wr.drewN n) := by
  obtain ⟨S1, h1, h2, h3⟩ := h
  exact ⟨S1, h1.drewN n, ⟨h2.os, h2.tape, h2.output, h2.size, h2.block⟩, h3⟩
/-- the kids' own two cells are put where the first ones were -/
def mvEnd (k rm' : Nat) (l : KV) (S : Nat → Prop) (w wr : World) : Prop :=
  ∃ a b o0 o1, wr.cell? ⟨w.heap.size, 0, none⟩ = some (.pointer a) ∧ wr.cell? ⟨w.heap.size, 1, none⟩ = some (.pointer b) ∧ wr.cell? ⟨k, 0, none⟩ = some o0 ∧ wr.cell? ⟨k, 1, none⟩ = some o1 ∧ (∀ j, wr.frozen? ⟨k, j, none⟩ = false) ∧ Hid (kPost k rm' l S w (.returned (.tuple #[])) (.returned (.tuple #[])) ((wr.setCell ⟨k, 0, none⟩ (.pointer a)).setCell ⟨k, 1, none⟩ (.pointer b)))
theorem mv_end (h : KdAt w k rm l S) {t : Nat} {wr : World} (hi : mvInv rm' l w t wr) (ht : klt l t = l) : mvEnd k rm' l S w wr := by
  obtain ⟨S1, h1, h2, h3⟩ := hi
  rw [ht] at h1
  have hk : k < w.heap.size := h.lt k h.self
  have ho : ∃ o0 o1, w.heap[k]? = some (.cells [o0, o1].toArray kdT (0, 0)) := by
    rcases h with ⟨r, hb, _⟩ | ⟨r, S', hb, _⟩ <;> exact ⟨_, _, hb⟩
  obtain ⟨o0, o1, ho⟩ := ho
  have ho' := (h2.block k hk).trans ho
  have e1 : ∀ a, (wr.setCell ⟨k, 0, none⟩ a).heap[k]? = some (.cells [a, o1].toArray kdT (0, 0)) := fun a => by
    rw [setCell_list wr k 0 _ kdT _ ho', setRow_heap wr _ _ _ _ _ ho']; rfl
  have e2 : ∀ a b, ((wr.setCell ⟨k, 0, none⟩ a).setCell ⟨k, 1, none⟩ b).heap[k]? = some (.cells #[a, b] kdT (0, 0)) := fun a b => by
    rw [setCell_list (wr.setCell ⟨k, 0, none⟩ a) k 1 _ kdT _ (e1 a), setRow_heap (wr.setCell ⟨k, 0, none⟩ a) _ _ _ _ _ (e1 a)]; rfl
  have e3 : ∀ a b j, j ≠ k → ((wr.setCell ⟨k, 0, none⟩ a).setCell ⟨k, 1, none⟩ b).heap[j]? = wr.heap[j]? := fun a b j hj =>
    (Below.heap_setCell _ _ _ _ hj).trans (Below.heap_setCell _ _ _ _ hj)
  have hM : ∀ a b, Mod S w ((wr.setCell ⟨k, 0, none⟩ a).setCell ⟨k, 1, none⟩ b) := fun a b =>
    ((Mod.of_below h2).setCell ⟨k, 0, none⟩ a (fun _ => h.self)).setCell ⟨k, 1, none⟩ b (fun _ => h.self)
  have q0 : wr.cell? ⟨k, 0, none⟩ = some o0 := by rw [cell_of_blk ho']; rfl
  have q1 : wr.cell? ⟨k, 1, none⟩ = some o1 := by rw [cell_of_blk ho']; rfl
  have q2 : ∀ j, wr.frozen? ⟨k, j, none⟩ = false := fun j => frozen_of_blk ho' j
  rcases h1 with ⟨r, hb, hr, hne, rfl⟩ | ⟨r, S', hb, hr, hne, rfl⟩
  · have hr1 := h3 r (Or.inr rfl)
    obtain ⟨c0, c1⟩ := cells2 hb
    refine ⟨_, _, _, _, c0, c1, q0, q1, q2, rfl, fun j => j = k ∨ j = r, Or.inl ⟨r, e2 _ _, hr.keep (e3 _ _ _ (by omega)), by omega, rfl⟩, hM _ _, ?_⟩
    rintro j (rfl | rfl)
    · exact Or.inl h.self
    · exact Or.inr hr1
  · obtain ⟨c0, c1⟩ := cells2 hb
    refine ⟨_, _, _, _, c0, c1, q0, q1, q2, rfl, fun j => j = k ∨ S' j, Or.inr ⟨r, S', e2 _ _, hr.keep (fun j hj => e3 _ _ _ (by have := h3 j (Or.inr hj); omega)), fun e => by have := h3 k (Or.inr e); omega, rfl⟩, hM _ _, ?_⟩
    rintro j (rfl | hj)
    · exact Or.inl h.self
    · exact Or.inr (h3 j (Or.inr hj))
theorem knxt_val (hv : Vals l) {t : Int} {b : Nat} {v : Value} (h : knxt l t = some (b, v)) : ∃ x : (Option Addr), v = .pointer x := hv _ (List.mem_of_find?_eq_some h)
set_option maxHeartbeats 1000000 in
set_option maxRecDepth 100000 in
theorem kd_move (h : KdAt w k rm l S) (hv : Vals l) (hrm : rm' = 4 ∨ rm' = 16 ∨ rm' = 48 ∨ rm' = 256) (hle : l.length ≤ rm') : Calls Tryz.prog 96 #[.pointer (some ⟨k, 0, none⟩), .int .i64 rm'] w (kPost k rm' l S w (.returned (.tuple #[]))) := by
  obtain ⟨hs, hl, _⟩ := h.srt
  have hroom := Lib.hid (kd_room rm' hrm w)
  have H := Lib.hid h
  have HS := Lib.hid hs
  have HL := Lib.hid hl
  have HV := Lib.hid hv
  have HE := Lib.hid hle
  have start : Hid (∀ w1, (∃ S1, KdAt w1 w.heap.size rm' [] S1 ∧ Below w.heap.size w w1 ∧ ∀ j, S1 j → w.heap.size ≤ j) → mvInv rm' l w 0 w1) := fun w1 q => by
    obtain ⟨S1, q1, q2, q3⟩ := q
    exact ⟨S1, by rw [klt_zero]; exact q1, q2, q3⟩
  have nx : Hid (∀ t wr, t < 256 → mvInv rm' l w t wr → Calls Tryz.prog 73 #[.pointer (some ⟨k, 0, none⟩), .int .i64 (t : Nat)] wr fun e w' => e = .returned (atV (knxt l (t : Nat))) ∧ ∃ n, w' = wr.drewN n) := fun t wr ht q => by
    obtain ⟨S1, q1, q2, q3⟩ := q
    exact kd_next (h.below q2) (t : Nat) (by omega) (by omega)
  have pt : Hid (∀ t wr b x, mvInv rm' l w t wr → knxt l (t : Nat) = some (b, .pointer x) → Calls Tryz.prog 98 #[.pointer (some ⟨w.heap.size, 0, none⟩), .int .u8 (b : Nat), .pointer x] wr fun e w' => e = .returned (.tuple #[]) ∧ mvInv rm' l w (b + 1) w') := fun t wr b x q hk => by
    obtain ⟨S1, q1, q2, q3⟩ := q
    obtain ⟨h1, h2, h3⟩ := klt_ins hs hk
    refine (kd_put q1 b (hl _ (nxt_some hs hk).1) (Or.inr (by omega)) x).mono ?_
    rintro e w' ⟨rfl, S2, p1, p2, p3⟩
    refine ⟨rfl, S2, by rw [← h1]; exact p1, ?_, ?_⟩
    · refine q2.trans (?_ : Below w.heap.size wr w'); exact ⟨p2.os, p2.tape, p2.output, p2.size, fun j hj => p2.same j (Nat.lt_of_lt_of_le hj q2.size) (fun e => by have := q3 j e; omega)⟩
    · intro j hj
      rcases p3 j hj with e | e
      · exact q3 j e
      · have h9 := q2.size; exact Nat.le_trans h9 e
  have fin : Hid (∀ t wr, mvInv rm' l w t wr → klt l t = l → mvEnd k rm' l S w wr) := fun t wr q e => mv_end h q e
  clear h hs hl hv hle hrm
  go_enter Tryz.func96, Tryz.ntmps96
  go_wp2_with (go_at_call 94; refine hroom.out.mono ?_; rintro e w1 ⟨rfl, q⟩; have q := Lib.hid (start.out _ q))
  go_loopw [5] (fun vt wr => ∃ t : Nat, vt = .int .i64 (t : Nat) ∧ t ≤ 256 ∧ Hid (mvInv rm' l w t wr)) (fun vt _ => (256 - intOf vt).toNat)
  case atStart => exact ⟨0, rfl, by omega, q⟩
  case round =>
    obtain ⟨t, rfl, ht, hi⟩ := hrel
    by_cases hlt : t < 256
    · have hlt2 : (t : Int) < 256 := by omega
      have nx1 := Lib.hid (nx.out t wr hlt hi.out)
      cases hk : knxt l (t : Nat) with
      | none =>
        have hK : Hid (atV (knxt l (t : Nat)) = .tuple #[.int .u8 0, (.pointer none), .bool false]) := by show _ = _; rw [hk]; rfl
        have hf := fun n => fin.out t (wr.drewN n) (hi.out.drewN n) (klt_all hk)
        have HF := Lib.hid hf
        clear hk hlt hf
        go_wp2_with (go_at_call 73; refine nx1.out.mono ?_; rintro e w' ⟨rfl, nd, rfl⟩; rw [hK.out]; obtain ⟨a, b, o0, o1, g1, g2, g3, g4, g5, f4⟩ := HF.out nd)
        go_end0
        exact f4.out
      | some p =>
        obtain ⟨b, v⟩ := p
        obtain ⟨x, rfl⟩ := knxt_val HV.out hk
        have hK : Hid (atV (knxt l (t : Nat)) = .tuple #[.int .u8 (b : Nat), .pointer x, .bool true]) := by show _ = _; rw [hk]; rfl
        have hb : b < 256 := HL.out _ (nxt_some HS.out hk).1
        have htb : t ≤ b := by have := (nxt_some HS.out hk).2.1; omega
        have pt1 := Lib.hid (fun n => pt.out t (wr.drewN n) b x (hi.out.drewN n) hk)
        have hw8 : IntKind.i64.wrap ((b : Nat) : Int) = (b : Nat) := IntWalk.i64_in _ (by omega)
        have hw9 : IntKind.i64.wrap (((b : Nat) : Int) + 1) = ((b : Nat) : Int) + 1 := IntWalk.i64_in _ (by omega)
        clear hk hlt
        go_wp2_with (first | (go_at_call 73; refine nx1.out.mono ?_; rintro e w' ⟨rfl, nd, rfl⟩; rw [hK.out]) | (go_at_call 98; refine (pt1.out _).mono ?_; rintro e w' ⟨rfl, hi2⟩; have hi2 := Lib.hid hi2))
        go_roundw
        case rel => exact ⟨b + 1, (by first | rfl | go_num), by omega, hi2⟩
        case measure => (simp [intOf]) <;> omega
    · have hlt2 : ¬ (t : Int) < 256 := by omega
      have hf := fin.out t wr hi.out (by
        unfold klt; rw [List.filter_eq_self]; intro p hp; have := HL.out p hp; simp; omega)
      obtain ⟨a, b, o0, o1, g1, g2, g3, g4, g5, f4⟩ := hf
      go_wp2_with fail
      go_end0
      exact f4.out
end N
end Go.Proofs.YtfhdiimcimafkaaGreatDoor
/- Kids: Set and Drop. -/
namespace Go.Proofs.YtfhdiimcimafkaaGreatDoor
open Go.RowKit
theorem kindOf_nat (n : Nat) (h : n ≤ 256) (w : World) : Calls Tryz.prog 97 #[.int .i64 (n : Nat)] w fun e w' => e = .returned (.int .i64 (kindOf n : Nat)) ∧ w = w' := by
  have := kindOf_any (n : Int) w
  rw [kindZ_nat n h] at this
  exact this
namespace I
variable {w : World} {k rm rm' : Nat} {l : KV} {S : Nat → Prop}
theorem Vals.ins (hv : Vals l) (b : Nat) (x : Int) : Vals (kins l b (.int .i64 x)) := by
  intro p hp
  simp only [kins, List.mem_append, List.mem_cons, List.mem_filter] at hp
  rcases hp with ⟨hp, _⟩ | rfl | ⟨hp, _⟩
  · exact hv p hp
  · exact ⟨x, rfl⟩
  · exact hv p hp
theorem Vals.del (hv : Vals l) (b : Nat) : Vals (kdel l b) := fun p hp => hv p (List.mem_filter.1 hp).1
theorem Vals.klt (hv : Vals l) (t : Nat) : Vals (klt l t) := fun p hp => hv p (List.mem_filter.1 hp).1
end I

namespace N
variable {w : World} {k rm rm' : Nat} {l : KV} {S : Nat → Prop}
theorem kok_yes (h : KdAt w k rm l S) : Calls Tryz.prog 83 #[.pointer (some ⟨k, 0, none⟩)] w fun e w' => e = .returned (.bool true) ∧ w = w' := by
  rcases h with ⟨r, hb, _⟩ | ⟨r, S', hb, _⟩
  · exact kok_row _ _ _ (cells2 hb).1
  · exact kok_board _ _ _ (cells2 hb).1 (cells2 hb).2
theorem Vals.ins (hv : Vals l) (b : Nat) (x : (Option Addr)) : Vals (kins l b (.pointer x)) := by
  intro p hp
  simp only [kins, List.mem_append, List.mem_cons, List.mem_filter] at hp
  rcases hp with ⟨hp, _⟩ | rfl | ⟨hp, _⟩
  · exact hv p hp
  · exact ⟨x, rfl⟩
  · exact hv p hp
theorem Vals.del (hv : Vals l) (b : Nat) : Vals (kdel l b) := fun p hp => hv p (List.mem_filter.1 hp).1
theorem Vals.klt (hv : Vals l) (t : Nat) : Vals (klt l t) := fun p hp => hv p (List.mem_filter.1 hp).1
theorem kPost.ret {k rm : Nat} {l' : KV} {E E' e : Ending} {w' : World} (h : kPost k rm l' S w E e w') : kPost k rm l' S w E' E' w' := ⟨rfl, h.2⟩
theorem kPost.drewN {k rm : Nat} {l' : KV} {E e : Ending} {w' : World} (h : kPost k rm l' S w E e w') (n : Nat) : kPost k rm l' S w E e (w'.drewN n) := by
  obtain ⟨h1, S', h2, h3, h4⟩ := h
  exact ⟨h1, S', h2.drewN n, h3.drewN n, h4⟩
theorem kPost.from {k rm : Nat} {l' : KV} {E e : Ending} {n : Nat} {w' : World} (h : kPost k rm l' S (w.drewN n) E e w') : kPost k rm l' S w E e w' := by
  obtain ⟨h1, S', h2, h3, h4⟩ := h
  exact ⟨h1, S', h2, ⟨h3.os, h3.tape, h3.output, h3.size, h3.same⟩, h4⟩
/-- one after the other one -/
theorem kPost.after {k rm rm2 : Nat} {l1 l2 : KV} {S' : Nat → Prop} {w1 w2 : World} {E e : Ending} (h2 : Mod S w w1) (h3 : ∀ j, S' j → S j ∨ w.heap.size ≤ j) (h : kPost k rm2 l2 S' w1 E e w2) : kPost k rm2 l2 S w E e w2 := by
  obtain ⟨e1, S2, p1, p2, p3⟩ := h
  refine ⟨e1, S2, p1, h2.then p2 (fun i hi hs => ?_), fun j hj => ?_⟩
  · rcases h3 i hs with e | e
    · exact e
    · omega
  · rcases p3 j hj with e | e
    · exact h3 j e
    · exact Or.inr (Nat.le_trans h2.size e)
set_option maxHeartbeats 1000000 in
set_option maxRecDepth 100000 in
theorem kd_set (h : KdAt w k (kindOf l.length) l S) (hv : Vals l) (b : Nat) (hb : b < 256) (x : (Option Addr)) : Calls Tryz.prog 78 #[.pointer (some ⟨k, 0, none⟩), .int .u8 b, .pointer x] w (kPost k (kindOf (kins l b (.pointer x)).length) (kins l b (.pointer x)) S w (.returned (.int .i64 0))) := by
  obtain ⟨hs, hl, _⟩ := h.srt
  have hlen := ins_len3 hs b (.pointer x)
  have h256 := len256 (hs.ins b (.pointer x)) (hl.ins hb (.pointer x))
  have hok := Lib.hid (kok_yes h)
  have hget := Lib.hid (kd_get h b hb)
  have hcnt := Lib.hid (fun n => kd_len (h.drewN n))
  have hknd := Lib.hid (fun n => kd_kind (h.drewN n))
  cases hh : has l b with
  | true =>
    rw [hh, if_pos rfl] at hlen
    have hput := Lib.hid (fun n => kd_put (h.drewN n) b hb (Or.inl hh) x)
    rw [hlen]
    have hgv : Hid (∃ v, getV (kget l b) = .tuple #[v, .bool true]) := ⟨_, by rw [get_yes hs hh (0, undef)]; rfl⟩
    obtain ⟨v, hgv⟩ := hgv.out
    have HG := Lib.hid hgv
    clear hgv
    generalize kindOf l.length = m at *
    clear h hs hl hlen h256 hh hcnt hknd
    go_enter Tryz.func78, Tryz.ntmps78
    go_wp2_with (first | (go_at_call 83; refine hok.out.mono ?_; rintro e w' ⟨rfl, rfl⟩) | (go_at_call 95; refine hget.out.mono ?_; rintro e w' ⟨rfl, nd, rfl⟩; rw [HG.out]) | (go_at_call 98; refine (hput.out _).mono ?_; rintro e w' ⟨rfl, q⟩; have q := Lib.hid q))
    go_ret
    exact kPost.from (n := nd) ⟨rfl, q.out⟩
  | false =>
    rw [hh, if_neg (by simp)] at hlen
    have hle : l.length ≤ kindOf l.length := kind_ge (by omega)
    have hgv : Hid (getV (kget l b) = .tuple #[(.pointer none), .bool false]) := by show _ = _; rw [get_no hs hh]; rfl
    have hw1 : IntKind.i64.wrap ((l.length : Nat) + 1 : Int) = (l.length : Nat) + 1 := IntWalk.i64_in _ (by omega)
    by_cases hlt : l.length < kindOf l.length
    · have hput := Lib.hid (fun n => kd_put (h.drewN n) b hb (Or.inr hlt) x)
      rw [hlen, kind_step hlt]
      have hne : ¬ ((l.length : Nat) : Int) = (kindOf l.length : Nat) := by omega
      generalize kindOf l.length = m at *
      clear h hs hl hlen h256 hh hlt hle hw1
      generalize hq : kins l b (.pointer x) = l' at *
      have Hq := Lib.hid hq
      clear hq
      generalize l.length = n at *
      go_enter Tryz.func78, Tryz.ntmps78
      go_wp2_with (first | (go_at_call 83; refine hok.out.mono ?_; rintro e w' ⟨rfl, rfl⟩) | (go_at_call 95; refine hget.out.mono ?_; rintro e w' ⟨rfl, nd, rfl⟩; rw [hgv.out]) | (go_at_call 71; refine (hcnt.out _).mono ?_; rintro e w' ⟨rfl, rfl⟩) | (go_at_call 65; refine (hknd.out _).mono ?_; rintro e w' ⟨rfl, rfl⟩) | (go_at_call 98; refine (hput.out _).mono ?_; rintro e w' ⟨rfl, q⟩; have q := Lib.hid q))
      go_ret
      exact kPost.from (n := nd) ⟨rfl, q.out⟩
    · have heq : ((kindOf l.length : Nat) : Int) = (l.length : Nat) := by omega
      have hkd : Hid (∀ w, Calls Tryz.prog 97 #[.int .i64 ((l.length : Nat) + 1 : Int)] w fun e w' => e = .returned (.int .i64 (kindOf (l.length + 1) : Nat)) ∧ w = w') := fun w => kindOf_nat (l.length + 1) (by omega) w
      have hge : l.length + 1 ≤ kindOf (l.length + 1) := kind_ge (by omega)
      have hmv := Lib.hid (fun n => kd_move (h.drewN n) hv (kind_cases (l.length + 1)) (by omega))
      have hput : Hid (∀ w1, (∃ n, kPost k (kindOf (l.length + 1)) l S (w.drewN n) (.returned (.tuple #[])) (.returned (.tuple #[])) w1) → Calls Tryz.prog 98 #[.pointer (some ⟨k, 0, none⟩), .int .u8 b, .pointer x] w1 fun e w' => e = .returned (.tuple #[]) ∧ kPost k (kindOf (l.length + 1)) (kins l b (.pointer x)) S w (.returned (.tuple #[])) e w') := fun w1 q => by
        obtain ⟨n, q⟩ := q
        obtain ⟨_, S', q1, q2, q3⟩ := q.from
        refine (kd_put q1 b hb (Or.inr (by omega)) x).mono fun e w' p => ⟨p.1, kPost.after (rm := 0) (l1 := []) q2 q3 p⟩
      rw [hlen]
      clear hh hge hle hlt
      generalize kins l b (.pointer x) = l' at *
      have hknd2 : Hid (∀ n, Calls Tryz.prog 65 #[.pointer (some ⟨k, 0, none⟩)] (w.drewN n) fun e w' => e = .returned (.int .i64 (l.length : Nat)) ∧ w.drewN n = w') := by
        intro n; have := hknd.out n; rw [heq] at this; exact this
      generalize kindOf (l.length + 1) = m at *
      clear h hs hl hlen h256 hknd heq
      generalize l.length = n at *
      go_enter Tryz.func78, Tryz.ntmps78
      go_wp2_with (first | (go_at_call 83; refine hok.out.mono ?_; rintro e w' ⟨rfl, rfl⟩) | (go_at_call 95; refine hget.out.mono ?_; rintro e w' ⟨rfl, nd, rfl⟩; rw [hgv.out]) | (go_at_call 71; refine (hcnt.out _).mono ?_; rintro e w' ⟨rfl, rfl⟩) | (go_at_call 65; refine (hknd2.out _).mono ?_; rintro e w' ⟨rfl, rfl⟩) | (go_at_call 97; refine (hkd.out _).mono ?_; rintro e w' ⟨rfl, rfl⟩) | (go_at_call 96; refine (hmv.out _).mono ?_; rintro e w1 ⟨rfl, q⟩; have q := Lib.hid (hput.out w1 ⟨nd, rfl, q⟩)) | (go_at_call 98; refine q.out.mono ?_; rintro e w' ⟨rfl, q'⟩; have q' := Lib.hid q'))
      go_ret
      exact q'.out.ret
end N
end Go.Proofs.YtfhdiimcimafkaaGreatDoor
/- Kids: Drop and Copy. -/
namespace Go.Proofs.YtfhdiimcimafkaaGreatDoor
open Go.RowKit
namespace I
variable {w : World} {k rm rm' : Nat} {l : KV} {S : Nat → Prop}
end I

namespace N
variable {w : World} {k rm rm' : Nat} {l : KV} {S : Nat → Prop}
/-- what Drop does behind the row's, or the board's, own Drop -/
theorem drop_tail (hs : Srt l) (hl : Low l) (hv : Vals l) (b : Nat) (c : Int) {w1 : World} (q : kPost k rm (kdel l b) S w (.returned (.int .i64 c)) (.returned (.int .i64 c)) w1) :
    ∃ n : Nat, Hid (Calls Tryz.prog 71 #[.pointer (some ⟨k, 0, none⟩)] w1 fun e w' => e = .returned (.int .i64 n) ∧ w1 = w') ∧
      Hid (Calls Tryz.prog 65 #[.pointer (some ⟨k, 0, none⟩)] w1 fun e w' => e = .returned (.int .i64 rm) ∧ w1 = w') ∧
      ∃ m : Nat, m = kindOf (kdel l b).length ∧ Hid (Calls Tryz.prog 97 #[.int .i64 n] w1 fun e w' => e = .returned (.int .i64 (m : Nat)) ∧ w1 = w') ∧
      Hid (Calls Tryz.prog 96 #[.pointer (some ⟨k, 0, none⟩), .int .i64 (m : Nat)] w1 fun e w' => e = .returned (.tuple #[]) ∧ kPost k m (kdel l b) S w (.returned (.int .i64 c)) (.returned (.int .i64 c)) w') := by
  obtain ⟨_, S', q1, q2, q3⟩ := q
  have h256 := len256 (hs.del b) (hl.del b)
  refine ⟨(kdel l b).length, kd_len q1, kd_kind q1, _, rfl, kindOf_nat _ h256 w1, ?_⟩
  exact (kd_move q1 (Vals.del hv b) (kind_cases _) (kind_ge h256)).mono fun e w' p => ⟨p.1, (kPost.after (rm := 0) (l1 := []) q2 q3 p).ret⟩
end N
end Go.Proofs.YtfhdiimcimafkaaGreatDoor
/- Kids: Copy. -/
namespace Go.Proofs.YtfhdiimcimafkaaGreatDoor
open Go.RowKit
namespace I
variable {w : World} {k rm rm' : Nat} {l : KV} {S : Nat → Prop}
end I

namespace N
variable {w : World} {k rm rm' : Nat} {l : KV} {S : Nat → Prop}
def kcopyPost (rm : Nat) (l : KV) (w : World) (e : Ending) (w' : World) : Prop := ∃ k' S', e = .returned (.pointer (some ⟨k', 0, none⟩)) ∧ KdAt w' k' rm l S' ∧ Below w.heap.size w w' ∧ ∀ j, S' j → w.heap.size ≤ j
end N
end Go.Proofs.YtfhdiimcimafkaaGreatDoor
/- Kids that nobody made. -/
namespace Go.Proofs.YtfhdiimcimafkaaGreatDoor
open Go.RowKit
namespace I
variable {w : World}
/-- kids that nobody made: nil, or with no cell filled -/
def Bare (w : World) (v : Option Addr) : Prop := v = none ∨ ∃ k o, v = some ⟨k, o, none⟩ ∧ w.cell? ⟨k, o, none⟩ = some (.pointer none) ∧ w.cell? ⟨k, o + 1, none⟩ = some (.pointer none)
end I

namespace N
variable {w : World}
/-- kids that nobody made: nil, or with no cell filled -/
def Bare (w : World) (v : Option Addr) : Prop := v = none ∨ ∃ k o, v = some ⟨k, o, none⟩ ∧ w.cell? ⟨k, o, none⟩ = some (.pointer none) ∧ w.cell? ⟨k, o + 1, none⟩ = some (.pointer none)
theorem kok_no {v : Option Addr} (h : Bare w v) : Calls Tryz.prog 83 #[.pointer v] w fun e w' => e = .returned (.bool false) ∧ w = w' := by
  rcases h with rfl | ⟨k, o, rfl, h0, h1⟩
  · exact kok_nil w
  · exact kok_bare w k o h0 h1
theorem bare_len {v : Option Addr} (h : Bare w v) : Calls Tryz.prog 71 #[.pointer v] w fun e w' => e = .returned (.int .i64 0) ∧ w = w' := by
  have hok := Lib.hid (kok_no h)
  clear h
  go_enter Tryz.func71, Tryz.ntmps71
  go_wp2_with (go_at_call 83; refine hok.out.mono ?_; rintro e w' ⟨rfl, rfl⟩)
  go_ret
  exact ⟨rfl, rfl⟩
theorem bare_kind {v : Option Addr} (h : Bare w v) : Calls Tryz.prog 65 #[.pointer v] w fun e w' => e = .returned (.int .i64 0) ∧ w = w' := by
  have hok := Lib.hid (kok_no h)
  clear h
  go_enter Tryz.func65, Tryz.ntmps65
  go_wp2_with (go_at_call 83; refine hok.out.mono ?_; rintro e w' ⟨rfl, rfl⟩)
  go_ret
  exact ⟨rfl, rfl⟩
theorem bare_get {v : Option Addr} (h : Bare w v) (b : Nat) : Calls Tryz.prog 95 #[.pointer v, .int .u8 b] w fun e w' => e = .returned (.tuple #[(.pointer none), .bool false]) ∧ w = w' := by
  have hok := Lib.hid (kok_no h)
  clear h
  go_enter Tryz.func95, Tryz.ntmps95
  go_wp2_with (go_at_call 83; refine hok.out.mono ?_; rintro e w' ⟨rfl, rfl⟩)
  go_ret2
  exact ⟨rfl, rfl⟩
theorem bare_next {v : Option Addr} (h : Bare w v) (f : Int) : Calls Tryz.prog 73 #[.pointer v, .int .i64 f] w fun e w' => e = .returned (.tuple #[.int .u8 0, (.pointer none), .bool false]) ∧ w = w' := by
  have hok := Lib.hid (kok_no h)
  clear h
  go_enter Tryz.func73, Tryz.ntmps73
  go_wp2_with (go_at_call 83; refine hok.out.mono ?_; rintro e w' ⟨rfl, rfl⟩)
  go_ret3
  exact ⟨rfl, rfl⟩
theorem bare_set {v : Option Addr} (h : Bare w v) (b : Nat) (x : (Option Addr)) : Calls Tryz.prog 78 #[.pointer v, .int .u8 b, .pointer x] w fun e w' => e = .returned (.int .i64 2) ∧ w = w' := by
  have hok := Lib.hid (kok_no h)
  clear h
  go_enter Tryz.func78, Tryz.ntmps78
  go_wp2_with (go_at_call 83; refine hok.out.mono ?_; rintro e w' ⟨rfl, rfl⟩)
  go_ret
  exact ⟨rfl, rfl⟩
end N
end Go.Proofs.YtfhdiimcimafkaaGreatDoor
/- Kids: alive (spunyarnlaw11): five, and four again. -/
namespace Go.Proofs.YtfhdiimcimafkaaGreatDoor
open Go.RowKit
section
variable {w0 w : World} {k : Nat} {l : KV} {S : Nat → Prop}
end
theorem below_mod {w0 w w' : World} {S : Nat → Prop} (h : Below w0.heap.size w0 w) (hm : Mod S w w') (hS : ∀ j, S j → w0.heap.size ≤ j) : Below w0.heap.size w0 w' := by
  refine h.trans (?_ : Below w0.heap.size w w')
  have := h.size
  exact ⟨hm.os, hm.tape, hm.output, hm.size, fun j hj => hm.same j (by omega) (fun e => by have := hS j e; omega)⟩
section
variable {w0 w : World} {k : Nat} {l : KV}
end
def aliveL (i : Nat) : KV := (List.range i).map fun b => (b, .int .i64 (b : Nat))
theorem aliveL_next {i : Nat} (h : i < 5) : kins (aliveL i) i (.int .i64 (i : Nat)) = aliveL (i + 1) := by
  have : i = 0 ∨ i = 1 ∨ i = 2 ∨ i = 3 ∨ i = 4 := by omega
  rcases this with rfl | rfl | rfl | rfl | rfl <;> rfl
/-- what a statement's walk ends with -/
def LawPost (w : World) (e : Ending) (w' : World) : Prop := e = .returned (.bool true) ∧ Below w.heap.size w w'
end Go.Proofs.YtfhdiimcimafkaaGreatDoor
/- Two and three kids side by side, made since a world w0. -/
namespace Go.Proofs.YtfhdiimcimafkaaGreatDoor
open Go.RowKit
theorem dis_swap {S T : Nat → Prop} (h : ∀ j, S j → ¬ T j) : ∀ j, T j → ¬ S j := fun j t s => h j s t
theorem below_drewN {B : Nat} {w0 w : World} (h : Below B w0 w) (n : Nat) : Below B w0 (w.drewN n) := ⟨h.os, h.tape, h.output, h.size, h.block⟩
section
variable {w0 w w' : World} {a b c : Nat} {la lb lc l' : KV} {S S' T : Nat → Prop}
/-- what is turned stays apart -/
theorem dis_turn (hT : ∀ j, T j → j < w.heap.size) (hd : ∀ j, S j → ¬ T j) (h3 : ∀ j, S' j → S j ∨ w.heap.size ≤ j) : ∀ j, S' j → ¬ T j := fun j hj ht => by
  rcases h3 j hj with e | e
  · exact hd j e ht
  · have := hT j ht; omega
end
/-- the things are just those that f tells -/
def Tells (l : KV) (f : Nat → Option Int) : Prop := ∀ c, kget l c = (f c).map (.int .i64)
theorem Tells.nil : Tells [] (fun _ => none) := fun c => rfl
theorem Tells.ins {l : KV} (hs : Srt l) {f : Nat → Option Int} (h : Tells l f) (b : Nat) (v : Int) : Tells (kins l b (.int .i64 v)) (fun c => if c = b then some v else f c) := fun c => by
  rw [get_ins hs]
  by_cases e : c = b
  · simp [e]
  · simp [e, h c]
theorem Tells.del {l : KV} (hs : Srt l) {f : Nat → Option Int} (h : Tells l f) (b : Nat) : Tells (kdel l b) (fun c => if c = b then none else f c) := fun c => by
  rw [get_del hs]
  by_cases e : c = b
  · simp [e]
  · simp [e, h c]
theorem Tells.uniq {l m : KV} (hl : Srt l) (hm : Srt m) {f : Nat → Option Int} (h : Tells l f) (k : Tells m f) : l = m := hl.ext hm fun b => by rw [h, k]
theorem Tells.congr {l : KV} {f g : Nat → Option Int} (h : Tells l f) (e : ∀ c, f c = g c) : Tells l g := fun c => by rw [h, e]
theorem Tells.vals {l : KV} (hs : Srt l) {f : Nat → Option Int} (h : Tells l f) : ∀ p ∈ l, ∃ v, f p.1 = some v ∧ p.2 = .int .i64 v := fun p hp => by
  have h1 := h p.1
  rw [(mem_get hs).2 (show (p.1, p.2) ∈ l from hp)] at h1
  cases hf : f p.1 with
  | none => rw [hf] at h1; simp at h1
  | some v => rw [hf] at h1; exact ⟨v, rfl, by simpa using h1⟩
end Go.Proofs.YtfhdiimcimafkaaGreatDoor
/- Bytes that a slice has ahead. -/
namespace Go.Proofs.YtfhdiimcimafkaaGreatDoor
open Go.RowKit
/-- the bytes that a slice has ahead -/
def BytesAt (w : World) (a : Option Addr) (bs : List Nat) : Prop := (∀ x ∈ bs, x < 256) ∧ ∀ i, i < bs.length → ∃ p : Addr, a = some p ∧ (p.add i).block < w.heap.size ∧ w.cell? (p.add i) = some (.int .u8 (bs.getD i 0 : Nat))
theorem BytesAt.read {w wr : World} {a : Option Addr} {bs : List Nat} (h : BytesAt w a bs) (hb : Below w.heap.size w wr) {i : Nat} (hi : i < bs.length) : ∃ p : Addr, a = some p ∧ wr.cell? (p.add i) = some (.int .u8 (bs.getD i 0 : Nat)) := by
  obtain ⟨p, rfl, h1, h2⟩ := h.2 i hi
  exact ⟨p, rfl, (hb.cell (p := p.add i) h1).trans h2⟩
end Go.Proofs.YtfhdiimcimafkaaGreatDoor
/- A slice of bytes that came in: the bytes that it has ahead. -/
namespace Go.Proofs.YtfhdiimcimafkaaGreatDoor
open Go.RowKit
theorem cell_lt {w : World} {a : Addr} {v : Value} (h : w.cell? a = some v) : a.block < w.heap.size := by
  by_cases hb : a.block < w.heap.size
  · exact hb
  · have : w.heap[a.block]? = none := by simpa using hb
    simp [World.cell?, this] at h
theorem wf_u8 {n : Int} (h : (Lit.int .u8 n).wf = true) : 0 ≤ n ∧ n ≤ 255 := by simpa [Lit.wf, IntKind.min, IntKind.max, IntKind.signed, IntKind.bits] using h
theorem wf_i64 {n : Int} (h : (Lit.int .i64 n).wf = true) : -9223372036854775808 ≤ n ∧ n ≤ 9223372036854775807 := by simpa [Lit.wf, IntKind.min, IntKind.max, IntKind.signed, IntKind.bits] using h
theorem wf_u64 {n : Int} (h : (Lit.int .u64 n).wf = true) : 0 ≤ n ∧ n ≤ 18446744073709551615 := by simpa [Lit.wf, IntKind.min, IntKind.max, IntKind.signed, IntKind.bits] using h
theorem bytes_of {w : World} {a : Option Addr} {len cap : Nat} {zs : List Int} (h : (a = none ∧ len = 0 ∧ cap = 0 ∧ zs = []) ∨ ∃ x, a = some x ∧ len ≤ cap ∧ cap ≤ maxLen ∧ zs.length = cap ∧ (∀ i, i < zs.length → w.cell? (x.add i) = some (.int .u8 (zs.getD i 0))) ∧ ∀ n ∈ zs, (Lit.int .u8 n).wf = true) (m : Nat) (hm : m ≤ len) :
    ∃ bs : List Nat, bs.length = m ∧ len ≤ cap ∧ cap ≤ maxLen ∧ BytesAt w a bs := by
  rcases h with ⟨rfl, rfl, rfl, rfl⟩ | ⟨x, rfl, h1, h2, h3, h4, h5⟩
  · obtain rfl : m = 0 := by omega
    exact ⟨[], rfl, Nat.le_refl _, Nat.zero_le _, by simp, by intro i hi; simp at hi⟩
  · refine ⟨(zs.take m).map Int.toNat, by simp; omega, h1, h2, ?_, ?_⟩
    · intro y hy
      obtain ⟨n, hn, rfl⟩ := List.mem_map.1 hy
      have := wf_u8 (h5 n (List.mem_of_mem_take hn))
      omega
    · intro i hi
      have hi' : i < m := by simp at hi; omega
      have hz : i < zs.length := by omega
      have hc := h4 i hz
      have hn := wf_u8 (h5 zs[i] (List.getElem_mem _))
      have e : zs.getD i 0 = ((((zs.take m).map Int.toNat).getD i 0 : Nat) : Int) := by
        simp [List.getD, List.getElem?_take, hi', hz]
        omega
      refine ⟨x, rfl, cell_lt hc, ?_⟩
      rw [hc, e]
end Go.Proofs.YtfhdiimcimafkaaGreatDoor
/- The document's Common, Cmp, Same (spunyarnref01) of bytes. -/
namespace Go.Proofs.YtfhdiimcimafkaaGreatDoor
open Go.RowKit
/-- how many bytes both begin with -/
def lcp : List Nat → List Nat → Nat
  | x :: xs, y :: ys => if x = y then lcp xs ys + 1 else 0
  | _, _ => 0
theorem lcp_le : ∀ (xs ys : List Nat), lcp xs ys ≤ xs.length ∧ lcp xs ys ≤ ys.length
  | [], _ => by simp [lcp]
  | _ :: _, [] => by simp [lcp]
  | x :: xs, y :: ys => by
    have := lcp_le xs ys
    unfold lcp
    split <;> simp <;> omega
theorem lcp_stop : ∀ (xs ys : List Nat) (n : Nat), (∀ j, j < n → xs.getD j 0 = ys.getD j 0) → n ≤ xs.length → n ≤ ys.length → (n = xs.length ∨ n = ys.length ∨ xs.getD n 0 ≠ ys.getD n 0) → lcp xs ys = n
  | [], ys, n, h1, h2, h3, h4 => by simp at h2; subst h2; rfl
  | x :: xs, [], n, h1, h2, h3, h4 => by simp at h3; subst h3; rfl
  | x :: xs, y :: ys, 0, h1, h2, h3, h4 => by
    have : x ≠ y := by
      rcases h4 with h | h | h
      · simp at h
      · simp at h
      · simpa using h
    simp [lcp, this]
  | x :: xs, y :: ys, n + 1, h1, h2, h3, h4 => by
    have e : x = y := by simpa using h1 0 (by omega)
    subst e
    have := lcp_stop xs ys n (fun j hj => by simpa using h1 (j + 1) (by omega)) (by simpa using h2) (by simpa using h3) (by simpa using h4)
    simp [lcp, this]
theorem lcp_same : ∀ (xs ys : List Nat), (lcp xs ys = xs.length ∧ lcp xs ys = ys.length) ↔ xs = ys
  | [], [] => by simp [lcp]
  | [], _ :: _ => by simp [lcp]
  | _ :: _, [] => by simp [lcp]
  | x :: xs, y :: ys => by
    have := lcp_same xs ys
    unfold lcp
    by_cases e : x = y
    · subst e; simp [this]
    · simp [e]
/-- the order of bytes -/
def bcmp (xs ys : List Nat) : Int :=
  if lcp xs ys = xs.length ∧ lcp xs ys = ys.length then 0 else if lcp xs ys = xs.length then -1 else if lcp xs ys = ys.length then 1 else if xs.getD (lcp xs ys) 0 < ys.getD (lcp xs ys) 0 then -1 else 1
theorem bcmp_zero (xs ys : List Nat) : bcmp xs ys = 0 ↔ xs = ys := by
  unfold bcmp
  rw [← lcp_same]
  split
  · rename_i h; exact ⟨fun _ => h, fun _ => rfl⟩
  · rename_i h
    constructor
    · intro e; exfalso; revert e; split <;> (try split) <;> (try split) <;> simp
    · intro e; exact absurd e h
/-- bytes at a slice, whatever was drawn -/
theorem BytesAt.cellN {w : World} {a : Option Addr} {bs : List Nat} (h : BytesAt w a bs) {i : Nat} (hi : i < bs.length) : ∃ p : Addr, a = some p ∧ ∀ k, (w.drewN k).cell? (p.add i) = some (.int .u8 (bs.getD i 0 : Nat)) := by
  obtain ⟨p, hp, _, h2⟩ := h.2 i hi
  exact ⟨p, hp, fun k => h2⟩
set_option maxRecDepth 100000 in
theorem ref_common (w : World) (a1 a2 : Option Addr) (n1 c1 n2 c2 : Nat) (xs ys : List Nat) (h1 : BytesAt w a1 xs) (h2 : BytesAt w a2 ys) (l1 : xs.length = n1) (l2 : ys.length = n2) (m1 : n1 ≤ maxLen) (m2 : n2 ≤ maxLen) : Calls Tryz.prog 39 #[.slice a1 n1 c1, .slice a2 n2 c2] w fun e w' => e = .returned (.int .i64 (lcp xs ys : Nat)) ∧ ∃ k, w' = w.drewN k := by
  have H1 := Lib.hid h1
  have H2 := Lib.hid h2
  have L1 := Lib.hid l1
  have L2 := Lib.hid l2
  have M1 : n1 ≤ 9223372036854775807 := m1
  have M2 : n2 ≤ 9223372036854775807 := m2
  obtain ⟨V, hV⟩ : ∃ V : Nat, Hid (lcp xs ys = V) := ⟨_, rfl⟩
  rw [hV.out]
  clear h1 h2 l1 l2 m1 m2
  go_enter Tryz.func39, Tryz.ntmps39
  go_wp2_with fail
  go_loopw [5] (fun vi wr => ∃ i k : Nat, vi = .int .i64 (i : Nat) ∧ i ≤ n1 ∧ i ≤ n2 ∧ Hid (∀ j, j < i → xs.getD j 0 = ys.getD j 0) ∧ wr = w.drewN k) (fun vi _ => (n1 - intOf vi).toNat)
  case atStart => exact ⟨0, 0, rfl, by omega, by omega, (fun j hj => absurd hj (Nat.not_lt_zero j)), rfl⟩
  case round =>
    obtain ⟨i, k, rfl, hi1, hi2, heq, rfl⟩ := hrel
    by_cases g1 : i < n1
    · by_cases g2 : i < n2
      · obtain ⟨p, rfl, hp⟩ := H1.out.cellN (i := i) (by rw [L1.out]; exact g1)
        obtain ⟨q, rfl, hq⟩ := H2.out.cellN (i := i) (by rw [L2.out]; exact g2)
        have j1 : (i : Int) < (n1 : Int) := by omega
        have j2 : (i : Int) < (n2 : Int) := by omega
        have hw9 : IntKind.i64.wrap (((i : Nat) : Int) + 1) = ((i : Nat) : Int) + 1 := IntWalk.i64_in _ (by omega)
        by_cases he : xs.getD i 0 = ys.getD i 0
        · have hn : Hid (∀ j, j < i + 1 → xs.getD j 0 = ys.getD j 0) := fun j hj => by
            by_cases e : j = i
            · subst e; exact he
            · exact heq.out j (by omega)
          rw [← he] at hq
          generalize xs.getD i 0 = u at *
          clear he
          go_wp2_with fail
          go_quiet (fail)
          go_wp2_with fail
          go_roundw
          case rel => exact ⟨i + 1, k + nq, (by first | rfl | go_num), by omega, by omega, hn, by simp⟩
          case measure => (simp [intOf]) <;> omega
        · have hR : Hid (i = V) := ((lcp_stop xs ys i heq.out (by rw [L1.out]; omega) (by rw [L2.out]; omega) (Or.inr (Or.inr he))).symm.trans hV.out : i = V)
          have he2 : ((xs.getD i 0 : Nat) : Int) ≠ ((ys.getD i 0 : Nat) : Int) := by omega
          have he3 : (((xs.getD i 0 : Nat) : Int) == ((ys.getD i 0 : Nat) : Int)) = false := by simpa using he2
          generalize xs.getD i 0 = u at *
          generalize ys.getD i 0 = v at *
          clear he he2
          go_wp2_with fail
          go_quiet (fail)
          go_wp2_with fail
          go_ret
          exact ⟨congrArg (fun n : Nat => Ending.returned (.int .i64 (n : Int))) hR.out, _, World.drewN_drewN _ _ _⟩
      · obtain ⟨p, rfl, hp⟩ := H1.out.cellN (i := i) (by rw [L1.out]; exact g1)
        obtain rfl : i = n2 := by omega
        have hR : Hid (i = V) := ((lcp_stop xs ys i heq.out (by rw [L1.out]; omega) (by rw [L2.out]; omega) (Or.inr (Or.inl (by rw [L2.out])))).symm.trans hV.out : i = V)
        have j1 : (i : Int) < (n1 : Int) := by omega
        go_wp2_with fail
        go_quiet (fail)
        go_wp2_with fail
        go_ret
        exact ⟨congrArg (fun n : Nat => Ending.returned (.int .i64 (n : Int))) hR.out, _, World.drewN_drewN _ _ _⟩
    · obtain rfl : i = n1 := by omega
      have hR : Hid (i = V) := ((lcp_stop xs ys i heq.out (by rw [L1.out]; omega) (by rw [L2.out]; omega) (Or.inl (by rw [L1.out]))).symm.trans hV.out : i = V)
      go_wp2_with fail
      go_quiet (fail)
      go_wp2_with fail
      go_ret
      exact ⟨congrArg (fun n : Nat => Ending.returned (.int .i64 (n : Int))) hR.out, _, World.drewN_drewN _ _ _⟩
set_option maxRecDepth 100000 in
theorem ref_cmp (w : World) (a1 a2 : Option Addr) (n1 c1 n2 c2 : Nat) (xs ys : List Nat) (h1 : BytesAt w a1 xs) (h2 : BytesAt w a2 ys) (l1 : xs.length = n1) (l2 : ys.length = n2) (m1 : n1 ≤ maxLen) (m2 : n2 ≤ maxLen) : Calls Tryz.prog 31 #[.slice a1 n1 c1, .slice a2 n2 c2] w fun e w' => e = .returned (.int .i64 (bcmp xs ys)) ∧ ∃ k, w' = w.drewN k := by
  have hC := Lib.hid (ref_common w a1 a2 n1 c1 n2 c2 xs ys h1 h2 l1 l2 m1 m2)
  have hle := lcp_le xs ys
  have H1 := Lib.hid h1
  have H2 := Lib.hid h2
  have L1 := Lib.hid l1
  have L2 := Lib.hid l2
  rw [l1, l2] at hle
  obtain ⟨hle1, hle2⟩ := hle
  have hB : Hid (bcmp xs ys = if lcp xs ys = n1 ∧ lcp xs ys = n2 then 0 else if lcp xs ys = n1 then -1 else if lcp xs ys = n2 then 1 else if xs.getD (lcp xs ys) 0 < ys.getD (lcp xs ys) 0 then -1 else 1) := by show _ = _; unfold bcmp; rw [l1, l2]
  clear h1 h2 l1 l2 m1 m2
  generalize hV : bcmp xs ys = V at *
  clear hV
  generalize lcp xs ys = i at *
  by_cases e1 : i = n1
  · by_cases e2 : i = n2
    · subst e1; subst e2
      have hR : Hid (V = 0) := by show _ = _; rw [hB.out]; simp
      rw [hR.out]
      clear hR
      go_enter Tryz.func31, Tryz.ntmps31
      go_wp2_with (go_at_call 39; refine hC.out.mono ?_; rintro e w' ⟨rfl, k, rfl⟩)
      go_ret
      exact ⟨rfl, _, rfl⟩
    · subst e1
      have hR : Hid (V = -1) := by show _ = _; rw [hB.out]; simp [e2]
      have j2 : (i : Int) ≠ (n2 : Int) := by omega
      rw [hR.out]
      clear hR e2
      go_enter Tryz.func31, Tryz.ntmps31
      go_wp2_with (go_at_call 39; refine hC.out.mono ?_; rintro e w' ⟨rfl, k, rfl⟩)
      go_ret
      exact ⟨rfl, _, rfl⟩
  · have j1 : (i : Int) ≠ (n1 : Int) := by omega
    by_cases e2 : i = n2
    · subst e2
      have hR : Hid (V = 1) := by show _ = _; rw [hB.out]; simp [e1]
      rw [hR.out]
      clear hR e1
      go_enter Tryz.func31, Tryz.ntmps31
      go_wp2_with (go_at_call 39; refine hC.out.mono ?_; rintro e w' ⟨rfl, k, rfl⟩)
      go_ret
      exact ⟨rfl, _, rfl⟩
    · have j2 : (i : Int) ≠ (n2 : Int) := by omega
      obtain ⟨p, rfl, hp⟩ := H1.out.cellN (i := i) (by rw [L1.out]; omega)
      obtain ⟨q, rfl, hq⟩ := H2.out.cellN (i := i) (by rw [L2.out]; omega)
      have k1 : (i : Int) < (n1 : Int) := by omega
      have k2 : (i : Int) < (n2 : Int) := by omega
      have hR : Hid (V = if xs.getD i 0 < ys.getD i 0 then -1 else 1) := by show _ = _; rw [hB.out]; simp [e1, e2]
      generalize xs.getD i 0 = u at *
      generalize ys.getD i 0 = v at *
      by_cases e3 : u < v
      · have j3 : (u : Int) < (v : Int) := by omega
        rw [hR.out, if_pos e3]
        clear hR e1 e2 e3 hB
        go_enter Tryz.func31, Tryz.ntmps31
        go_wp2_with (go_at_call 39; refine hC.out.mono ?_; rintro e w' ⟨rfl, k, rfl⟩)
        go_quiet (fail)
        go_wp2_with fail
        go_ret
        exact ⟨rfl, _, World.drewN_drewN _ _ _⟩
      · have j3 : ¬ (u : Int) < (v : Int) := by omega
        rw [hR.out, if_neg e3]
        clear hR e1 e2 e3 hB
        go_enter Tryz.func31, Tryz.ntmps31
        go_wp2_with (go_at_call 39; refine hC.out.mono ?_; rintro e w' ⟨rfl, k, rfl⟩)
        go_quiet (fail)
        go_wp2_with fail
        go_ret
        exact ⟨rfl, _, World.drewN_drewN _ _ _⟩
theorem ref_same (w : World) (a1 a2 : Option Addr) (n1 c1 n2 c2 : Nat) (xs ys : List Nat) (h1 : BytesAt w a1 xs) (h2 : BytesAt w a2 ys) (l1 : xs.length = n1) (l2 : ys.length = n2) (m1 : n1 ≤ maxLen) (m2 : n2 ≤ maxLen) : Calls Tryz.prog 14 #[.slice a1 n1 c1, .slice a2 n2 c2] w fun e w' => e = .returned (.bool (decide (xs = ys))) ∧ ∃ k, w' = w.drewN k := by
  have hC := Lib.hid (ref_cmp w a1 a2 n1 c1 n2 c2 xs ys h1 h2 l1 l2 m1 m2)
  have hz := bcmp_zero xs ys
  clear h1 h2 l1 l2 m1 m2
  by_cases e : xs = ys
  · have h0 : Hid (bcmp xs ys = 0) := hz.2 e
    have hR : Hid (decide (xs = ys) = true) := by show _ = _; simp [e]
    rw [hR.out]
    clear hz e hR
    go_enter Tryz.func14, Tryz.ntmps14
    go_wp2_with (go_at_call 31; refine hC.out.mono ?_; rintro e w' ⟨rfl, k, rfl⟩; rw [h0.out])
    go_ret
    exact ⟨rfl, _, rfl⟩
  · have h0 : bcmp xs ys ≠ 0 := fun q => e (hz.1 q)
    have h1 : (bcmp xs ys == 0) = false := by simpa using h0
    have hR : Hid (decide (xs = ys) = false) := by show _ = _; simp [e]
    rw [hR.out]
    clear hz e hR h0
    generalize bcmp xs ys = V at *
    go_enter Tryz.func14, Tryz.ntmps14
    go_wp2_with (go_at_call 31; refine hC.out.mono ?_; rintro e w' ⟨rfl, k, rfl⟩)
    go_ret
    exact ⟨rfl, _, rfl⟩
end Go.Proofs.YtfhdiimcimafkaaGreatDoor
