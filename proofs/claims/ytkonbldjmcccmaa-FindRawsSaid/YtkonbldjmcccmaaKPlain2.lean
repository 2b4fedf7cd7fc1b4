/- Plain facts, second part: the place of a byte in a rising list. -/
import Derived.Test.YtkonbldjmcccmaaKPlain
set_option linter.unusedVariables false
set_option linter.unusedSimpArgs false
namespace Go.Proofs.Ytkonbldjmcccmaa

def lb (ks : List Nat) (t : Nat) : Nat := (ks.takeWhile (fun k => decide (k < t))).length
theorem lb_le (ks : List Nat) (t : Nat) : lb ks t ≤ ks.length := (List.takeWhile_prefix _).length_le
theorem lb_cut {ks : List Nat} (hs : ks.Pairwise (· < ·)) (t : Nat) : Cut ks t (lb ks t) := by
  induction ks with
  | nil => exact ⟨by simp [lb], by intro p hp; simp [lb] at hp, by intro p _ hp; simp at hp⟩
  | cons a l ih =>
    obtain ⟨ha, hl⟩ := List.pairwise_cons.1 hs
    obtain ⟨h0, h1, h2⟩ := ih hl
    by_cases e : a < t
    · have eq : lb (a :: l) t = lb l t + 1 := by simp [lb, e]
      rw [eq]
      refine ⟨by simp; omega, fun p hp => ?_, fun p hp hpl => ?_⟩
      · cases p with
        | zero => simpa using e
        | succ p => simpa using h1 p (by omega)
      · cases p with
        | zero => omega
        | succ p => simpa using h2 p (by omega) (by simpa using hpl)
    · have eq : lb (a :: l) t = 0 := by simp [lb, e]
      rw [eq]
      refine ⟨by omega, fun p hp => by omega, fun p hp hpl => ?_⟩
      cases p with
      | zero => simpa using e
      | succ p =>
        have hp' : p < l.length := by simpa using hpl
        have := ha (l[p]) (List.getElem_mem hp')
        simp [List.getD, List.getElem?_eq_getElem hp']
        omega
theorem Cut.uniq {ks : List Nat} {t i j : Nat} (hi : Cut ks t i) (hj : Cut ks t j) : i = j := by
  obtain ⟨a0, a1, a2⟩ := hi
  obtain ⟨b0, b1, b2⟩ := hj
  rcases Nat.lt_trichotomy i j with h | h | h
  · have := b1 i h; have := a2 i (Nat.le_refl _) (by omega); omega
  · exact h
  · have := a1 j h; have := b2 j (Nat.le_refl _) (by omega); omega
theorem Cut.lb {ks : List Nat} (hs : ks.Pairwise (· < ·)) {t i : Nat} (h : Cut ks t i) : i = lb ks t := h.uniq (lb_cut hs t)

def KV.keys (l : KV) : List Nat := l.map (·.1)
/-- the place of byte b -/
def pl (l : KV) (b : Nat) : Nat := lb l.keys b
/-- is byte b there -/
def has (l : KV) (b : Nat) : Bool := decide (pl l b < l.length ∧ l.keys.getD (pl l b) 0 = b)
theorem pl_at {l : KV} (hs : Srt l) (b : Nat) : At l b (pl l b) := (lb_cut hs b).at_
theorem pl_le (l : KV) (b : Nat) : pl l b ≤ l.length := by have := lb_le l.keys b; unfold pl; simp [KV.keys] at this ⊢; exact this
theorem keys_length (l : KV) : l.keys.length = l.length := by simp [KV.keys]
theorem has_yes {l : KV} {b : Nat} (h : has l b = true) : pl l b < l.length ∧ l.keys.getD (pl l b) 0 = b := by simpa [has] using h
theorem has_no {l : KV} {b : Nat} (h : has l b = false) : pl l b < l.length → l.keys.getD (pl l b) 0 ≠ b := by
  intro h1 h2; unfold has at h; rw [decide_eq_false_iff_not] at h; exact h ⟨h1, h2⟩
theorem get_has {l : KV} (hs : Srt l) (b : Nat) : (kget l b).isSome = has l b := by
  rw [(pl_at hs b).get hs]
  unfold has
  by_cases h : pl l b < l.length
  · simp only [h, dif_pos, true_and]
    have : l.keys.getD (pl l b) 0 = l[pl l b].1 := by simp [KV.keys, List.getD, List.getElem?_map, List.getElem?_eq_getElem h]
    rw [this]
    split <;> simp_all
  · simp [h]
theorem get_yes {l : KV} (hs : Srt l) {b : Nat} (h : has l b = true) (z : Nat × Value) : kget l b = some (l.getD (pl l b) z).2 := by
  obtain ⟨h1, h2⟩ := has_yes h
  rw [(pl_at hs b).get hs, dif_pos h1]
  have : l.keys.getD (pl l b) 0 = l[pl l b].1 := by simp [KV.keys, List.getD, List.getElem?_map, List.getElem?_eq_getElem h1]
  rw [if_pos (by rw [← this]; exact h2)]
  simp [List.getD, List.getElem?_eq_getElem h1]
theorem get_no {l : KV} (hs : Srt l) {b : Nat} (h : has l b = false) : kget l b = none := by
  have := get_has hs b
  rw [h] at this
  simpa using this
theorem ins_no {l : KV} (hs : Srt l) {b : Nat} (h : has l b = false) (x : Value) : kins l b x = l.take (pl l b) ++ (b, x) :: l.drop (pl l b) := (pl_at hs b).ins hs (has_no h) x
theorem ins_yes {l : KV} (hs : Srt l) {b : Nat} (h : has l b = true) (x : Value) : kins l b x = l.take (pl l b) ++ (b, x) :: l.drop (pl l b + 1) := (pl_at hs b).ins_is hs (has_yes h).1 (has_yes h).2 x
theorem del_yes {l : KV} (hs : Srt l) {b : Nat} (h : has l b = true) : kdel l b = l.take (pl l b) ++ l.drop (pl l b + 1) := (pl_at hs b).del hs (has_yes h).1 (has_yes h).2
theorem del_no {l : KV} (hs : Srt l) {b : Nat} (h : has l b = false) : kdel l b = l := (pl_at hs b).del_none hs (has_no h)
theorem nxt_pl {l : KV} (hs : Srt l) (b : Nat) : knxt l b = l[pl l b]? := by
  have a := pl_at hs b
  unfold knxt
  cases h : l[pl l b]? with
  | none =>
    have hn : l.length ≤ pl l b := by simpa using h
    rw [List.find?_eq_none]
    intro q hq
    obtain ⟨j, hj, rfl⟩ := List.getElem_of_mem hq
    have := a.lo j hj (by omega); simp; omega
  | some y =>
    obtain ⟨hl, rfl⟩ := List.getElem?_eq_some_iff.1 h
    rw [List.find?_eq_some_iff_getElem]
    refine ⟨by have := a.hi _ hl (Nat.le_refl _); simp; omega, _, hl, rfl, fun j hj => ?_⟩
    have := a.lo j (by omega) hj; simp; omega
theorem nxt_neg (l : KV) {f : Int} (hf : f ≤ 0) : knxt l f = knxt l (0 : Nat) := by
  unfold knxt
  congr 1
  funext p
  have h1 : f ≤ (p.1 : Int) := by omega
  have h2 : ((0 : Nat) : Int) ≤ (p.1 : Int) := by omega
  simp [h1]
theorem nxt_high {l : KV} (hl : Low l) {f : Int} (hf : 255 < f) : knxt l f = none := by
  unfold knxt
  rw [List.find?_eq_none]
  intro p hp
  have := hl p hp; simp; omega
theorem nxt_hit {l : KV} (hs : Srt l) {b : Nat} {v : Value} (h : kget l b = some v) : knxt l (b : Nat) = some (b, v) := by
  have hh : has l b = true := by rw [← get_has hs, h]; rfl
  obtain ⟨h1, h2⟩ := has_yes hh
  have e1 : l.keys.getD (pl l b) 0 = l[pl l b].1 := by simp [KV.keys, List.getD, List.getElem?_map, List.getElem?_eq_getElem h1]
  have e2 := get_yes hs hh (0, .nilIface)
  rw [h] at e2
  simp only [List.getD, List.getElem?_eq_getElem h1, Option.getD_some, Option.some.injEq] at e2
  rw [nxt_pl hs, List.getElem?_eq_getElem h1, Option.some.injEq]
  exact Prod.ext (by omega) e2.symm
theorem get_none_ne {l : KV} (hs : Srt l) {b : Nat} (h : kget l b = none) : ∀ p ∈ l, p.1 ≠ b := by
  intro p hp e
  have := (mem_get (b := p.1) (x := p.2) hs).2 hp
  rw [e, h] at this
  simp at this
theorem find_congr' {α : Type} {l : List α} {p q : α → Bool} (h : ∀ x ∈ l, p x = q x) : l.find? p = l.find? q := by
  induction l with
  | nil => rfl
  | cons a t ih =>
    rw [List.find?_cons, List.find?_cons, h a (by simp), ih (fun x hx => h x (by simp [hx]))]
theorem nxt_miss {l : KV} (hs : Srt l) {b : Nat} (h : kget l b = none) : knxt l (b : Nat) = knxt l ((b + 1 : Nat) : Int) := by
  unfold knxt
  refine find_congr' fun p hp => ?_
  have := get_none_ne hs h p hp
  rw [Bool.eq_iff_iff]
  simp
  omega
theorem prv_miss {l : KV} (hs : Srt l) {b : Nat} (h : kget l b = none) : kprv l (b : Nat) = kprv l ((b : Int) - 1) := by
  unfold kprv
  congr 1
  refine List.filter_congr fun p hp => ?_
  have := get_none_ne hs h p hp
  rw [Bool.eq_iff_iff]
  simp
  omega
theorem prv_take {l : KV} (q : Nat × Value → Bool) (i : Nat) (h : l.filter q = l.take i) (hi : i ≤ l.length) : (l.filter q).getLast? = if i = 0 then none else l[i - 1]? := by
  rw [h, List.getLast?_eq_getElem?]
  split
  · rename_i e; subst e; simp
  · rw [List.length_take, List.getElem?_take, if_pos (by omega)]; congr 1; omega
theorem prv_no {l : KV} (hs : Srt l) {b : Nat} (h : has l b = false) : kprv l b = if pl l b = 0 then none else l[pl l b - 1]? := by
  have a := pl_at hs b
  refine prv_take _ _ ?_ a.le
  refine filter_take l _ _ a.le (fun p hp hpi => ?_) (fun p hp hpi => ?_)
  · have := a.lo p hp hpi; simp; omega
  · have h1 := a.hi p hp hpi
    have hil : pl l b < l.length := by omega
    have h2 := has_no h hil
    have : l.keys.getD (pl l b) 0 = l[pl l b].1 := by simp [KV.keys, List.getD, List.getElem?_map, List.getElem?_eq_getElem hil]
    rw [this] at h2
    have h3 := a.hi _ hil (Nat.le_refl _)
    by_cases e : p = pl l b
    · simp only [e]; simp; omega
    · have := hs.lt hp (show pl l b < p by omega); simp; omega
theorem prv_yes {l : KV} (hs : Srt l) {b : Nat} (h : has l b = true) : kprv l b = l[pl l b]? := by
  have a := pl_at hs b
  obtain ⟨h1, h2⟩ := has_yes h
  have e1 : l.keys.getD (pl l b) 0 = l[pl l b].1 := by simp [KV.keys, List.getD, List.getElem?_map, List.getElem?_eq_getElem h1]
  rw [e1] at h2
  have := prv_take (l := l) (fun p => decide ((p.1 : Int) ≤ b)) (pl l b + 1) (filter_take l _ _ (by omega) (fun p hp hpi => ?_) (fun p hp hpi => ?_)) (by omega)
  · unfold kprv; rw [this]; simp
  · by_cases e : p = pl l b
    · simp only [e]; simp; omega
    · have := a.lo p hp (by omega); simp; omega
  · have := hs.lt hp (show pl l b < p by omega); simp; omega
theorem prv_hit {l : KV} (hs : Srt l) {b : Nat} {v : Value} (h : kget l b = some v) : kprv l (b : Nat) = some (b, v) := by
  have hh : has l b = true := by rw [← get_has hs, h]; rfl
  rw [prv_yes hs hh, ← nxt_pl hs, nxt_hit hs h]
theorem prv_neg (l : KV) {f : Int} (hf : f < 0) : kprv l f = none := by
  unfold kprv
  have : l.filter (fun p => decide ((p.1 : Int) ≤ f)) = [] := by rw [List.filter_eq_nil_iff]; intro p _; simp; omega
  rw [this]; rfl
theorem prv_high {l : KV} (hl : Low l) {f : Int} (hf : 255 ≤ f) : kprv l f = kprv l (255 : Nat) := by
  unfold kprv
  congr 1
  apply List.filter_congr
  intro p hp
  have := hl p hp
  have h1 : (p.1 : Int) ≤ f := by omega
  have h2 : (p.1 : Int) ≤ ((255 : Nat) : Int) := by omega
  simp only [h1, h2]
end Go.Proofs.Ytkonbldjmcccmaa
