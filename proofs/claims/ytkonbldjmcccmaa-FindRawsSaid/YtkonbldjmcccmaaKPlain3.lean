/- Sorted lists of bytes and things: what is below a byte; how many there may be; kinds. -/
import Derived.Test.YtkonbldjmcccmaaKKids
set_option linter.unusedVariables false
set_option linter.unusedSimpArgs false
namespace Go.Proofs.Ytkonbldjmcccmaa
def klt (l : KV) (t : Nat) : KV := l.filter (fun p => decide (p.1 < t))
theorem get_klt (l : KV) (t c : Nat) : kget (klt l t) c = if c < t then kget l c else none := by
  unfold kget klt
  rw [List.find?_filter]
  by_cases h : c < t
  · rw [if_pos h]
    congr 1
    apply find_congr'
    intro p _
    by_cases e : p.1 = c
    · subst e; simp [h]
    · simp [e]
  · rw [if_neg h, Option.map_eq_none_iff, List.find?_eq_none]
    intro p _
    by_cases e : p.1 = c
    · subst e; simp [h]
    · simp [e]
theorem Srt.klt {l : KV} (h : Srt l) (t : Nat) : Srt (klt l t) := h.filter _
theorem klt_zero (l : KV) : klt l 0 = [] := by simp [klt]
theorem klt_all {l : KV} {t : Nat} (h : knxt l (t : Nat) = none) : klt l t = l := by
  unfold klt
  rw [List.filter_eq_self]
  intro p hp
  have := List.find?_eq_none.1 h p hp
  simp at this ⊢; omega
theorem klt_len (l : KV) (t : Nat) : (klt l t).length ≤ l.length := List.length_filter_le _ _
theorem nxt_some {l : KV} (hs : Srt l) {t : Int} {b : Nat} {x : Value} (h : knxt l t = some (b, x)) : (b, x) ∈ l ∧ t ≤ b ∧ ∀ p ∈ l, p.1 < b → (p.1 : Int) < t := by
  obtain ⟨h1, us, bs, rfl, h2⟩ := List.find?_eq_some_iff_append.1 h
  refine ⟨by simp, by simpa using h1, ?_⟩
  intro p hp hlt
  have hs2 := (srt_append.1 hs)
  rcases List.mem_append.1 hp with hp | hp
  · have := h2 p hp; simp at this; omega
  · rcases List.mem_cons.1 hp with rfl | hp
    · simp at hlt
    · exfalso
      have h3 : (p.1 :: bs.map (·.1)).length = (p.1 :: bs.map (·.1)).length := rfl
      have h4 : Srt ((b, x) :: bs) := hs2.2.1
      have h5 := (List.pairwise_cons.1 (show List.Pairwise _ _ from h4)).1 p.1 (List.mem_map_of_mem hp)
      simp at h5; omega
theorem klt_ins {l : KV} (hs : Srt l) {t b : Nat} {x : Value} (h : knxt l (t : Nat) = some (b, x)) : kins (klt l t) b x = klt l (b + 1) ∧ has (klt l t) b = false ∧ (klt l t).length < l.length := by
  obtain ⟨h1, h2, h3⟩ := nxt_some hs h
  have h2' : t ≤ b := by omega
  have hno : has (klt l t) b = false := by
    rw [← get_has (hs.klt t), get_klt, if_neg (by omega)]; rfl
  have he : kins (klt l t) b x = klt l (b + 1) := by
    refine ((hs.klt t).ins b x).ext (hs.klt _) fun c => ?_
    rw [get_ins (hs.klt t), get_klt, get_klt]
    by_cases e : c = b
    · subst e; rw [if_pos rfl, if_pos (by omega), (mem_get hs).2 h1]
    · rw [if_neg e]
      by_cases e1 : c < t
      · rw [if_pos e1, if_pos (by omega)]
      · rw [if_neg e1]
        by_cases e2 : c < b + 1
        · rw [if_pos e2]
          cases hk : kget l c with
          | none => rfl
          | some y => have := h3 _ ((mem_get hs).1 hk) (by omega : c < b); simp at this; omega
        · rw [if_neg e2]
  refine ⟨he, hno, ?_⟩
  have : (kins (klt l t) b x).length = (klt l t).length + 1 := by
    rw [ins_no (hs.klt t) hno]; have := pl_le (klt l t) b; simp; omega
  rw [he] at this
  have := klt_len l (b + 1)
  omega
theorem len256 {l : KV} (hs : Srt l) (hl : Low l) : l.length ≤ 256 := by
  by_cases h0 : l.length = 0
  · omega
  · have key : ∀ p, p < l.keys.length → p ≤ l.keys.getD p 0 := by
      intro p
      induction p with
      | zero => intro _; omega
      | succ p ih => intro hp; have := ih (by omega); have := srt_lt hs.keys (p := p) (q := p + 1) (by omega) hp; show p + 1 ≤ _; simp only [KV.keys] at *; omega
    have h1 := key (l.length - 1) (by rw [keys_length]; omega)
    have h2 : l.keys.getD (l.length - 1) 0 < 256 := by
      have hm : l.keys.getD (l.length - 1) 0 = (l[l.length - 1]'(by omega)).1 := by
        simp [KV.keys, List.getD, List.getElem?_eq_getElem (show l.length - 1 < l.length by omega)]
      rw [hm]; exact hl _ (List.getElem_mem _)
    omega
theorem ins_len3 {l : KV} (hs : Srt l) (b : Nat) (x : Value) : (kins l b x).length = if has l b then l.length else l.length + 1 := by
  cases h : has l b with
  | true => rw [ins_yes hs h]; have := has_yes h; simp; omega
  | false => rw [ins_no hs h]; have := pl_le l b; simp; omega
theorem kind_ge {n : Nat} (h : n ≤ 256) : n ≤ kindOf n := by
  unfold kindOf
  by_cases h1 : n ≤ 4
  · rw [if_pos h1]; exact h1
  · by_cases h2 : n ≤ 16
    · rw [if_neg h1, if_pos h2]; exact h2
    · by_cases h3 : n ≤ 48
      · rw [if_neg h1, if_neg h2, if_pos h3]; exact h3
      · rw [if_neg h1, if_neg h2, if_neg h3]; exact h
theorem kind_cases (n : Nat) : kindOf n = 4 ∨ kindOf n = 16 ∨ kindOf n = 48 ∨ kindOf n = 256 := by
  unfold kindOf
  by_cases h1 : n ≤ 4
  · rw [if_pos h1]; exact Or.inl rfl
  · by_cases h2 : n ≤ 16
    · rw [if_neg h1, if_pos h2]; exact Or.inr (Or.inl rfl)
    · by_cases h3 : n ≤ 48
      · rw [if_neg h1, if_neg h2, if_pos h3]; exact Or.inr (Or.inr (Or.inl rfl))
      · rw [if_neg h1, if_neg h2, if_neg h3]; exact Or.inr (Or.inr (Or.inr rfl))
theorem kind_step {n : Nat} (h : n < kindOf n) : kindOf (n + 1) = kindOf n := by
  unfold kindOf at *
  by_cases h1 : n ≤ 4
  · rw [if_pos h1] at h ⊢; rw [if_pos (by omega)]
  · by_cases h2 : n ≤ 16
    · rw [if_neg h1, if_pos h2] at h ⊢; rw [if_neg (by omega), if_pos (by omega)]
    · by_cases h3 : n ≤ 48
      · rw [if_neg h1, if_neg h2, if_pos h3] at h ⊢; rw [if_neg (by omega), if_neg (by omega), if_pos (by omega)]
      · rw [if_neg h1, if_neg h2, if_neg h3] at h ⊢; rw [if_neg (by omega), if_neg (by omega), if_neg (by omega)]
end Go.Proofs.Ytkonbldjmcccmaa
