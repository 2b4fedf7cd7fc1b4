/- What the meeting of two spans has; no program. -/
import Derived.Test.YtehamfhblpokbaaDoorU4
set_option linter.unusedVariables false
set_option linter.unusedSimpArgs false
namespace Go.Proofs.YtehamfhblpokbaaDoor
theorem neg_slt {s t : List Nat} : bcmp s t < 0 ↔ slt s t := by
  rcases bcmp_three s t with ⟨h, e⟩ | ⟨h, e⟩ | ⟨h, e⟩
  · simp [e, h]
  · subst h; simp [e, slt_irrefl]
  · have : ¬ slt s t := fun q => slt_irrefl s (slt_trans q h)
    simp [e, this]
theorem pos_slt {s t : List Nat} : 0 < bcmp s t ↔ slt t s := by
  rcases bcmp_three s t with ⟨h, e⟩ | ⟨h, e⟩ | ⟨h, e⟩
  · have : ¬ slt t s := fun q => slt_irrefl s (slt_trans h q)
    simp [e, this]
  · subst h; simp [e, slt_irrefl]
  · simp [e, h]
theorem le_slt {s t : List Nat} : 0 ≤ bcmp s t ↔ ¬ slt s t := by
  rw [← neg_slt]; omega
theorem le_slt' {s t : List Nat} : bcmp s t ≤ 0 ↔ ¬ slt t s := by
  rw [← pos_slt]; omega
theorem hasB_iff {f t : List Nat} {o : Bool} {k : List Nat} : hasB f t o k = true ↔ ¬ slt k f ∧ (o = true ∨ slt k t) := by
  unfold hasB
  simp [neg_slt]
theorem from_iff {f f' k : List Nat} : ¬ slt k (fromL f f') ↔ ¬ slt k f ∧ ¬ slt k f' := by
  unfold fromL
  by_cases h : slt f f'
  · rw [if_pos (pos_slt.2 h)]
    exact ⟨fun q => ⟨fun p => q (slt_trans p h), q⟩, fun q => q.2⟩
  · rw [if_neg (fun q => h (pos_slt.1 q))]
    refine ⟨fun q => ⟨q, fun p => ?_⟩, fun q => q.1⟩
    rcases slt_tri f f' with e | e | e
    · exact h e
    · subst e; exact q p
    · exact q (slt_trans p e)
theorem to_iff {t t' k : List Nat} {o o' : Bool} : (toO t o t' o' = true ∨ slt k (toL t o t' o')) ↔ (o = true ∨ slt k t) ∧ (o' = true ∨ slt k t') := by
  unfold toO toL endsB
  cases o <;> cases o'
  · by_cases h : slt t' t
    · have := neg_slt.2 h
      simp [this]
      exact fun q => slt_trans q h
    · have h2 : ¬ bcmp t' t < 0 := fun q => h (neg_slt.1 q)
      simp [h2]
      intro q
      rcases slt_tri t t' with e | e | e
      · exact slt_trans q e
      · subst e; exact q
      · exact absurd e h
  · simp
  · simp
  · simp
theorem meet_has {f t f' t' k : List Nat} {o o' : Bool} : hasB (fromL f f') (toL t o t' o') (toO t o t' o') k = (hasB f t o k && hasB f' t' o' k) := by
  rw [Bool.eq_iff_iff, Bool.and_eq_true, hasB_iff, hasB_iff, hasB_iff, from_iff, to_iff]
  exact ⟨fun ⟨⟨a, b⟩, c, d⟩ => ⟨⟨a, c⟩, b, d⟩, fun ⟨⟨a, c⟩, b, d⟩ => ⟨⟨a, b⟩, c, d⟩⟩
theorem empty_has {f t k : List Nat} {o : Bool} (h : hasB f t o k = true) : (!o && decide (0 ≤ bcmp f t)) = false := by
  rw [hasB_iff] at h
  cases o with
  | true => rfl
  | false =>
    simp only [Bool.not_false, Bool.true_and, decide_eq_false_iff_not, le_slt, Classical.not_not]
    rcases h.2 with q | q
    · cases q
    · rcases slt_tri f k with e | e | e
      · exact slt_trans e q
      · subst e; exact q
      · exact absurd e h.1
theorem whole_has (k : List Nat) : hasB [] [] true k = true := hasB_iff.2 ⟨not_slt_nil k, Or.inl rfl⟩
theorem from_comm (f f' : List Nat) : fromL f f' = fromL f' f := by
  unfold fromL
  rcases slt_tri f f' with e | e | e
  · rw [if_pos (pos_slt.2 e), if_neg (fun q => slt_irrefl f (slt_trans e (pos_slt.1 q)))]
  · subst e; rfl
  · rw [if_neg (fun q => slt_irrefl f (slt_trans (pos_slt.1 q) e)), if_pos (pos_slt.2 e)]
theorem to_comm (t t' : List Nat) (o o' : Bool) : toL t o t' o' = toL t' o' t o ∧ toO t o t' o' = toO t' o' t o := by
  unfold toO toL endsB
  cases o <;> cases o' <;> simp
  rcases slt_tri t t' with e | e | e
  · rw [if_neg (fun q => slt_irrefl t (slt_trans e (neg_slt.1 q))), if_pos (neg_slt.2 e)]
  · subst e; simp
  · rw [if_pos (neg_slt.2 e), if_neg (fun q => slt_irrefl t (slt_trans (neg_slt.1 q) e))]
/-- both ways of asking -/
theorem has_ref (f t k : List Nat) (o : Bool) : (decide (bcmp f k ≤ 0) && (o || decide (bcmp k t < 0))) = hasB f t o k := by
  unfold hasB
  congr 1
  rw [Bool.eq_iff_iff]
  simp [le_slt', neg_slt, le_slt]
theorem empty_ref (f t : List Nat) (o : Bool) : (!o && decide (bcmp t f ≤ 0)) = (!o && decide (0 ≤ bcmp f t)) := by
  congr 1
  rw [Bool.eq_iff_iff]
  simp [le_slt', le_slt]
end Go.Proofs.YtehamfhblpokbaaDoor
