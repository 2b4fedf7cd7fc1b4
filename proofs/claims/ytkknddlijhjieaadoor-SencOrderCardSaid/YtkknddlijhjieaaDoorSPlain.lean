/- Texts' bytes, plain: escaped noughts, their order; replacing of bytes. No program. -/
import Derived.Test.YtkknddlijhjieaaDoorB0
import Derived.Lib.CountLaws
import Derived.Lib.SplitLaws
set_option linter.unusedVariables false
set_option linter.unusedSimpArgs false
namespace Go.Proofs.YtkknddlijhjieaaDoor
/-- a byte as it is written -/
def esc (x : Nat) : List Nat := if x = 0 then [0, 255] else [x]
def escL (s : List Nat) : List Nat := s.flatMap esc
def putL (s : List Nat) : List Nat := escL s ++ [0, 0]
def othL (s : List Nat) : List Nat := s.map fun x => 255 - x
theorem escL_cons (x : Nat) (s : List Nat) : escL (x :: s) = esc x ++ escL s := by simp [escL]
theorem escL_app (s t : List Nat) : escL (s ++ t) = escL s ++ escL t := by simp [escL]
theorem escL_none {s : List Nat} (h : 0 ∉ s) : escL s = s := by
  induction s with
  | nil => rfl
  | cons x s ih =>
    have hx : x ≠ 0 := fun e => h (by simp [e])
    rw [escL_cons, ih (fun e => h (by simp [e]))]
    simp [esc, hx]
theorem esc_lt {x : Nat} (h : x < 256) : ∀ y ∈ esc x, y < 256 := by unfold esc; split <;> simp <;> omega
theorem escL_lt {s : List Nat} (h : ∀ x ∈ s, x < 256) : ∀ y ∈ escL s, y < 256 := fun y hy => by
  obtain ⟨x, hx, hy⟩ := List.mem_flatMap.1 hy
  exact esc_lt (h x hx) y hy
theorem putL_lt {s : List Nat} (h : ∀ x ∈ s, x < 256) : ∀ y ∈ putL s, y < 256 := fun y hy => by
  rcases List.mem_append.1 hy with e | e
  · exact escL_lt h y e
  · simp at e; omega
theorem escL_len (s : List Nat) : (escL s).length = s.length + s.count 0 := by
  induction s with
  | nil => rfl
  | cons x s ih =>
    rw [escL_cons, List.length_append, ih, List.length_cons, List.count_cons]
    unfold esc
    by_cases e : x = 0
    · subst e; simp; omega
    · simp [e]; omega
/-- the first nought -/
theorem split_nought : ∀ (s : List Nat), 0 ∉ s ∨ ∃ a b, s = a ++ 0 :: b ∧ 0 ∉ a
  | [] => Or.inl (by simp)
  | x :: s => by
    by_cases e : x = 0
    · subst e; exact Or.inr ⟨[], s, rfl, by simp⟩
    · have e' : ¬ 0 = x := fun q => e q.symm
      rcases split_nought s with h | ⟨a, b, rfl, h⟩
      · exact Or.inl (by simp [h, e'])
      · exact Or.inr ⟨x :: a, b, rfl, by simp [h, e']⟩
/-! The order. -/
theorem bcmp_nn : bcmp [] [] = 0 := rfl
theorem bcmp_nc (y : Nat) (ys : List Nat) : bcmp [] (y :: ys) = -1 := by simp [bcmp, lcp]
theorem bcmp_cn (x : Nat) (xs : List Nat) : bcmp (x :: xs) [] = 1 := by simp [bcmp, lcp]
theorem bcmp_same (x : Nat) (xs ys : List Nat) : bcmp (x :: xs) (x :: ys) = bcmp xs ys := by
  simp [bcmp, lcp]
theorem bcmp_lt {x y : Nat} (h : x < y) (xs ys : List Nat) : bcmp (x :: xs) (y :: ys) = -1 := by
  have : x ≠ y := by omega
  simp [bcmp, lcp, this, h]
theorem bcmp_gt {x y : Nat} (h : y < x) (xs ys : List Nat) : bcmp (x :: xs) (y :: ys) = 1 := by
  have h1 : x ≠ y := by omega
  have h2 : ¬ x < y := by omega
  simp [bcmp, lcp, h1, h2]
theorem bcmp_pre (p xs ys : List Nat) : bcmp (p ++ xs) (p ++ ys) = bcmp xs ys := by
  induction p with
  | nil => rfl
  | cons x p ih => simp only [List.cons_append, bcmp_same, ih]
/-- the order of what is put, whatever stands behind -/
theorem putL_cons (x : Nat) (s : List Nat) : putL (x :: s) = esc x ++ putL s := by simp [putL, escL_cons]
theorem put_cmp : ∀ (s t : List Nat), bcmp (putL s) (putL t) = bcmp s t
  | [], [] => rfl
  | [], y :: t => by
    rw [bcmp_nc, putL_cons]
    by_cases e : y = 0
    · subst e; exact (bcmp_same 0 _ _).trans (bcmp_lt (by omega) _ _)
    · simp only [esc, e, if_false, List.singleton_append]; exact bcmp_lt (by omega) _ _
  | x :: s, [] => by
    rw [bcmp_cn, putL_cons]
    by_cases e : x = 0
    · subst e; exact (bcmp_same 0 _ _).trans (bcmp_gt (by omega) _ _)
    · simp only [esc, e, if_false, List.singleton_append]; exact bcmp_gt (by omega) _ _
  | x :: s, y :: t => by
    rw [putL_cons, putL_cons]
    by_cases e : x = y
    · subst e; rw [bcmp_pre, bcmp_same, put_cmp s t]
    · by_cases h : x < y
      · rw [bcmp_lt h]
        by_cases e0 : x = 0
        · subst e0
          have : y ≠ 0 := by omega
          simp only [esc, this, if_true, if_false, List.cons_append, List.nil_append]; exact bcmp_lt (by omega) _ _
        · have : y ≠ 0 := by omega
          simp only [esc, e0, this, if_false, List.singleton_append]; exact bcmp_lt h _ _
      · rw [bcmp_gt (by omega)]
        by_cases e0 : y = 0
        · subst e0
          have : x ≠ 0 := by omega
          simp only [esc, this, if_true, if_false, List.cons_append, List.nil_append]; exact bcmp_gt (by omega) _ _
        · have : x ≠ 0 := by omega
          simp only [esc, e0, this, if_false, List.singleton_append]; exact bcmp_gt (by omega) _ _
/-- the other way round -/
theorem put_oth : ∀ (s t : List Nat), (∀ x ∈ s, x < 256) → (∀ x ∈ t, x < 256) → bcmp (othL (putL s)) (othL (putL t)) = - bcmp s t
  | [], [], _, _ => rfl
  | [], y :: t, _, ht => by
    rw [bcmp_nc, putL_cons]
    by_cases e : y = 0
    · subst e; exact (bcmp_same 255 _ _).trans (bcmp_gt (by (try dsimp only); omega) _ _)
    · have := ht y (by simp)
      simp only [esc, e, if_false, List.singleton_append]; exact bcmp_gt (by (try dsimp only); omega) _ _
  | x :: s, [], hs, _ => by
    rw [bcmp_cn, putL_cons]
    by_cases e : x = 0
    · subst e; exact (bcmp_same 255 _ _).trans (bcmp_lt (by (try dsimp only); omega) _ _)
    · have := hs x (by simp)
      simp only [esc, e, if_false, List.singleton_append]; exact bcmp_lt (by (try dsimp only); omega) _ _
  | x :: s, y :: t, hs, ht => by
    have h1 := hs x (by simp)
    have h2 := ht y (by simp)
    rw [putL_cons, putL_cons, show othL (esc x ++ putL s) = othL (esc x) ++ othL (putL s) from by simp [othL], show othL (esc y ++ putL t) = othL (esc y) ++ othL (putL t) from by simp [othL]]
    by_cases e : x = y
    · subst e; rw [bcmp_pre, bcmp_same, put_oth s t (fun z hz => hs z (by simp [hz])) (fun z hz => ht z (by simp [hz]))]
    · by_cases h : x < y
      · rw [bcmp_lt h]
        by_cases e0 : x = 0
        · subst e0
          have : y ≠ 0 := by omega
          simp only [esc, this, if_true, if_false, othL, List.map_cons, List.map_nil, List.cons_append, List.nil_append]; exact bcmp_gt (by (try dsimp only); omega) _ _
        · have : y ≠ 0 := by omega
          simp only [esc, e0, this, if_false, othL, List.map_cons, List.map_nil, List.singleton_append]; exact bcmp_gt (by (try dsimp only); omega) _ _
      · rw [bcmp_gt (by omega)]
        by_cases e0 : y = 0
        · subst e0
          have : x ≠ 0 := by omega
          simp only [esc, this, if_true, if_false, othL, List.map_cons, List.map_nil, List.cons_append, List.nil_append]; exact bcmp_lt (by (try dsimp only); omega) _ _
        · have : x ≠ 0 := by omega
          simp only [esc, e0, this, if_false, othL, List.map_cons, List.map_nil, List.singleton_append]; exact bcmp_lt (by (try dsimp only); omega) _ _
theorem lcp_pre (p xs ys : List Nat) : lcp (p ++ xs) (p ++ ys) = p.length + lcp xs ys := by
  induction p with
  | nil => simp
  | cons x p ih => simp [lcp, ih]; omega
/-- none are the beginning of another one's -/
theorem put_free : ∀ (s t : List Nat), lcp (putL s) (putL t) = (putL t).length → s = t
  | [], [], _ => rfl
  | [], y :: t, h => by
    rw [putL_cons] at h
    by_cases e : y = 0
    · subst e; simp [esc, putL, escL, lcp] at h
    · have e' : ¬ 0 = y := fun q => e q.symm
      simp [esc, e, putL, escL, lcp, e'] at h
  | x :: s, [], h => by
    rw [putL_cons] at h
    by_cases e : x = 0
    · subst e; simp [esc, putL, escL, lcp] at h
    · simp [esc, e, putL, escL, lcp] at h
  | x :: s, y :: t, h => by
    rw [putL_cons, putL_cons] at h
    by_cases e : x = y
    · subst e
      rw [lcp_pre, List.length_append] at h
      rw [put_free s t (by omega)]
    · exfalso
      by_cases e0 : x = 0
      · subst e0
        have : y ≠ 0 := fun q => e q.symm
        have e' : ¬ 0 = y := e
        simp [esc, this, lcp, e'] at h
      · by_cases e1 : y = 0
        · subst e1; simp [esc, e0, lcp] at h
        · simp [esc, e0, e1, lcp, e] at h
theorem oth_oth {s : List Nat} (h : ∀ x ∈ s, x < 256) : othL (othL s) = s := by
  unfold othL
  rw [List.map_map]
  refine (List.map_congr_left fun x hx => ?_).trans (List.map_id s)
  have := h x hx
  simp; omega
end Go.Proofs.YtkknddlijhjieaaDoor
