/- The statement KidsOrder: its walk. -/
import Derived.Test.YthifjldmhfpkhaaKTrio
set_option linter.unusedVariables false
set_option linter.unusedSimpArgs false
namespace Go.Proofs.Ythifjldmhfpkhaa
open Go.RowKit
theorem ord_take {bs : List Nat} {i : Nat} (hi : i < bs.length) (c : Nat) : c ∈ bs.take (i + 1) ↔ c = bs.getD i 0 ∨ c ∈ bs.take i := by
  rw [List.take_succ_eq_append_getElem hi, List.mem_append, List.mem_singleton]
  have : bs.getD i 0 = bs[i] := by simp [List.getD, hi]
  rw [this]; constructor
  · rintro (h | h)
    · exact Or.inr h
    · exact Or.inl h
  · rintro (h | h)
    · exact Or.inr h
    · exact Or.inl h
theorem ord_drop {bs : List Nat} {i : Nat} (hi : i < bs.length) (c : Nat) : c ∈ bs.drop i ↔ c = bs.getD i 0 ∨ c ∈ bs.drop (i + 1) := by
  rw [List.drop_eq_getElem_cons hi, List.mem_cons]
  have : bs.getD i 0 = bs[i] := by simp [List.getD, hi]
  rw [this]
def oT (bs : List Nat) (i c : Nat) : Option Int := if c ∈ bs.take i then some (c : Int) else none
def oD (bs : List Nat) (i c : Nat) : Option Int := if c ∈ bs.drop (bs.length - i) then some (c : Int) else none
def oU (bs ms : List Nat) (i c : Nat) : Option Int := if c ∈ bs then some (c : Int) else if c ∈ ms.take i then some 7 else none
def oV (bs ms : List Nat) (i c : Nat) : Option Int := if c ∈ bs then some (c : Int) else if c ∈ ms ∧ c ∉ ms.take i then some 7 else none
def oW (bs : List Nat) (c : Nat) : Option Int := if c ∈ bs then some (c : Int) else none
theorem oT_next {bs : List Nat} {i : Nat} (hi : i < bs.length) (c : Nat) : (if c = bs.getD i 0 then some ((bs.getD i 0 : Nat) : Int) else oT bs i c) = oT bs (i + 1) c := by
  unfold oT
  by_cases h : c = bs.getD i 0
  · rw [if_pos h, if_pos ((ord_take hi c).2 (Or.inl h)), h]
  · rw [if_neg h]
    by_cases h2 : c ∈ bs.take i
    · rw [if_pos h2, if_pos ((ord_take hi c).2 (Or.inr h2))]
    · rw [if_neg h2, if_neg (fun e => by rcases (ord_take hi c).1 e with e | e; exact h e; exact h2 e)]
theorem oD_next {bs : List Nat} {i : Nat} (hi : i < bs.length) (c : Nat) : (if c = bs.getD (bs.length - 1 - i) 0 then some ((bs.getD (bs.length - 1 - i) 0 : Nat) : Int) else oD bs i c) = oD bs (i + 1) c := by
  have e : bs.length - (i + 1) = bs.length - 1 - i := by omega
  have e2 : bs.length - i = (bs.length - 1 - i) + 1 := by omega
  have key := ord_drop (bs := bs) (i := bs.length - 1 - i) (by omega) c
  unfold oD
  rw [e, e2]
  by_cases h : c = bs.getD (bs.length - 1 - i) 0
  · rw [if_pos h, if_pos (key.2 (Or.inl h)), h]
  · rw [if_neg h]
    by_cases h2 : c ∈ bs.drop (bs.length - 1 - i + 1)
    · rw [if_pos h2, if_pos (key.2 (Or.inr h2))]
    · rw [if_neg h2, if_neg (fun e => by rcases key.1 e with e | e; exact h e; exact h2 e)]
theorem oU_in {bs ms : List Nat} {i : Nat} (hi : i < ms.length) (hx : ms.getD i 0 ∈ bs) (c : Nat) : oU bs ms i c = oU bs ms (i + 1) c := by
  unfold oU
  by_cases h : c ∈ bs
  · rw [if_pos h, if_pos h]
  · rw [if_neg h, if_neg h]
    have hne : c ≠ ms.getD i 0 := fun e => h (e ▸ hx)
    by_cases h2 : c ∈ ms.take i
    · rw [if_pos h2, if_pos ((ord_take hi c).2 (Or.inr h2))]
    · rw [if_neg h2, if_neg (fun e => by rcases (ord_take hi c).1 e with e | e; exact hne e; exact h2 e)]
theorem oU_out {bs ms : List Nat} {i : Nat} (hi : i < ms.length) (hx : ms.getD i 0 ∉ bs) (c : Nat) : (if c = ms.getD i 0 then some 7 else oU bs ms i c) = oU bs ms (i + 1) c := by
  unfold oU
  by_cases h : c = ms.getD i 0
  · rw [if_pos h, if_neg (h ▸ hx), if_pos ((ord_take hi c).2 (Or.inl h))]
  · rw [if_neg h]
    by_cases h1 : c ∈ bs
    · rw [if_pos h1, if_pos h1]
    · rw [if_neg h1, if_neg h1]
      by_cases h2 : c ∈ ms.take i
      · rw [if_pos h2, if_pos ((ord_take hi c).2 (Or.inr h2))]
      · rw [if_neg h2, if_neg (fun e => by rcases (ord_take hi c).1 e with e | e; exact h e; exact h2 e)]
theorem oV_in {bs ms : List Nat} {i : Nat} (hi : i < ms.length) (hx : ms.getD i 0 ∈ bs) (c : Nat) : oV bs ms i c = oV bs ms (i + 1) c := by
  unfold oV
  by_cases h : c ∈ bs
  · rw [if_pos h, if_pos h]
  · rw [if_neg h, if_neg h]
    have hne : c ≠ ms.getD i 0 := fun e => h (e ▸ hx)
    have : (c ∈ ms ∧ c ∉ ms.take i) ↔ (c ∈ ms ∧ c ∉ ms.take (i + 1)) := by
      rw [ord_take hi]; constructor
      · rintro ⟨p, q⟩; exact ⟨p, fun e => by rcases e with e | e; exact hne e; exact q e⟩
      · rintro ⟨p, q⟩; exact ⟨p, fun e => q (Or.inr e)⟩
    simp only [this]
theorem oV_out {bs ms : List Nat} {i : Nat} (hi : i < ms.length) (hx : ms.getD i 0 ∉ bs) (c : Nat) : (if c = ms.getD i 0 then none else oV bs ms i c) = oV bs ms (i + 1) c := by
  unfold oV
  by_cases h : c = ms.getD i 0
  · rw [if_pos h, if_neg (h ▸ hx), if_neg (fun e => e.2 ((ord_take hi c).2 (Or.inl h)))]
  · rw [if_neg h]
    by_cases h1 : c ∈ bs
    · rw [if_pos h1, if_pos h1]
    · rw [if_neg h1, if_neg h1]
      have : (c ∈ ms ∧ c ∉ ms.take i) ↔ (c ∈ ms ∧ c ∉ ms.take (i + 1)) := by
        rw [ord_take hi]; constructor
        · rintro ⟨p, q⟩; exact ⟨p, fun e => by rcases e with e | e; exact h e; exact q e⟩
        · rintro ⟨p, q⟩; exact ⟨p, fun e => q (Or.inr e)⟩
      simp only [this]
theorem oU_zero (bs ms : List Nat) (c : Nat) : oW bs c = oU bs ms 0 c := by unfold oW oU; simp
theorem oV_zero (bs ms : List Nat) (c : Nat) : oU bs ms ms.length c = oV bs ms 0 c := by unfold oV oU; simp
theorem oV_end (bs ms : List Nat) (c : Nat) : oV bs ms ms.length c = oW bs c := by
  unfold oV oW; simp
theorem oT_end (bs : List Nat) (c : Nat) : oT bs bs.length c = oW bs c := by unfold oT oW; simp
theorem oD_end (bs : List Nat) (c : Nat) : oD bs bs.length c = oW bs c := by unfold oD oW; simp
theorem oT_zero (bs : List Nat) (c : Nat) : none = oT bs 0 c := by unfold oT; simp
theorem oD_zero (bs : List Nat) (c : Nat) : none = oD bs 0 c := by unfold oD; simp
end Go.Proofs.Ythifjldmhfpkhaa
