/- Two and three kids side by side, made since a world w0. -/
import Derived.Test.YtkonbldjmcccmaaKAlive
set_option linter.unusedVariables false
set_option linter.unusedSimpArgs false
namespace Go.Proofs.Ytkonbldjmcccmaa
open Go.RowKit
def Two (w0 w : World) (a : Nat) (la : KV) (b : Nat) (lb : KV) : Prop := ∃ Sa Sb, KidsIn w0 w a la Sa ∧ KidsIn w0 w b lb Sb ∧ (∀ j, Sa j → ¬ Sb j) ∧ Below w0.heap.size w0 w
def Three (w0 w : World) (a : Nat) (la : KV) (b : Nat) (lb : KV) (c : Nat) (lc : KV) : Prop :=
  ∃ Sa Sb Sc, KidsIn w0 w a la Sa ∧ KidsIn w0 w b lb Sb ∧ KidsIn w0 w c lc Sc ∧ (∀ j, Sa j → ¬ Sb j) ∧ (∀ j, Sa j → ¬ Sc j) ∧ (∀ j, Sb j → ¬ Sc j) ∧ Below w0.heap.size w0 w
theorem dis_swap {S T : Nat → Prop} (h : ∀ j, S j → ¬ T j) : ∀ j, T j → ¬ S j := fun j t s => h j s t
theorem below_drewN {B : Nat} {w0 w : World} (h : Below B w0 w) (n : Nat) : Below B w0 (w.drewN n) := ⟨h.os, h.tape, h.output, h.size, h.block⟩
section
variable {w0 w w' : World} {a b c : Nat} {la lb lc l' : KV} {S S' T : Nat → Prop}
theorem KidsIn.lt (h : KidsIn w0 w a la S) : ∀ j, S j → j < w.heap.size := h.1.lt
/-- what is turned stays apart -/
theorem dis_turn (hT : ∀ j, T j → j < w.heap.size) (hd : ∀ j, S j → ¬ T j) (h3 : ∀ j, S' j → S j ∨ w.heap.size ≤ j) : ∀ j, S' j → ¬ T j := fun j hj ht => by
  rcases h3 j hj with e | e
  · exact hd j e ht
  · have := hT j ht; omega
theorem Two.swap (h : Two w0 w a la b lb) : Two w0 w b lb a la := by
  obtain ⟨Sa, Sb, h1, h2, h3, h4⟩ := h
  exact ⟨Sb, Sa, h2, h1, dis_swap h3, h4⟩
theorem Two.drewN (h : Two w0 w a la b lb) (n : Nat) : Two w0 (w.drewN n) a la b lb := by
  obtain ⟨Sa, Sb, h1, h2, h3, h4⟩ := h
  exact ⟨Sa, Sb, h1.drewN n, h2.drewN n, h3, below_drewN h4 n⟩
theorem Two.fst (h : Two w0 w a la b lb) : Solo w0 w a la := by
  obtain ⟨Sa, Sb, h1, h2, h3, h4⟩ := h
  exact ⟨Sa, h1, h4⟩
theorem Two.below (h : Two w0 w a la b lb) : Below w0.heap.size w0 w := by
  obtain ⟨Sa, Sb, h1, h2, h3, h4⟩ := h; exact h4
theorem Three.rot (h : Three w0 w a la b lb c lc) : Three w0 w b lb c lc a la := by
  obtain ⟨Sa, Sb, Sc, h1, h2, h3, d1, d2, d3, h4⟩ := h
  exact ⟨Sb, Sc, Sa, h2, h3, h1, d3, dis_swap d1, dis_swap d2, h4⟩
theorem Three.drewN (h : Three w0 w a la b lb c lc) (n : Nat) : Three w0 (w.drewN n) a la b lb c lc := by
  obtain ⟨Sa, Sb, Sc, h1, h2, h3, d1, d2, d3, h4⟩ := h
  exact ⟨Sa, Sb, Sc, h1.drewN n, h2.drewN n, h3.drewN n, d1, d2, d3, below_drewN h4 n⟩
theorem Three.two (h : Three w0 w a la b lb c lc) : Two w0 w a la b lb := by
  obtain ⟨Sa, Sb, Sc, h1, h2, h3, d1, d2, d3, h4⟩ := h
  exact ⟨Sa, Sb, h1, h2, d1, h4⟩
theorem Three.below (h : Three w0 w a la b lb c lc) : Below w0.heap.size w0 w := h.two.below
theorem Two.turn (Sa Sb : Nat → Prop) (h2 : KidsIn w0 w b lb Sb) (h3 : ∀ j, Sa j → ¬ Sb j) (h4 : Below w0.heap.size w0 w) (hS : ∀ j, Sa j → w0.heap.size ≤ j) (h : TurnsTo w0 w a l' Sa w') : Two w0 w' a l' b lb := by
  obtain ⟨S', q1, q2, q3⟩ := h
  exact ⟨S', Sb, q1, h2.other q2 (dis_swap h3), dis_turn h2.lt h3 q3, below_mod h4 q2 hS⟩
theorem two_set (h : Two w0 w a la b lb) (x : Nat) (hx : x < 256) (v : Int) : Calls Try.prog 83 #[.pointer (some ⟨a, 0, none⟩), .int .u8 x, .int .i64 v] w fun e w' => e = .returned (.int .i64 0) ∧ Two w0 w' a (kins la x (.int .i64 v)) b lb := by
  obtain ⟨Sa, Sb, h1, h2, h3, h4⟩ := h
  exact (ki_set h1 h4.size x hx v).mono fun e w' q => ⟨q.1, Two.turn Sa Sb h2 h3 h4 h1.2.2 q.2⟩
theorem Three.turn (Sa Sb Sc : Nat → Prop) (h2 : KidsIn w0 w b lb Sb) (h3 : KidsIn w0 w c lc Sc) (d1 : ∀ j, Sa j → ¬ Sb j) (d2 : ∀ j, Sa j → ¬ Sc j) (d3 : ∀ j, Sb j → ¬ Sc j) (h4 : Below w0.heap.size w0 w) (hS : ∀ j, Sa j → w0.heap.size ≤ j) (h : TurnsTo w0 w a l' Sa w') : Three w0 w' a l' b lb c lc := by
  obtain ⟨S', q1, q2, q3⟩ := h
  exact ⟨S', Sb, Sc, q1, h2.other q2 (dis_swap d1), h3.other q2 (dis_swap d2), dis_turn h2.lt d1 q3, dis_turn h3.lt d2 q3, d3, below_mod h4 q2 hS⟩
theorem three_set (h : Three w0 w a la b lb c lc) (x : Nat) (hx : x < 256) (v : Int) : Calls Try.prog 83 #[.pointer (some ⟨a, 0, none⟩), .int .u8 x, .int .i64 v] w fun e w' => e = .returned (.int .i64 0) ∧ Three w0 w' a (kins la x (.int .i64 v)) b lb c lc := by
  obtain ⟨Sa, Sb, Sc, h1, h2, h3, d1, d2, d3, h4⟩ := h
  exact (ki_set h1 h4.size x hx v).mono fun e w' q => ⟨q.1, Three.turn Sa Sb Sc h2 h3 d1 d2 d3 h4 h1.2.2 q.2⟩
theorem three_drop (h : Three w0 w a la b lb c lc) (x : Nat) (hx : x < 256) : Calls Try.prog 85 #[.pointer (some ⟨a, 0, none⟩), .int .u8 x] w fun e w' => e = .returned (.int .i64 (if has la x then 0 else 6)) ∧ Three w0 w' a (kdel la x) b lb c lc := by
  obtain ⟨Sa, Sb, Sc, h1, h2, h3, d1, d2, d3, h4⟩ := h
  exact (ki_drop h1 h4.size x hx).mono fun e w' q => ⟨q.1, Three.turn Sa Sb Sc h2 h3 d1 d2 d3 h4 h1.2.2 q.2⟩
theorem two_new (h : Solo w0 w a la) : Calls Try.prog 81 #[] w fun e w' => ∃ b, e = .returned (.pointer (some ⟨b, 0, none⟩)) ∧ Two w0 w' a la b [] := by
  obtain ⟨Sa, h1, h4⟩ := h
  refine (ki_new w0 w h4.size).mono ?_
  rintro e w' ⟨b, Sb, rfl, q1, q2, q3⟩
  exact ⟨b, rfl, Sa, Sb, ⟨h1.1.below q2, h1.2⟩, q1, fun j hj hb => by have := h1.lt j hj; have := q3 j hb; omega, h4.trans (q2.mono h4.size)⟩
theorem three_copy (h : Two w0 w a la b lb) : Calls Try.prog 87 #[.pointer (some ⟨b, 0, none⟩)] w fun e w' => ∃ c, e = .returned (.pointer (some ⟨c, 0, none⟩)) ∧ Three w0 w' a la b lb c lb := by
  obtain ⟨Sa, Sb, h1, h2, h3, h4⟩ := h
  refine (ki_copy h2 h4.size).mono ?_
  rintro e w' ⟨c, Sc, rfl, q1, q2, q3⟩
  exact ⟨c, rfl, Sa, Sb, Sc, ⟨h1.1.below q2, h1.2⟩, ⟨h2.1.below q2, h2.2⟩, q1, h3, fun j hj hb => by have := h1.lt j hj; have := q3 j hb; omega, fun j hj hb => by have := h2.lt j hj; have := q3 j hb; omega, h4.trans (q2.mono h4.size)⟩
theorem so_next (h : Solo w0 w a la) (f : Int) (hlo : -9223372036854775808 ≤ f) (hhi : f ≤ 9223372036854775807) : Calls Try.prog 185 #[.pointer (some ⟨a, 0, none⟩), .int .i64 f] w fun e w' => e = .returned (I.atV (knxt la f)) ∧ ∃ n, w' = w.drewN n := by
  obtain ⟨S, h1, h2⟩ := h; exact I.kd_next h1.1 f hlo hhi
theorem Solo.srt (h : Solo w0 w a la) : Srt la ∧ Low la ∧ I.Vals la := by
  obtain ⟨S, h1, h2⟩ := h
  exact ⟨h1.1.srt.1, h1.1.srt.2.1, h1.2.1⟩
end
/-- the things are just those that f tells -/
def Tells (l : KV) (f : Nat → Option Int) : Prop := ∀ c, kget l c = (f c).map (.int .i64)
theorem Tells.nil : Tells [] (fun _ => none) := fun c => rfl
theorem Tells.ins {l : KV} (hs : Srt l) {f : Nat → Option Int} (h : Tells l f) (b : Nat) (v : Int) : Tells (kins l b (.int .i64 v)) (fun c => if c = b then some v else f c) := fun c => by
  rw [get_ins hs]
  by_cases e : c = b
  · simp [e]
  · simp [e, h c]
theorem Tells.del {l : KV} (hs : Srt l) {f : Nat → Option Int} (h : Tells l f) (b : Nat) : Tells (kdel l b) (fun c => if c = b then none else f c) := fun c => by
  rw [get_del hs]
  by_cases e : c = b
  · simp [e]
  · simp [e, h c]
theorem Tells.uniq {l m : KV} (hl : Srt l) (hm : Srt m) {f : Nat → Option Int} (h : Tells l f) (k : Tells m f) : l = m := hl.ext hm fun b => by rw [h, k]
theorem Tells.congr {l : KV} {f g : Nat → Option Int} (h : Tells l f) (e : ∀ c, f c = g c) : Tells l g := fun c => by rw [h, e]
theorem Tells.vals {l : KV} (hs : Srt l) {f : Nat → Option Int} (h : Tells l f) : ∀ p ∈ l, ∃ v, f p.1 = some v ∧ p.2 = .int .i64 v := fun p hp => by
  have h1 := h p.1
  rw [(mem_get hs).2 (show (p.1, p.2) ∈ l from hp)] at h1
  cases hf : f p.1 with
  | none => rw [hf] at h1; simp at h1
  | some v => rw [hf] at h1; exact ⟨v, rfl, by simpa using h1⟩
end Go.Proofs.Ytkonbldjmcccmaa
