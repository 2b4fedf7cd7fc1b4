/- Trees that are no canonical ones: what is looked for, the slices of bytes that they are made of; Arguments of rows: slices of bytes in a slice; The law FindRaws. -/
import Derived.Test.YtkonbldjmcccmaaJ3
import Derived.Test.YtkonbldjmcccmaaJ10
import Derived.Test.YtkonbldjmcccmaaNFrz
import Derived.Deep.Slices
import Derived.Test.YtkonbldjmcccmaaJ5
import Derived.Deep.Cut
import Derived.Deep.CutRange
import Derived.Deep.RegionHeld3
set_option linter.unusedVariables false
set_option linter.unusedSimpArgs false
/- Trees that are no canonical ones: what is looked for, the slices of bytes that they are made of. -/
namespace Go.Proofs.Ytkonbldjmcccmaa
open Go.RowKit
set_option maxHeartbeats 2000000 in
set_option maxRecDepth 100000 in
theorem find_getL {w0 w : World} {Q : List NP} {ka : Option Addr} {kn kc : Nat} {k : List Nat} {t : Tr} {v : Option Addr} (hQ : StoreP NoB w0 w Q) (hK : Sl w ka kn kc k) (hT : TreeV Q t (.pointer v)) (hO : TOk t) (hkn : kn ≤ 10000) :
    Calls Try.prog 45 #[.pointer v, .slice ka kn kc] w (belowPost (getVal (tget t k)) w) := by
  obtain ⟨R, hR⟩ : ∃ R, R = tget t k := ⟨_, rfl⟩
  have H0 : Hid (At_ w0 w Q ka kn kc k w.heap.size R t v 0 0 (w.alloc (.cells #[.pointer v, .slice ka kn kc, .int .i64 0, .int .i64 0] wkT))) :=
    ⟨⟨hQ, hK, Nat.le_refl _, (Below.refl _ w).alloc (Nat.le_refl _) _⟩, wk_new w v ka kn kc, hT, hO, by rw [List.drop_zero, hR]⟩
  have hkl := Lib.hid hK.len
  rw [← hR]
  clear hQ hK hT hO hR
  go_enter Try.func45, Try.ntmps45
  go_wp2_with fail
  change Code.wp _ _ _ _ (w.alloc (.cells #[.pointer v, .slice ka kn kc, .int .i64 0, .int .i64 0] wkT))
  generalize (w.alloc (.cells #[.pointer v, .slice ka kn kc, .int .i64 0, .int .i64 0] wkT)) = w1 at *
  go_loopg [12] (kn + 1) (fun g s12 wr => ∃ (t' : Tr) (v' : Option Addr) (at_ st : Nat), at_ + g = kn + 1 ∧ st ≤ at_ ∧ 1 ≤ g ∧ Hid (At_ w0 w Q ka kn kc k w.heap.size R t' v' at_ st wr))
  case atStart => exact ⟨t, v, 0, 0, by omega, by omega, by omega, H0⟩
  case round =>
    clear H0
    obtain ⟨t', v', at_, st, hg, hst, hg1, HA⟩ := hrel
    have hatk : at_ ≤ kn := by omega
    rcases HA.out.tree with ⟨rfl, ev⟩ | ⟨hn, hin⟩
    · obtain rfl : v' = none := by injection ev
      have hI := Lib.hid (into_nil HA.out.wk)
      have hRn : Hid (R = none) := HA.out.get.symm
      have hB := Lib.hid HA.out.way.since
      clear ev
      go_wp2_with (go_at_call 111; refine hI.out.mono ?_; rintro e w2 ⟨rfl, rfl⟩)
      go_ret2
      rw [hRn.out]
      exact ⟨rfl, hB.out⟩
    · cases t' with
      | nil => exact hn.elim
      | kid _ _ _ => exact hn.elim
      | node bs val hs leaf ks =>
        obtain ⟨i, p, _, hi, hv, hbs, hval, hhas, hleaf, hks⟩ := hin
        obtain rfl : v' = some ⟨p.n, 0, none⟩ := by injection hv
        have hI := into_node HA.out.way HA.out.wk hi hatk (by omega) (by omega)
        have hget := HA.out.get
        unfold tget at hget
        obtain ⟨hb8, hv0, hv1, hh0, hlf, hKs, hOk⟩ := HA.out.ok
        rw [← hbs] at hget
        by_cases hpre : p.bs <+: k.drop at_
        · have hlen : at_ + p.bs.length ≤ kn := by
            have := hpre.length_le
            rw [List.length_drop, hkl.out] at this
            omega
          rw [if_pos hpre, List.drop_drop] at hget
          have hI2 : Hid (Calls Try.prog 111 #[.pointer (some ⟨w.heap.size, 0, none⟩)] wr fun e w' => e = .returned (.bool true) ∧ Below w.heap.size wr w' ∧ Wk w' w.heap.size (some ⟨p.n, 0, none⟩) ka kn kc (at_ + p.bs.length) (st + 1)) := hI.mono fun e w' q => by
            unfold intoPost at q
            rw [if_pos hpre] at q
            exact ⟨q.2.2.1, q.2.1, q.2.2.2⟩
          have HA2 := HA
          have hE : Hid (∀ w', Wk w' w.heap.size (some ⟨p.n, 0, none⟩) ka kn kc (at_ + p.bs.length) (st + 1) → Calls Try.prog 112 #[.pointer (some ⟨w.heap.size, 0, none⟩)] w' fun e w'' => e = .returned (.bool (decide (at_ + p.bs.length = kn))) ∧ Wk w'' w.heap.size (some ⟨p.n, 0, none⟩) ka kn kc (at_ + p.bs.length) (st + 1) ∧ Below w.heap.size w' w'') := fun w' hW => (walk_ends hW).mono fun e w'' ⟨e1, q, e2⟩ => ⟨e1, by rw [e2]; exact hW.below (below_drewN (Below.refl _ _) q), by rw [e2]; exact below_drewN (Below.refl _ _) q⟩
          by_cases hend : at_ + p.bs.length = kn
          · have hnil : k.drop (at_ + p.bs.length) = [] := List.drop_of_length_le (by rw [hkl.out]; omega)
            rw [if_pos hnil] at hget
            rw [decide_eq_true hend] at hE
            have hV : Hid (∀ w', Below w.heap.size w w' → Calls Try.prog 17 #[.pointer (some ⟨p.n, 0, none⟩)] w' fun e w'' => e = .returned (getVal R) ∧ w' = w'') := fun w' hw' => by
              obtain ⟨pv, bo, kp, Sk, hd⟩ := (HA.out.way.st.below hw').is hi
              refine (nd_val hd).mono fun e w'' q => ⟨?_, q.2⟩
              rw [q.1, ← hget, hhas]
              cases hs <;> simp [getVal, hval]
            have hB := Lib.hid HA.out.way.since
            unfold getVal at hV
            obtain ⟨r0, hr0⟩ : ∃ r0, r0 = R.getD 0 := ⟨_, rfl⟩
            obtain ⟨r1, hr1⟩ : ∃ r1, r1 = R.isSome := ⟨_, rfl⟩
            have hfin : Hid (∀ w', Below w.heap.size w w' → belowPost (getVal R) w (.returned (.tuple #[.int .u64 r0, .bool r1])) w') := fun w' q => by rw [hr0, hr1]; exact ⟨rfl, q⟩
            rw [← hr0, ← hr1] at hV
            clear hI hget hpre hlen hend hnil hr0 hr1 hv hhas hval hbs hleaf hks hKs
            go_wp2_with (first
              | (go_at_call 17; refine (hV.out _ B3.out).mono ?_; rintro e w4 ⟨rfl, rfl⟩)
              | (go_at_call 112; refine (hE.out _ W2.out).mono ?_; rintro e w3 ⟨rfl, z1, z2⟩; obtain ⟨d0, d1, d2, d3⟩ := z1.c; have B3 := Lib.hid (B2.out.trans z2); clear z1 z2)
              | (go_at_call 111; refine hI2.out.mono ?_; rintro e w2 ⟨rfl, z1, z2⟩; have W2 := Lib.hid z2; have B2 := Lib.hid (hB.out.trans z1); clear z1 z2))
            go_ret2
            exact hfin.out _ B3.out
          · have hne : k.drop (at_ + p.bs.length) ≠ [] := fun e => by
              have := congrArg List.length e
              rw [List.length_drop, hkl.out] at this
              simp at this
              omega
            have hlt : at_ + p.bs.length < k.length := by rw [hkl.out]; omega
            rw [if_neg hne, List.drop_eq_getElem_cons hlt] at hget
            obtain ⟨t2, a2, q1, q2, q3, q4, q5⟩ := kid_find hks hOk hKs (k[at_ + p.bs.length])
            rw [q4] at hget
            rw [decide_eq_false hend] at hE
            have hD : Hid (∀ w', Below w.heap.size w w' → Wk w' w.heap.size (some ⟨p.n, 0, none⟩) ka kn kc (at_ + p.bs.length) (st + 1) → Calls Try.prog 113 #[.pointer (some ⟨w.heap.size, 0, none⟩)] w' fun e w'' => e = .returned (.tuple #[]) ∧ At_ w0 w Q ka kn kc k w.heap.size R t2 a2 (at_ + p.bs.length + 1) (st + 1) w'') := fun w' hw' hW => by
              have hway : Way w0 w Q ka kn kc k w.heap.size w' := ⟨HA.out.way.st, HA.out.way.key, Nat.le_refl _, hw'⟩
              refine (walk_down hway hW hi (by omega) (by omega) (v := a2) (by rw [getD_of_lt hlt]; exact q1)).mono fun e w'' ⟨e1, e2, e3, _⟩ => ⟨e1, hway.next e2, e3, q2, q3, hget⟩
            have hB := Lib.hid HA.out.way.since
            obtain ⟨A2, hA2⟩ : ∃ A2, A2 = at_ + p.bs.length := ⟨_, rfl⟩
            rw [← hA2] at hD hE hI2 hlen hend
            have hm1 : at_ ≤ A2 := by omega
            have hm2 : A2 < kn := by omega
            clear q5 hI hget hpre hlen hend hne hlt hA2 hv hhas hval hbs hleaf hks hKs q1 q2 q3 q4
            go_wp2_with (first
              | (go_at_call 113; refine (hD.out _ B3.out W3.out).mono ?_; rintro e w4 ⟨rfl, z1⟩; have HA4 := Lib.hid z1; clear z1)
              | (go_at_call 112; refine (hE.out _ W2.out).mono ?_; rintro e w3 ⟨rfl, z1, z2⟩; have W3 := Lib.hid z1; have B3 := Lib.hid (B2.out.trans z2); clear z1 z2)
              | (go_at_call 111; refine hI2.out.mono ?_; rintro e w2 ⟨rfl, z1, z2⟩; have W2 := Lib.hid z2; have B2 := Lib.hid (hB.out.trans z1); clear z1 z2))
            go_roundg (kn - A2)
            case measure => omega
            case rel => exact ⟨t2, a2, A2 + 1, st + 1, by omega, by omega, by omega, HA4⟩
        · rw [if_neg hpre] at hget
          have hI2 : Hid (Calls Try.prog 111 #[.pointer (some ⟨w.heap.size, 0, none⟩)] wr fun e w' => e = .returned (.bool false) ∧ Below w.heap.size wr w') := hI.mono fun e w' q => by
            unfold intoPost at q
            rw [if_neg hpre] at q
            exact ⟨q.2.2.1, q.2.1⟩
          have hRn : Hid (R = none) := hget.symm
          have hB := Lib.hid HA.out.way.since
          clear hI hget hpre hv hhas hval hbs hleaf hks hKs
          go_wp2_with (go_at_call 111; refine hI2.out.mono ?_; rintro e w2 ⟨rfl, z1⟩; have B2 := Lib.hid (hB.out.trans z1); clear z1)
          go_ret2
          rw [hRn.out]
          exact ⟨rfl, B2.out⟩
/-- slices of bytes, in a slice -/
structure Sls (w : World) (a : Option Addr) (n c : Nat) (L : List (List Nat)) : Prop where
  len : L.length = n
  cap : n ≤ c
  capm : c ≤ maxLen
  at_ : ∀ i, i < L.length → ∃ p b m d, a = some p ∧ (p.add i).block < w.heap.size ∧ w.cell? (p.add i) = some (.slice b m d) ∧ Sl w b m d (L.getD i [])
theorem Sls.below {w w' : World} {a : Option Addr} {n c : Nat} {L : List (List Nat)} (h : Sls w a n c L) (hb : Below w.heap.size w w') : Sls w' a n c L :=
  ⟨h.len, h.cap, h.capm, fun i hi => by
    obtain ⟨p, b, m, d, q1, q2, q3, q4⟩ := h.at_ i hi
    exact ⟨p, b, m, d, q1, Nat.lt_of_lt_of_le q2 hb.size, (hb.cell q2).trans q3, q4.below hb⟩⟩
theorem elem64 : Try.prog.elem 64 = 27 := by kernel_rfl
theorem run_tail (w : World) (a : Option Addr) (n c : Nat) (h1 : 1 ≤ n) :
    (Instr.slice 64 (.slice a n c) (some (.int .i64 1)) none none).run Try.prog w = .ok (.slice (cutA a c 1 1) (n - 1) (c - 1)) w := by
  have := run_slice_l (P := Try.prog) (w := w) (t := 64) a n c (by rw [elem64]; exact Try.underlying64) .i64 ((1 : Nat) : Int) (by omega) (by omega)
  rw [show ((1 : Nat) : Int) = 1 from rfl] at this
  rw [this]
  have hz : (sizeOf (Try.prog.elem 64)).run Try.prog w = .ok 1 w := by rw [elem64]; exact Try.sizeOf27 w
  rw [hz]
  rfl
theorem Sls.tail {w : World} {a : Option Addr} {n c : Nat} {L : List (List Nat)} (h : Sls w a n c L) (h1 : 1 ≤ n) : Sls w (cutA a c 1 1) (n - 1) (c - 1) L.tail := by
  refine ⟨by rw [List.length_tail, h.len], by have := h.cap; omega, by have := h.capm; omega, fun i hi => ?_⟩
  rw [List.length_tail] at hi
  obtain ⟨p, b, m, d, q1, q2, q3, q4⟩ := h.at_ (i + 1) (by omega)
  have hc : c ≠ 1 := by have := h.cap; have := h.len; omega
  subst q1
  have e : (p.add 1).add i = p.add (i + 1) := by rw [Go.Deep.add_add, Nat.add_comm]
  have e2 : L.tail.getD i [] = L.getD (i + 1) [] := by cases L <;> simp
  refine ⟨p.add 1, b, m, d, ?_, by rw [e]; exact q2, by rw [e]; exact q3, by rw [e2]; exact q4⟩
  unfold cutA
  rw [if_neg hc]
  rfl
theorem Sl.in8 {w : World} {a : Option Addr} {n c : Nat} {bs : List Nat} (h : Sl w a n c bs) (hn : n ≤ 100000) : In8 w a n c bs := ⟨h.len, h.at_, by omega, fun e => (h.nil e).1⟩
/-! The trees. -/
def rawKs (i b : Nat) (p : List Nat) (t : Tr) : Tr :=
  if i % 3 = 0 then (if b = 255 then .kid 0 (.node p ((i + 100 : Nat) : Int) true true .nil) (.kid 255 t .nil) else .kid b t (.kid (b + 1) (.node p ((i + 100 : Nat) : Int) true true .nil) .nil)) else .kid b t .nil
def rawT (i b : Nat) (p : List Nat) (t : Tr) : Tr := .node p (if i % 2 = 0 then ((i + 1 : Nat) : Int) else 0) (decide (i % 2 = 0)) false (rawKs i b p t)
theorem raw_ok {i b : Nat} {p : List Nat} {t : Tr} (hi : i ≤ 1000) (hb : b < 256) (hp : ∀ x ∈ p, x < 256) (hn : IsN t) (ht : TOk t) : TOk (rawT i b p t) := by
  have hl : TOk (.node p ((i + 100 : Nat) : Int) true true .nil) := ⟨hp, by omega, by omega, (fun e => by cases e), fun _ => ⟨rfl, rfl⟩, trivial, trivial⟩
  have hks : IsK (rawKs i b p t) ∧ TOk (rawKs i b p t) := by
    unfold rawKs
    split
    · split
      · exact ⟨trivial, by omega, trivial, hl, trivial, ⟨by omega, hn, ht, trivial, trivial, trivial⟩, (by show 0 < 255; omega)⟩
      · exact ⟨trivial, hb, hn, ht, trivial, ⟨by omega, trivial, hl, trivial, trivial, trivial⟩, (by show b < b + 1; omega)⟩
    · exact ⟨trivial, hb, hn, ht, trivial, trivial, trivial⟩
  refine ⟨hp, ?_, ?_, ?_, (fun e => by cases e), hks.1, hks.2⟩
  · split <;> omega
  · split <;> omega
  · intro e
    have : ¬ i % 2 = 0 := by simpa using e
    rw [if_neg this]
theorem raw_way {i b : Nat} {p : List Nat} {t : Tr} : tway (rawT i b p t) ≤ p.length + 1 + max (tway t) p.length := by
  unfold rawT rawKs
  simp only [tway]
  split
  · split <;> simp only [tway] <;> omega
  · simp only [tway]; omega
theorem raw_len {i b : Nat} {p : List Nat} {t : Tr} : (tl (rawT i b p t)).length ≤ (tl t).length + 2 := by
  have h : (tl (rawKs i b p t)).length ≤ (tl t).length + 1 := by
    unfold rawKs
    split
    · split <;> simp [tl] <;> omega
    · simp [tl]
  unfold rawT
  simp only [tl, List.length_append, pre_length]
  split <;> simp <;> omega
def rawKK (i b q k2 : Nat) : KV := if i % 3 = 0 then (if b = 255 then [(0, .pointer (some ⟨k2, 0, none⟩)), (255, .pointer (some ⟨q, 0, none⟩))] else [(b, .pointer (some ⟨q, 0, none⟩)), (b + 1, .pointer (some ⟨k2, 0, none⟩))]) else [(b, .pointer (some ⟨q, 0, none⟩))]
theorem raw_in {P R : List NP} {t : Tr} {q k k2 : Nat} {i b : Nat} {p : List Nat} (h : TreeIn P 0 t (.pointer (some ⟨q, 0, none⟩)) [])
    (hR : i % 3 = 0 → R = [⟨k2, 1, p, ((i + 100 : Nat) : Int), true, none⟩]) {x : NP} (hx : x = ⟨k, 1, p, if i % 2 = 0 then ((i + 1 : Nat) : Int) else 0, decide (i % 2 = 0), some (rawKK i b q k2)⟩) :
    TreeIn (P ++ [x] ++ R) 0 (rawT i b p t) (.pointer (some ⟨k, 0, none⟩)) [] := by
  subst hx
  have key : ∀ y, TreeIn (P ++ [y] ++ R) 0 (rawKs i b p t) (.pointer none) (rawKK i b q k2) := fun y => by
    have ht : TreeIn (P ++ [y] ++ R) 0 t (.pointer (some ⟨q, 0, none⟩)) [] := by rw [List.append_assoc]; exact h.more _
    unfold rawKs rawKK
    by_cases h3 : i % 3 = 0
    · have hl : TreeIn (P ++ [y] ++ R) 0 (.node p ((i + 100 : Nat) : Int) true true .nil) (.pointer (some ⟨k2, 0, none⟩)) [] := by
        refine ⟨P.length + 1, ⟨k2, 1, p, ((i + 100 : Nat) : Int), true, none⟩, Nat.zero_le _, ?_, rfl, rfl, rfl, rfl, rfl, rfl⟩
        rw [hR h3, List.getElem?_append_right (by simp)]
        simp
      rw [if_pos h3, if_pos h3]
      by_cases h5 : b = 255
      · rw [if_pos h5, if_pos h5]
        exact ⟨_, _, rfl, hl, _, _, rfl, ht, rfl⟩
      · rw [if_neg h5, if_neg h5]
        exact ⟨_, _, rfl, ht, _, _, rfl, hl, rfl⟩
    · rw [if_neg h3, if_neg h3]
      exact ⟨_, _, rfl, ht, rfl⟩
  exact ⟨P.length, _, Nat.zero_le _, by rw [List.append_assoc, List.getElem?_append_right (Nat.le_refl _), Nat.sub_self]; rfl, rfl, rfl, rfl, rfl, rfl, key _⟩
theorem set_last {P : List NP} {x y : NP} {n : Nat} (hn : n = P.length) : (P ++ [x]).set n y = P ++ [y] := by subst hn; simp
theorem set_mid {P : List NP} {x y z : NP} {n : Nat} (hn : n = P.length) : (P ++ [x] ++ [z]).set n y = P ++ [y] ++ [z] := by subst hn; simp
theorem get_last {P : List NP} {x : NP} {n : Nat} (hn : n = P.length) : (P ++ [x])[n]? = some x := by subst hn; simp
theorem get_mid {P : List NP} {x z : NP} {n : Nat} (hn : n = P.length) : (P ++ [x] ++ [z])[n]? = some x := by subst hn; simp
theorem kins_up (b : Nat) (x y : Value) : kins [(b, x)] (b + 1) y = [(b, x), (b + 1, y)] := by simp [kins]
theorem kins_lo (x y : Value) : kins [(255, x)] 0 y = [(0, y), (255, x)] := by simp [kins]
theorem kins_low {b : Nat} (h : b = 255) (x y : Value) : kins [(b, x)] 0 y = [(0, y), (b, x)] := by subst h; simp [kins]
theorem kins_one (b : Nat) (x : Value) : kins [] b x = [(b, x)] := by simp [kins]
end Go.Proofs.Ytkonbldjmcccmaa
/- Arguments of rows: slices of bytes in a slice. -/
namespace Go.Proofs.Ytkonbldjmcccmaa
open Go.ChangeShapes Go.WideShapes Go.ChangeAt Go.RowKit
section
variable {H : Type} {enc : TypeId × Value → H} {w : World} {base : Nat} {held : Bool}
set_option maxRecDepth 100000 in
theorem open_sls {v : Value} {d : DataW H} {ps : List MemPlace} (h : DataW.Trod enc Try.prog w base (fun _ => true) held 64 v d ps) (hv : Value.okWide Try.prog w .any base 64 v) :
    ∃ a n c L, v = .slice a n c ∧ Sls w a n c L := by
  obtain ⟨a0, n0, c0, rfl⟩ := okWide_slice Try.underlying64 hv
  obtain ⟨fuel, h⟩ := h
  have h : DataW.trod enc Try.prog w base (fun _ => true) held fuel 64 [.slice a0 n0 c0] = some (d, ps) := h
  rcases Go.Deep.open_slice1 Try.underlying64 (by kernel_rfl) h with ⟨e, _⟩ | ⟨a, l, c, m, n, V, D, Pl, e, _, hl, hm, hmm, _, hx⟩
  · obtain ⟨rfl, rfl, rfl⟩ : a0 = none ∧ n0 = 0 ∧ c0 = 0 := by simpa using e
    exact ⟨none, 0, 0, [], rfl, rfl, Nat.le_refl _, Nat.zero_le _, fun i hi => by simp at hi⟩
  · obtain ⟨rfl, rfl, rfl⟩ : a0 = some a ∧ n0 = l ∧ c0 = c := by simpa using e
    have hlm : n0 ≤ m := by rw [hmm]; simp only [if_true]; exact hl
    have key : ∀ i, i < n0 → ∃ y : List Nat, ∃ b k c, w.cell? (a.add i) = some (.slice b k c) ∧ Sl w b k c y := fun i hi => by
      obtain ⟨h0, t0⟩ := hx i (by omega)
      obtain ⟨b, k, c, bs, e0, s0⟩ := open_slc t0
      exact ⟨bs, b, k, c, by rw [h0, e0], s0⟩
    obtain ⟨f, hf⟩ := Go.Deep.choose_lt key
    refine ⟨some a, n0, c0, (List.range n0).map f, rfl, by simp, hl, hm, fun i hi => ?_⟩
    have hi' : i < n0 := by simpa using hi
    obtain ⟨b, k, c, q1, q2⟩ := hf i hi'
    refine ⟨a, b, k, c, rfl, cell_lt q1, q1, ?_⟩
    rw [show ((List.range n0).map f).getD i [] = f i by rw [List.getD_eq_getElem?_getD, List.getElem?_eq_getElem (by simpa using hi')]; simp]
    exact q2
end
end Go.Proofs.Ytkonbldjmcccmaa
/- The law FindRaws. -/
namespace Go.Proofs.Ytkonbldjmcccmaa
open Go.RowKit
theorem key_way : ∀ (t : Tr), ∀ p ∈ tl t, p.1.length ≤ tway t
  | .nil, p, h => by simp [tl] at h
  | .kid b t r, p, h => by
    simp only [tl] at h
    simp only [tway]
    rcases List.mem_append.1 h with h | h
    · obtain ⟨q, hq, rfl⟩ := List.mem_map.1 h
      have := key_way t q hq
      simp only [List.singleton_append, List.length_cons]
      omega
    · have := key_way r p h
      omega
  | .node bs v has leaf ks, p, h => by
    simp only [tl] at h
    simp only [tway]
    rcases List.mem_append.1 h with h | h
    · cases has
      · simp at h
      · simp at h; subst h; simp
    · obtain ⟨q, hq, rfl⟩ := List.mem_map.1 h
      have := key_way ks q hq
      simp only [List.length_append]
      omega
theorem plook_one (x : List Nat × Int) (k : List Nat) : plook [x] k = if x.1 = k then some x.2 else none := by
  unfold plook
  by_cases h : x.1 = k <;> simp [h]
theorem plook_take {l : PL} (hs : PSrt l) {i : Nat} (hi : i < l.length) (k : List Nat) : plook (l.take (i + 1)) k = if (l.getD i ([], 0)).1 = k then some (l.getD i ([], 0)).2 else plook (l.take i) k := by
  rw [List.take_succ_eq_append_getElem hi, plook_append, plook_one, getD_of_lt hi]
  by_cases h : (l[i]).1 = k
  · rw [if_pos h, if_pos h]
    have : plook (l.take i) k = none := plook_none fun p hp => by
      obtain ⟨j, hj, rfl⟩ := List.getElem_of_mem hp
      rw [List.length_take] at hj
      rw [List.getElem_take]
      intro e
      have := List.pairwise_iff_getElem.1 hs j i (by simp; omega) (by simpa using hi) (by omega)
      rw [List.getElem_map, List.getElem_map, e, h] at this
      exact slt_irrefl _ this
    rw [this, Option.none_or]
  · rw [if_neg h, if_neg h, Option.or_none]
theorem plook_key {l : PL} (hs : PSrt l) {i : Nat} (hi : i < l.length) : plook l (l.getD i ([], 0)).1 = some (l.getD i ([], 0)).2 := by
  have h1 := plook_take hs hi (l.getD i ([], 0)).1
  rw [if_pos rfl] at h1
  rw [show plook l (l.getD i ([], 0)).1 = plook (l.take (i + 1) ++ l.drop (i + 1)) (l.getD i ([], 0)).1 by rw [List.take_append_drop], plook_append, h1]
  rfl
theorem below_then {a b c : World} (h : Below a.heap.size a b) (z : Below b.heap.size b c) : Below a.heap.size a c := h.trans (z.mono h.size)
theorem below_al (w : World) (o : Obj) : Below w.heap.size w (w.alloc o) := (Below.refl _ w).alloc (Nat.le_refl _) o
theorem add_z (p : Addr) : p.add 0 = p := by simp [Addr.add]
/-- what stands behind so many parts -/
structure RawS (w wr : World) (P : List NP) (t : Tr) (q i : Nat) : Prop where
  st : StoreP NoB w wr P
  tree : TreeIn P 0 t (.pointer (some ⟨q, 0, none⟩)) []
  isN : IsN t
  ok : TOk t
  way : tway t ≤ 300 + 301 * i
  len : (tl t).length ≤ 1 + 2 * i
theorem raw_step {w wr : World} {P R : List NP} {t : Tr} {q k k2 i b : Nat} {p : List Nat} {wr' : World} (h : RawS w wr P t q i) (hi : i ≤ 1000) (hb : b < 256) (hp : ∀ x ∈ p, x < 256) (hl : p.length ≤ 300) {x : NP} (hx : x = ⟨k, 1, p, if i % 2 = 0 then ((i + 1 : Nat) : Int) else 0, decide (i % 2 = 0), some (rawKK i b q k2)⟩) (hR : i % 3 = 0 → R = [⟨k2, 1, p, ((i + 100 : Nat) : Int), true, none⟩]) (hS : StoreP NoB w wr' (P ++ [x] ++ R)) : RawS w wr' (P ++ [x] ++ R) (rawT i b p t) k (i + 1) := by
  refine ⟨hS, raw_in h.tree hR hx, trivial, raw_ok hi hb hp h.isN h.ok, ?_, ?_⟩
  · have := raw_way (i := i) (b := b) (p := p) (t := t); have := h.way; omega
  · have := raw_len (i := i) (b := b) (p := p) (t := t); have := h.len; omega
set_option maxHeartbeats 16000000 in
set_option maxRecDepth 100000 in
theorem FindRaws_any (w : World) (pa : Option Addr) (pn pc : Nat) (L : List (List Nat)) (hP : Sls w pa pn pc L) (ba : Option Addr) (bn bc : Nat) (B : List Nat) (hB : Sl w ba bn bc B) (ka : Option Addr) (kn kc : Nat) (k : List Nat) (hK : Sl w ka kn kc k) : Calls Try.prog 6 #[.slice pa pn pc, .slice ba bn bc, .slice ka kn kc] w (truePost w) := by
  have hal := Lib.hid (fun w => aliveF_any w)
  by_cases c1 : pn = 0
  · subst c1
    clear hP hB hK
    go_enter Try.func6, Try.ntmps6
    go_wp2_with (go_at_call 36; refine (hal.out _).mono ?_; rintro e w2 ⟨rfl, z1⟩; have B2 := Lib.hid z1; clear z1)
    go_ret
    exact ⟨rfl, B2.out⟩
  have d1 : ((pn : Int) == 0) = false := by rw [beq_eq_false_iff_ne]; omega
  by_cases c2 : 20 < pn
  · have e2 : (20 : Int) < (pn : Int) := by omega
    clear hP hB hK
    go_enter Try.func6, Try.ntmps6
    go_wp2_with (go_at_call 36; refine (hal.out _).mono ?_; rintro e w2 ⟨rfl, z1⟩; have B2 := Lib.hid z1; clear z1)
    go_ret
    exact ⟨rfl, B2.out⟩
  have e2 : ¬ (20 : Int) < (pn : Int) := by omega
  by_cases c3 : bn < pn
  · have e3 : (bn : Int) < (pn : Int) := by omega
    clear hP hB hK
    go_enter Try.func6, Try.ntmps6
    go_wp2_with (go_at_call 36; refine (hal.out _).mono ?_; rintro e w2 ⟨rfl, z1⟩; have B2 := Lib.hid z1; clear z1)
    go_ret
    exact ⟨rfl, B2.out⟩
  have e3 : ¬ (bn : Int) < (pn : Int) := by omega
  by_cases c4 : 600 < kn
  · have e4 : (600 : Int) < (kn : Int) := by omega
    clear hP hB hK
    go_enter Try.func6, Try.ntmps6
    go_wp2_with (go_at_call 36; refine (hal.out _).mono ?_; rintro e w2 ⟨rfl, z1⟩; have B2 := Lib.hid z1; clear z1)
    go_ret
    exact ⟨rfl, B2.out⟩
  have e4 : ¬ (600 : Int) < (kn : Int) := by omega
  have HP := Lib.hid hP
  have HB := Lib.hid hB
  have HK := Lib.hid hK
  have hLn := Lib.hid hP.len
  have h00 : Hid (Below w.heap.size w w) := Below.refl _ _
  have hcutT := fun w => run_tail w pa pn pc (by omega)
  clear hP hB hK
  go_enter Try.func6, Try.ntmps6
  go_wp2_with fail
  go_loopw [44] (fun v44 wr => ∃ i : Nat, v44 = .int .i64 (i : Nat) ∧ i ≤ pn ∧ Hid (∀ j, j < i → (L.getD j []).length ≤ 300) ∧ Hid (Below w.heap.size w wr)) (fun v44 _ => (pn - intOf v44).toNat)
  case atStart => exact ⟨0, rfl, by omega, fun j hj => absurd hj (by omega), h00⟩
  case round =>
    clear h00
    obtain ⟨i, rfl, hi, hA, hBw⟩ := hrel
    by_cases hlt : i < pn
    · have l1 : (i : Int) < (pn : Int) := by omega
      have i0 : (0 : Int) ≤ (i : Int) := by omega
      obtain ⟨p, b, m, d, rfl, q2, q3, q4⟩ := (HP.out.below hBw.out).at_ i (by rw [hLn.out]; exact hlt)
      have hml := Lib.hid q4.len
      have hw8 : IntKind.i64.wrap (((i : Nat) : Int) + 1) = ((i + 1 : Nat) : Int) := by rw [show ((i : Nat) : Int) + 1 = ((i + 1 : Nat) : Int) by omega]; exact IntWalk.i64_in _ (by omega)
      by_cases hx : 300 < m
      · have hx2 : (300 : Int) < (m : Int) := by omega
        clear q2 q4
        go_wp2_with (go_at_call 36; refine (hal.out _).mono ?_; rintro e w2 ⟨rfl, z1⟩; have B2 := Lib.hid (hBw.out.trans (z1.mono hBw.out.size)); clear z1)
        go_ret
        exact ⟨rfl, B2.out⟩
      · have hx2 : ¬ (300 : Int) < (m : Int) := by omega
        have hA2 : Hid (∀ j, j < i + 1 → (L.getD j []).length ≤ 300) := fun j hj => by
          by_cases e : j = i
          · rw [e, hml.out]; omega
          · exact hA.out j (by omega)
        clear q2 q4 hA
        go_wp2_with fail
        go_roundw
        case rel => exact ⟨i + 1, (by first | rfl | go_num), by omega, hA2, hBw⟩
        case measure => (simp [intOf]) <;> omega
    · have l1 : ¬ (i : Int) < (pn : Int) := by omega
      obtain rfl : i = pn := by omega
      have hL3 := Lib.hid hA.out
      obtain ⟨p, b0, m0, d0, rfl, q2, q3, q4⟩ := (HP.out.below hBw.out).at_ 0 (by rw [hLn.out]; omega)
      have hm0 : m0 ≤ 300 := by rw [← q4.len]; exact hL3.out 0 (by omega)
      have hSt0 : StoreP NoB w wr [] := StoreP.nil NoB ⟨hBw.out.os, hBw.out.tape, hBw.out.output, hBw.out.size, fun j hj _ => hBw.out.block j hj⟩
      have hLeaf := Lib.hid (sp_leaf0 hSt0 (q4.in8 (by omega)) 1 0)
      have j0 : (0 : Int) < (i : Int) := by omega
      have hp8 := q4.at_.1
      have hpl : (L.getD 0 []).length ≤ 300 := hL3.out 0 (by omega)
      have hR0 : Hid (∀ w1 n, StoreP NoB w w1 ([] ++ [⟨n, 1, L.getD 0 [], 0, true, none⟩]) → RawS w w1 [⟨n, 1, L.getD 0 [], 0, true, none⟩] (.node (L.getD 0 []) 0 true true .nil) n 0) := fun w1 n hs => by
        refine ⟨hs, ⟨0, _, Nat.le_refl _, rfl, rfl, rfl, rfl, rfl, rfl, rfl⟩, trivial, ⟨hp8, by omega, by omega, (fun e => by cases e), fun _ => ⟨rfl, rfl⟩, trivial, trivial⟩, ?_, ?_⟩
        · simp only [tway]; omega
        · simp [tl]
      clear q2 q4 hSt0 hp8 hpl hm0 hA
      rw [add_z] at q3
      obtain ⟨m1, hm1⟩ : ∃ m1, m1 = i - 1 := ⟨_, rfl⟩
      obtain ⟨tA, htA⟩ : ∃ tA, tA = cutA (some p) pc 1 1 := ⟨_, rfl⟩
      obtain ⟨tc, htc⟩ : ∃ tc, tc = pc - 1 := ⟨_, rfl⟩
      rw [← hm1, ← htA, ← htc] at hcutT
      have HT : Hid (Sls w tA m1 tc L.tail) := by rw [htA, htc, hm1]; exact HP.out.tail (by omega)
      have hL4 : Hid (∀ j, j < m1 → (L.tail.getD j []).length ≤ 300) := fun j hj => by
        have := hL3.out (j + 1) (by omega)
        rw [show L.tail.getD j [] = L.getD (j + 1) [] by cases L <;> simp]
        exact this
      have hTl : Hid (L.tail.length = m1) := HT.out.len
      have hm20 : m1 ≤ 19 := by omega
      have hmb : m1 ≤ bn := by omega
      have i1 : (1 : Int) ≤ (i : Int) := by omega
      clear hL3 htA htc
      go_wp2_with (go_at_call 43; refine hLeaf.out.mono ?_; rintro e w1 ⟨n0, rfl, ⟨s1, _⟩, _⟩; have hR1 := Lib.hid (hR0.out w1 n0 s1); clear s1)
      clear q3 hcutT
      go_loopw [60, 9] (fun v60 v9 wq => ∃ (u : Nat) (t : Tr) (q : Nat) (P : List NP), v60 = .int .i64 (u : Nat) ∧ v9 = .pointer (some ⟨q, 0, none⟩) ∧ u ≤ m1 ∧ Hid (RawS w wq P t q u)) (fun v60 _ _ => (m1 - intOf v60).toNat)
      case atStart => exact ⟨0, _, n0, _, rfl, rfl, Nat.zero_le _, hR1⟩
      case round =>
        clear hR1 hR0 hLeaf
        obtain ⟨u, t, q, P, rfl, rfl, hu, hS⟩ := hrel
        have hBq := Lib.hid hS.out.st.below_
        by_cases hlt : u < m1
        · have l1 : (u : Int) < (m1 : Int) := by omega
          have u0 : (0 : Int) ≤ (u : Int) := by omega
          have ub : (u : Int) < (bn : Int) := by omega
          obtain ⟨p', b', m', d', rfl, r2, r3, r4⟩ := HT.out.at_ u (by rw [hTl.out]; exact hlt)
          have hpl := hL4.out u hlt
          generalize L.tail.getD u [] = part at *
          have hp8 := Lib.hid r4.at_.1
          have hm' : Hid (m' ≤ 100000) := by show _ ≤ _; rw [← r4.len]; omega
          have c0 := (hBq.out.cell r2).trans r3
          have HPt := Lib.hid r4
          obtain ⟨pb, rfl, s1, s2⟩ := HB.out.at_.2 u (by rw [HB.out.len]; omega)
          have hb256 : B.getD u 0 < 256 := HB.out.at_.1 _ (mem_getD (by rw [HB.out.len]; omega))
          generalize B.getD u 0 = bt at *
          have hBy : Hid (∀ X, Below w.heap.size w X → X.cell? (pb.add u) = some (.int .u8 (bt : Nat))) := fun X hb => (hb.cell s1).trans s2
          have hInner := Lib.hid (sp_inner0 hS.out.st ((HPt.out.below hBq.out).in8 hm'.out) 1)
          have hb8 := Lib.hid hb256
          have hw8 : IntKind.i64.wrap (((u : Nat) : Int) + 1) = ((u + 1 : Nat) : Int) := by rw [show ((u : Nat) : Int) + 1 = ((u + 1 : Nat) : Int) by omega]; exact IntWalk.i64_in _ (by omega)
          have hwu : IntKind.u64.wrap ((u : Nat) : Int) = (u : Nat) := wrap_u64 (by omega)
          obtain ⟨z1, hz1⟩ : ∃ z : Nat, z = u + 1 := ⟨_, rfl⟩
          obtain ⟨z100, hz100⟩ : ∃ z : Nat, z = u + 100 := ⟨_, rfl⟩
          have hw1 : IntKind.u64.wrap (((u : Nat) : Int) + 1) = (z1 : Int) := by rw [show ((u : Nat) : Int) + 1 = ((z1 : Nat) : Int) by omega]; exact wrap_u64 (by omega)
          have hw100 : IntKind.u64.wrap (((u : Nat) : Int) + 100) = (z100 : Int) := by rw [show ((u : Nat) : Int) + 100 = ((z100 : Nat) : Int) by omega]; exact wrap_u64 (by omega)
          have hZ : Hid (∀ n : Nat, n = u → z1 = n + 1 ∧ z100 = n + 100) := fun n e => by subst e; exact ⟨hz1, hz100⟩
          clear hz1 hz100
          have ht2 : Int.tmod (u : Int) 2 = ((u % 2 : Nat) : Int) := rfl
          have ht3 : Int.tmod (u : Int) 3 = ((u % 3 : Nat) : Int) := rfl
          clear r2 r3 r4 s1 s2 hb256
          have hpl := Lib.hid hpl
          by_cases h2 : u % 2 = 0
          · rw [h2] at ht2
            have ht2 : Int.tmod (u : Int) 2 = 0 := ht2
            have H2 := Lib.hid h2
            clear h2
            by_cases h3 : u % 3 = 0
            · rw [h3] at ht3
              have ht3 : Int.tmod (u : Int) 3 = 0 := ht3
              have H3 := Lib.hid h3
              clear h3
              by_cases h5 : bt = 255
              · have hwb : IntKind.u8.wrap ((bt : Int) + 1) = 0 := by rw [h5]; rfl
                have H5 : Hid (∀ n : Nat, n = 255 → bt = n) := fun n e => by rw [e, h5]
                clear h5
                go_wp2_with (first
                  | (go_at_call 27; have hg := hS2; refine hS2.out.mono ?_; rintro e w5 ⟨rfl, s5, z⟩
                     rw [set_mid rfl, kins_low (H5.out 255 rfl)] at s5
                     have T2 := Lib.hid s5
                     have y4 := hBy.out w5 s5.below_
                     clear s5 z)
                  | (go_at_call 27; have hg := hSK; refine hSK.out.mono ?_; rintro e w2 ⟨rfl, s2, z⟩
                     rw [set_last rfl, kins_one] at s2
                     have T2 := Lib.hid s2
                     have y2 := hBy.out w2 s2.below_
                     have hSV := Lib.hid (sp_setval s2 (get_last rfl) 1 ((z1 : Nat) : Int) (by simp))
                     clear s2 z hSK)
                  | (go_at_call 25; refine hSV.out.mono ?_; rintro e w3 ⟨rfl, s3, z⟩
                     rw [set_last rfl] at s3
                     have T2 := Lib.hid s3
                     have y2 := hBy.out w3 s3.below_
                     have hLf := Lib.hid (sp_leaf0 (s3.below (Below.refl _ _).drew) ((HPt.out.below (s3.below (Below.refl _ _).drew).below_).in8 hm'.out) 1 ((z100 : Nat) : Int))
                     clear s3 z)
                  | (go_at_call 44; refine hInner.out.mono ?_; rintro e w1 ⟨k1, rfl, ⟨s1, z1⟩, z2⟩
                     have y1 := hBy.out w1 s1.below_
                     have hSK := Lib.hid (sp_setkid s1 (get_last rfl) rfl 1 (by simp) bt hb8.out ⟨q, 0, none⟩)
                     clear s1 z1 z2))
                have T3 := T2
                have Y2 := Lib.hid y2
                go_region_held3 (fun w' => w'.cell? (pb.add u) = some (.int .u8 (bt : Nat))) (first | exact y4 | exact y3 | exact y2 | go_keep)
                  (first
                    | (go_simp; go_at_call 27; have hg := hS2; refine hS2.out.mono ?_; rintro e w5 ⟨rfl, s5, z⟩
                       rw [set_mid rfl, kins_low (H5.out 255 rfl)] at s5
                       have T2 := Lib.hid s5
                       have y4 := hBy.out w5 s5.below_
                       clear s5 z)
                    | (go_simp; go_at_call 43; refine hLf.out.mono ?_; rintro e w4 ⟨k2, rfl, ⟨s4, _⟩, z4⟩
                       have y3 := hBy.out w4 s4.below_
                       have hS2 := Lib.hid (sp_setkid s4 (get_mid rfl) rfl 1 (by simp) 0 (by omega) ⟨k2, 0, none⟩)
                       clear s4 z4))
                all_goals
                  (try simp only [Exit.then, Exit.inBlock])
                  go_wp2_with fail
                go_roundw
                case rel => exact ⟨u + 1, rawT u bt part t, k1, P ++ [⟨k1, 1, part, (z1 : Int), true, some [(0, .pointer (some ⟨k2, 0, none⟩)), (bt, .pointer (some ⟨q, 0, none⟩))]⟩] ++ [⟨k2, 1, part, (z100 : Int), true, none⟩], (by first | rfl | go_num), rfl, by omega, raw_step hS.out (by omega) hb8.out hp8.out hpl.out (k2 := k2) (by have h2 := H2.out; have h3 := H3.out; have e1 := (hZ.out u rfl).1; have h5 := H5.out 255 rfl; simp [h2, h3, e1, rawKK, h5]) (fun e => by first | rw [(hZ.out u rfl).2] | exact absurd e H3.out) (by first | exact T2.out | (rw [List.append_nil]; exact T2.out))⟩
                case measure => (simp [intOf]) <;> omega
              · have hb1 : Hid (bt + 1 < 256) := by show _ < _; have := hb8.out; omega
                have hwb : IntKind.u8.wrap ((bt : Int) + 1) = ((bt + 1 : Nat) : Int) := by rw [show (bt : Int) + 1 = ((bt + 1 : Nat) : Int) by omega]; exact wrap_u8 hb1.out
                go_wp2_with (first
                  | (go_at_call 27; have hg := hS2; refine hS2.out.mono ?_; rintro e w5 ⟨rfl, s5, z⟩
                     rw [set_mid rfl, kins_up] at s5
                     have T2 := Lib.hid s5
                     have y4 := hBy.out w5 s5.below_
                     clear s5 z)
                  | (go_at_call 27; have hg := hSK; refine hSK.out.mono ?_; rintro e w2 ⟨rfl, s2, z⟩
                     rw [set_last rfl, kins_one] at s2
                     have T2 := Lib.hid s2
                     have y2 := hBy.out w2 s2.below_
                     have hSV := Lib.hid (sp_setval s2 (get_last rfl) 1 ((z1 : Nat) : Int) (by simp))
                     clear s2 z hSK)
                  | (go_at_call 25; refine hSV.out.mono ?_; rintro e w3 ⟨rfl, s3, z⟩
                     rw [set_last rfl] at s3
                     have T2 := Lib.hid s3
                     have y2 := hBy.out w3 s3.below_
                     have hLf := Lib.hid (sp_leaf0 (s3.below (Below.refl _ _).drew) ((HPt.out.below (s3.below (Below.refl _ _).drew).below_).in8 hm'.out) 1 ((z100 : Nat) : Int))
                     clear s3 z)
                  | (go_at_call 44; refine hInner.out.mono ?_; rintro e w1 ⟨k1, rfl, ⟨s1, z1⟩, z2⟩
                     have y1 := hBy.out w1 s1.below_
                     have hSK := Lib.hid (sp_setkid s1 (get_last rfl) rfl 1 (by simp) bt hb8.out ⟨q, 0, none⟩)
                     clear s1 z1 z2))
                have T3 := T2
                have Y2 := Lib.hid y2
                go_region_held3 (fun w' => w'.cell? (pb.add u) = some (.int .u8 (bt : Nat))) (first | exact y4 | exact y3 | exact y2 | go_keep)
                  (first
                    | (go_simp; go_at_call 27; have hg := hS2; refine hS2.out.mono ?_; rintro e w5 ⟨rfl, s5, z⟩
                       rw [set_mid rfl, kins_up] at s5
                       have T2 := Lib.hid s5
                       have y4 := hBy.out w5 s5.below_
                       clear s5 z)
                    | (go_simp; go_at_call 43; refine hLf.out.mono ?_; rintro e w4 ⟨k2, rfl, ⟨s4, _⟩, z4⟩
                       have y3 := hBy.out w4 s4.below_
                       have hS2 := Lib.hid (sp_setkid s4 (get_mid rfl) rfl 1 (by simp) (bt + 1) hb1.out ⟨k2, 0, none⟩)
                       clear s4 z4))
                all_goals
                  (try simp only [Exit.then, Exit.inBlock])
                  go_wp2_with fail
                go_roundw
                case rel => exact ⟨u + 1, rawT u bt part t, k1, P ++ [⟨k1, 1, part, (z1 : Int), true, some [(bt, .pointer (some ⟨q, 0, none⟩)), (bt + 1, .pointer (some ⟨k2, 0, none⟩))]⟩] ++ [⟨k2, 1, part, (z100 : Int), true, none⟩], (by first | rfl | go_num), rfl, by omega, raw_step hS.out (by omega) hb8.out hp8.out hpl.out (k2 := k2) (by have h2 := H2.out; have h3 := H3.out; have e1 := (hZ.out u rfl).1; simp [h2, h3, e1, rawKK, h5]) (fun e => by first | rw [(hZ.out u rfl).2] | exact absurd e H3.out) (by first | exact T2.out | (rw [List.append_nil]; exact T2.out))⟩
                case measure => (simp [intOf]) <;> omega
            · have hn3 : ((u % 3 : Nat) : Int) ≠ 0 := by omega
              have H3 := Lib.hid h3
              obtain ⟨r3, hr3⟩ : ∃ r3 : Int, r3 = ((u % 3 : Nat) : Int) := ⟨_, rfl⟩
              rw [← hr3] at ht3 hn3
              have hn3' : (r3 == 0) = false := by rw [beq_eq_false_iff_ne]; exact hn3
              clear h3 hr3
              go_wp2_with (first
                | (go_at_call 27; have hg := hSK; refine hSK.out.mono ?_; rintro e w2 ⟨rfl, s2, z⟩
                   rw [set_last rfl, kins_one] at s2
                   have T2 := Lib.hid s2
                   have y2 := hBy.out w2 s2.below_
                   have hSV := Lib.hid (sp_setval s2 (get_last rfl) 1 ((z1 : Nat) : Int) (by simp))
                   clear s2 z hSK)
                | (go_at_call 25; refine hSV.out.mono ?_; rintro e w3 ⟨rfl, s3, z⟩
                   rw [set_last rfl] at s3
                   have T2 := Lib.hid s3
                   have y2 := hBy.out w3 s3.below_
                   clear s3 z)
                | (go_at_call 44; refine hInner.out.mono ?_; rintro e w1 ⟨k1, rfl, ⟨s1, z1⟩, z2⟩
                   have y1 := hBy.out w1 s1.below_
                   have hSK := Lib.hid (sp_setkid s1 (get_last rfl) rfl 1 (by simp) bt hb8.out ⟨q, 0, none⟩)
                   clear s1 z1 z2))
              go_roundw
              case rel => exact ⟨u + 1, rawT u bt part t, k1, P ++ [⟨k1, 1, part, (z1 : Int), true, some [(bt, .pointer (some ⟨q, 0, none⟩))]⟩] ++ [], (by first | rfl | go_num), rfl, by omega, raw_step hS.out (by omega) hb8.out hp8.out hpl.out (k2 := 0) (by have h2 := H2.out; have h3 := H3.out; have e1 := (hZ.out u rfl).1; simp [h2, h3, e1, rawKK]) (fun e => by first | rw [(hZ.out u rfl).2] | exact absurd e H3.out) (by first | exact T2.out | (rw [List.append_nil]; exact T2.out))⟩
              case measure => (simp [intOf]) <;> omega
          · have e2 : u % 2 = 1 := by omega
            rw [e2] at ht2
            have ht2 : Int.tmod (u : Int) 2 = 1 := ht2
            have H2 := Lib.hid h2
            clear h2 e2
            by_cases h3 : u % 3 = 0
            · rw [h3] at ht3
              have ht3 : Int.tmod (u : Int) 3 = 0 := ht3
              have H3 := Lib.hid h3
              clear h3
              by_cases h5 : bt = 255
              · have hwb : IntKind.u8.wrap ((bt : Int) + 1) = 0 := by rw [h5]; rfl
                have H5 : Hid (∀ n : Nat, n = 255 → bt = n) := fun n e => by rw [e, h5]
                clear h5
                go_wp2_with (first
                  | (go_at_call 27; have hg := hS2; refine hS2.out.mono ?_; rintro e w5 ⟨rfl, s5, z⟩
                     rw [set_mid rfl, kins_low (H5.out 255 rfl)] at s5
                     have T2 := Lib.hid s5
                     have y4 := hBy.out w5 s5.below_
                     clear s5 z)
                  | (go_at_call 27; have hg := hSK; refine hSK.out.mono ?_; rintro e w2 ⟨rfl, s2, z⟩
                     rw [set_last rfl, kins_one] at s2
                     have T2 := Lib.hid s2
                     have y2 := hBy.out w2 s2.below_
                     have hLf := Lib.hid (sp_leaf0 (s2.below (Below.refl _ _).drew) ((HPt.out.below (s2.below (Below.refl _ _).drew).below_).in8 hm'.out) 1 ((z100 : Nat) : Int))
                     clear s2 z hSK)
                  | (go_at_call 44; refine hInner.out.mono ?_; rintro e w1 ⟨k1, rfl, ⟨s1, z1⟩, z2⟩
                     have y1 := hBy.out w1 s1.below_
                     have hSK := Lib.hid (sp_setkid s1 (get_last rfl) rfl 1 (by simp) bt hb8.out ⟨q, 0, none⟩)
                     clear s1 z1 z2))
                have T3 := T2
                have Y2 := Lib.hid y2
                go_region_held3 (fun w' => w'.cell? (pb.add u) = some (.int .u8 (bt : Nat))) (first | exact y4 | exact y3 | exact y2 | go_keep)
                  (first
                    | (go_simp; go_at_call 27; have hg := hS2; refine hS2.out.mono ?_; rintro e w5 ⟨rfl, s5, z⟩
                       rw [set_mid rfl, kins_low (H5.out 255 rfl)] at s5
                       have T2 := Lib.hid s5
                       have y4 := hBy.out w5 s5.below_
                       clear s5 z)
                    | (go_simp; go_at_call 43; refine hLf.out.mono ?_; rintro e w4 ⟨k2, rfl, ⟨s4, _⟩, z4⟩
                       have y3 := hBy.out w4 s4.below_
                       have hS2 := Lib.hid (sp_setkid s4 (get_mid rfl) rfl 1 (by simp) 0 (by omega) ⟨k2, 0, none⟩)
                       clear s4 z4))
                all_goals
                  (try simp only [Exit.then, Exit.inBlock])
                  go_wp2_with fail
                go_roundw
                case rel => exact ⟨u + 1, rawT u bt part t, k1, P ++ [⟨k1, 1, part, 0, false, some [(0, .pointer (some ⟨k2, 0, none⟩)), (bt, .pointer (some ⟨q, 0, none⟩))]⟩] ++ [⟨k2, 1, part, (z100 : Int), true, none⟩], (by first | rfl | go_num), rfl, by omega, raw_step hS.out (by omega) hb8.out hp8.out hpl.out (k2 := k2) (by have h2 := H2.out; have h3 := H3.out; have e1 := (hZ.out u rfl).1; have h5 := H5.out 255 rfl; simp [h2, h3, e1, rawKK, h5]) (fun e => by first | rw [(hZ.out u rfl).2] | exact absurd e H3.out) (by first | exact T2.out | (rw [List.append_nil]; exact T2.out))⟩
                case measure => (simp [intOf]) <;> omega
              · have hb1 : Hid (bt + 1 < 256) := by show _ < _; have := hb8.out; omega
                have hwb : IntKind.u8.wrap ((bt : Int) + 1) = ((bt + 1 : Nat) : Int) := by rw [show (bt : Int) + 1 = ((bt + 1 : Nat) : Int) by omega]; exact wrap_u8 hb1.out
                go_wp2_with (first
                  | (go_at_call 27; have hg := hS2; refine hS2.out.mono ?_; rintro e w5 ⟨rfl, s5, z⟩
                     rw [set_mid rfl, kins_up] at s5
                     have T2 := Lib.hid s5
                     have y4 := hBy.out w5 s5.below_
                     clear s5 z)
                  | (go_at_call 27; have hg := hSK; refine hSK.out.mono ?_; rintro e w2 ⟨rfl, s2, z⟩
                     rw [set_last rfl, kins_one] at s2
                     have T2 := Lib.hid s2
                     have y2 := hBy.out w2 s2.below_
                     have hLf := Lib.hid (sp_leaf0 (s2.below (Below.refl _ _).drew) ((HPt.out.below (s2.below (Below.refl _ _).drew).below_).in8 hm'.out) 1 ((z100 : Nat) : Int))
                     clear s2 z hSK)
                  | (go_at_call 44; refine hInner.out.mono ?_; rintro e w1 ⟨k1, rfl, ⟨s1, z1⟩, z2⟩
                     have y1 := hBy.out w1 s1.below_
                     have hSK := Lib.hid (sp_setkid s1 (get_last rfl) rfl 1 (by simp) bt hb8.out ⟨q, 0, none⟩)
                     clear s1 z1 z2))
                have T3 := T2
                have Y2 := Lib.hid y2
                go_region_held3 (fun w' => w'.cell? (pb.add u) = some (.int .u8 (bt : Nat))) (first | exact y4 | exact y3 | exact y2 | go_keep)
                  (first
                    | (go_simp; go_at_call 27; have hg := hS2; refine hS2.out.mono ?_; rintro e w5 ⟨rfl, s5, z⟩
                       rw [set_mid rfl, kins_up] at s5
                       have T2 := Lib.hid s5
                       have y4 := hBy.out w5 s5.below_
                       clear s5 z)
                    | (go_simp; go_at_call 43; refine hLf.out.mono ?_; rintro e w4 ⟨k2, rfl, ⟨s4, _⟩, z4⟩
                       have y3 := hBy.out w4 s4.below_
                       have hS2 := Lib.hid (sp_setkid s4 (get_mid rfl) rfl 1 (by simp) (bt + 1) hb1.out ⟨k2, 0, none⟩)
                       clear s4 z4))
                all_goals
                  (try simp only [Exit.then, Exit.inBlock])
                  go_wp2_with fail
                go_roundw
                case rel => exact ⟨u + 1, rawT u bt part t, k1, P ++ [⟨k1, 1, part, 0, false, some [(bt, .pointer (some ⟨q, 0, none⟩)), (bt + 1, .pointer (some ⟨k2, 0, none⟩))]⟩] ++ [⟨k2, 1, part, (z100 : Int), true, none⟩], (by first | rfl | go_num), rfl, by omega, raw_step hS.out (by omega) hb8.out hp8.out hpl.out (k2 := k2) (by have h2 := H2.out; have h3 := H3.out; have e1 := (hZ.out u rfl).1; simp [h2, h3, e1, rawKK, h5]) (fun e => by first | rw [(hZ.out u rfl).2] | exact absurd e H3.out) (by first | exact T2.out | (rw [List.append_nil]; exact T2.out))⟩
                case measure => (simp [intOf]) <;> omega
            · have hn3 : ((u % 3 : Nat) : Int) ≠ 0 := by omega
              have H3 := Lib.hid h3
              obtain ⟨r3, hr3⟩ : ∃ r3 : Int, r3 = ((u % 3 : Nat) : Int) := ⟨_, rfl⟩
              rw [← hr3] at ht3 hn3
              have hn3' : (r3 == 0) = false := by rw [beq_eq_false_iff_ne]; exact hn3
              clear h3 hr3
              go_wp2_with (first
                | (go_at_call 27; have hg := hSK; refine hSK.out.mono ?_; rintro e w2 ⟨rfl, s2, z⟩
                   rw [set_last rfl, kins_one] at s2
                   have T2 := Lib.hid s2
                   have y2 := hBy.out w2 s2.below_
                   clear s2 z hSK)
                | (go_at_call 44; refine hInner.out.mono ?_; rintro e w1 ⟨k1, rfl, ⟨s1, z1⟩, z2⟩
                   have y1 := hBy.out w1 s1.below_
                   have hSK := Lib.hid (sp_setkid s1 (get_last rfl) rfl 1 (by simp) bt hb8.out ⟨q, 0, none⟩)
                   clear s1 z1 z2))
              go_roundw
              case rel => exact ⟨u + 1, rawT u bt part t, k1, P ++ [⟨k1, 1, part, 0, false, some [(bt, .pointer (some ⟨q, 0, none⟩))]⟩] ++ [], (by first | rfl | go_num), rfl, by omega, raw_step hS.out (by omega) hb8.out hp8.out hpl.out (k2 := 0) (by have h2 := H2.out; have h3 := H3.out; have e1 := (hZ.out u rfl).1; simp [h2, h3, e1, rawKK]) (fun e => by first | rw [(hZ.out u rfl).2] | exact absurd e H3.out) (by first | exact T2.out | (rw [List.append_nil]; exact T2.out))⟩
              case measure => (simp [intOf]) <;> omega
        · have l1 : ¬ (u : Int) < (m1 : Int) := by omega
          obtain rfl : u = m1 := by omega
          have hTV : TreeV P t (.pointer (some ⟨q, 0, none⟩)) := Or.inr ⟨hS.out.isN, hS.out.tree⟩
          have hway : tway t ≤ 6100 := by have := hS.out.way; omega
          have hlen : (tl t).length ≤ 2000 := by have := hS.out.len; omega
          have hsrt := Lib.hid (tl_srt t hS.out.ok)
          have hkey := Lib.hid (key_way t)
          have hGet : Hid (∀ X, Below wr.heap.size wr X → ∀ {ka : Option Addr} {kn kc : Nat} {key : List Nat}, Sl X ka kn kc key → kn ≤ 10000 → Calls Try.prog 45 #[.pointer (some ⟨q, 0, none⟩), .slice ka kn kc] X (belowPost (.tuple #[.int .u64 ((plook (tl t) key).getD 0), .bool (plook (tl t) key).isSome]) X)) := fun X hb _ _ _ key hk hn => by
            have := find_getL (hS.out.st.below hb) hk hTV hS.out.ok hn
            rw [tget_look t key hS.out.ok] at this
            exact this
          have hList : Hid (∀ X, Below wr.heap.size wr X → Calls Try.prog 46 #[.pointer (some ⟨q, 0, none⟩)] X (prsPost (tl t) X)) := fun X hb => list_any (hS.out.st.below hb) hTV hS.out.ok (by omega) hlen
          have hkl : Hid (∀ j, j < (tl t).length → ((tl t).getD j ([], 0)).1.length ≤ 10000) := fun j hj => by
            have := hkey.out ((tl t).getD j ([], 0)) (mem_getD hj)
            omega
          have hKw := Lib.hid (HK.out.below hBq.out)
          have hkn6 : Hid (kn ≤ 10000) := by show _ ≤ _; omega
          have hSame : Hid (∀ X a n c s b m d t, Sl X a n c s → Sl X b m d t → Calls Try.prog 47 #[.slice a n c, .slice b m d] X fun e w' => e = .returned (.bool (decide (s = t))) ∧ Below X.heap.size X w') := fun X a n c s b m d t h1 h2 => (quiet_same h1 h2 0).mono fun e w' ⟨q1, p, q2⟩ => ⟨q1, by rw [q2]; exact below_drewN (Below.refl _ _) _⟩
          clear hTV hway hkey hS
          generalize tl t = l at *
          have hGk := Lib.hid (hGet.out wr (Below.refl _ _) hKw.out hkn6.out)
          obtain ⟨rv, hrv⟩ : ∃ rv, rv = (plook l k).getD 0 := ⟨_, rfl⟩
          obtain ⟨rs, hrs⟩ : ∃ rs, rs = (plook l k).isSome := ⟨_, rfl⟩
          rw [← hrv, ← hrs] at hGk
          obtain ⟨M, hM⟩ : ∃ M, M = l.length := ⟨_, rfl⟩
          obtain ⟨W, hW⟩ : ∃ W : Nat → Int, W = fun i => (plook (l.take i) k).getD 0 := ⟨_, rfl⟩
          obtain ⟨S, hSd⟩ : ∃ S : Nat → Bool, S = fun i => (plook (l.take i) k).isSome := ⟨_, rfl⟩
          have w0 : Hid (W 0 = 0 ∧ S 0 = false) := by rw [hW, hSd]; exact ⟨rfl, rfl⟩
          have wM : Hid (W M = rv ∧ S M = rs) := by rw [hW, hSd, hrv, hrs, hM]; exact ⟨by simp, by simp⟩
          have wY : Hid (∀ j, j < M → (l.getD j ([], 0)).1 = k → W (j + 1) = (l.getD j ([], 0)).2 ∧ S (j + 1) = true) := fun j hj e => by
            have := plook_take hsrt.out (i := j) (by rw [← hM]; exact hj) k
            rw [if_pos e] at this
            rw [hW, hSd]
            exact ⟨by show (plook (l.take (j + 1)) k).getD 0 = _; rw [this]; rfl, by show (plook (l.take (j + 1)) k).isSome = _; rw [this]; rfl⟩
          have wN : Hid (∀ j, j < M → (l.getD j ([], 0)).1 ≠ k → W (j + 1) = W j ∧ S (j + 1) = S j) := fun j hj e => by
            have := plook_take hsrt.out (i := j) (by rw [← hM]; exact hj) k
            rw [if_neg e] at this
            rw [hW, hSd]
            exact ⟨by show (plook (l.take (j + 1)) k).getD 0 = _; rw [this], by show (plook (l.take (j + 1)) k).isSome = _; rw [this]⟩
          have hGe : Hid (∀ j, j < M → ∀ X, Below wr.heap.size wr X → ∀ {ka : Option Addr} {kn kc : Nat}, Sl X ka kn kc (l.getD j ([], 0)).1 → Calls Try.prog 45 #[.pointer (some ⟨q, 0, none⟩), .slice ka kn kc] X (belowPost (.tuple #[.int .u64 (l.getD j ([], 0)).2, .bool true]) X)) := fun j hj X hb _ _ _ hs => by
            have := hGet.out X hb hs (by rw [← hs.len]; exact hkl.out j (by rw [← hM]; exact hj))
            rw [plook_key hsrt.out (by rw [← hM]; exact hj)] at this
            exact this
          have hM2 : M ≤ 2000 := by rw [hM]; exact hlen
          clear hrv hrs hW hSd hGet hkl hlen
          go_wp2_with (first
            | (go_at_call 45; refine hGk.out.mono ?_; rintro e w2 ⟨rfl, z⟩; have B2 := Lib.hid z; clear z)
            | (go_at_call 46; refine (hList.out _ B2.out).mono ?_; rintro e w3 ⟨a3, c3, rfl, z1, z2⟩; have HPL := Lib.hid z1; have B3 := Lib.hid (B2.out.trans (z2.mono B2.out.size)); clear z1 z2))
          rw [← hM] at HPL ⊢
          clear hM hGk hList
          have hPm := HPL.out.len
          go_loopw [108, 15, 16] (fun v108 v15 v16 wq => ∃ j : Nat, v108 = .int .i64 (j : Nat) ∧ v15 = .int .u64 (W j) ∧ v16 = .bool (S j) ∧ j ≤ M ∧ Hid (Below w3.heap.size w3 wq)) (fun v108 _ _ _ => (M - intOf v108).toNat)
          case atStart => exact ⟨0, rfl, by rw [w0.out.1], by rw [w0.out.2], Nat.zero_le _, Below.refl _ _⟩
          case round =>
            obtain ⟨j, rfl, rfl, rfl, hj, hB⟩ := hrel
            have BC := Lib.hid (B3.out.trans (hB.out.mono B3.out.size))
            by_cases hlt : j < M
            · have l1 : (j : Int) < (M : Int) := by omega
              obtain ⟨p3, a4, n4, c4, rfl, q1, q2, q3⟩ := prs_row (HPL.out.below hB.out) hlt
              have hw8 : IntKind.i64.wrap (((j : Nat) : Int) + 1) = ((j + 1 : Nat) : Int) := by rw [show ((j : Nat) : Int) + 1 = ((j + 1 : Nat) : Int) by omega]; exact IntWalk.i64_in _ (by omega)
              have hy := wY.out j hlt
              have hn := wN.out j hlt
              have hg := Lib.hid (fun X => hGe.out j hlt X)
              generalize (l.getD j ([], 0)).2 = yj at *
              generalize (l.getD j ([], 0)).1 = kj at *
              have hX := Lib.hid ((below_al wr (.cells #[.slice a4 n4 c4, .int .u64 yj] apT)))
              have hSk := Lib.hid (hSame.out _ _ _ _ _ _ _ _ _ (q3.below hX.out) (hKw.out.below (BC.out.trans (hX.out.mono BC.out.size))))
              have hcx : Hid (∀ X, Below (wr.alloc (.cells #[.slice a4 n4 c4, .int .u64 yj] apT)).heap.size (wr.alloc (.cells #[.slice a4 n4 c4, .int .u64 yj] apT)) X → X.cell? ⟨wr.heap.size, 0, none⟩ = some (.slice a4 n4 c4) ∧ X.cell? ⟨wr.heap.size, 1, none⟩ = some (.int .u64 yj)) := fun X hb => by
                have hbl : X.heap[wr.heap.size]? = some (.cells [.slice a4 n4 c4, .int .u64 yj].toArray apT (0, 0)) := (hb.block _ (by rw [World.size_alloc]; omega)).trans (heap_alloc_new wr _)
                exact ⟨by rw [cell_of_blk hbl]; rfl, by rw [cell_of_blk hbl]; rfl⟩
              obtain ⟨g1, g2⟩ := hcx.out _ (Below.refl _ _)
              have hq3 := Lib.hid q3
              by_cases hk : kj = k
              · obtain ⟨hw, hs⟩ := hy hk
                have HW : Hid (yj = W (j + 1) ∧ true = S (j + 1)) := ⟨hw.symm, hs.symm⟩
                rw [decide_eq_true hk] at hSk
                clear hy hn hw hs q3 hk
                go_wp2_with (first
                  | (go_at_call 45; refine (hg.out _ B6.out (hq3.out.below B5.out)).mono ?_; rintro e w7 ⟨rfl, z⟩
                     have B7 := Lib.hid (B8.out.trans (z.mono B8.out.size))
                     obtain ⟨g1, g2⟩ := hcx.out w7 (B4.out.trans (z.mono B4.out.size))
                     clear z)
                  | (go_at_call 47; refine hSk.out.mono ?_; rintro e w6 ⟨rfl, z⟩
                     have B4 := Lib.hid z
                     have B5 := Lib.hid (below_then hX.out z)
                     have B6 := Lib.hid (BC.out.trans (B5.out.mono BC.out.size))
                     have B8 := Lib.hid (hB.out.trans (B5.out.mono hB.out.size))
                     obtain ⟨g1, g2⟩ := hcx.out w6 z
                     clear z))
                go_roundw
                case rel => exact ⟨j + 1, (by first | rfl | go_num), by rw [HW.out.1], by rw [HW.out.2], by omega, B7⟩
                case measure => (simp [intOf]) <;> omega
              · obtain ⟨hw, hs⟩ := hn hk
                have HW : Hid (W j = W (j + 1) ∧ S j = S (j + 1)) := ⟨hw.symm, hs.symm⟩
                rw [decide_eq_false hk] at hSk
                clear hy hn hw hs q3 hk
                go_wp2_with (first
                  | (go_at_call 45; refine (hg.out _ B6.out (hq3.out.below B5.out)).mono ?_; rintro e w7 ⟨rfl, z⟩
                     have B7 := Lib.hid (B8.out.trans (z.mono B8.out.size))
                     obtain ⟨g1, g2⟩ := hcx.out w7 (B4.out.trans (z.mono B4.out.size))
                     clear z)
                  | (go_at_call 47; refine hSk.out.mono ?_; rintro e w6 ⟨rfl, z⟩
                     have B4 := Lib.hid z
                     have B5 := Lib.hid (below_then hX.out z)
                     have B6 := Lib.hid (BC.out.trans (B5.out.mono BC.out.size))
                     have B8 := Lib.hid (hB.out.trans (B5.out.mono hB.out.size))
                     obtain ⟨g1, g2⟩ := hcx.out w6 z
                     clear z))
                go_roundw
                case rel => exact ⟨j + 1, (by first | rfl | go_num), by rw [HW.out.1], by rw [HW.out.2], by omega, B7⟩
                case measure => (simp [intOf]) <;> omega
            · obtain rfl : j = M := by omega
              have l1 : ¬ (j : Int) < (j : Int) := by omega
              obtain ⟨e1, e2⟩ := wM.out
              rw [e1, e2]
              clear wM wY wN hGe w0 e1 e2
              go_wp2_with (go_at_call 36; refine (hal.out _).mono ?_; rintro e w8 ⟨rfl, z⟩; have B8 := Lib.hid (BC.out.trans (z.mono BC.out.size)); clear z)
              go_ret
              exact ⟨rfl, hBq.out.trans (B8.out.mono hBq.out.size)⟩
end Go.Proofs.Ytkonbldjmcccmaa
