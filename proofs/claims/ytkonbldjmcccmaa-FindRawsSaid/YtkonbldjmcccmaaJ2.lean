/- The plain side of maker.tree: how the pairs part; what has been built so far; canon's maker.tree, walked whole; canon.Build where no meter counts; Slices that a call made itself, of things of several cells; append to them; pairs in such a slice; The law's tree: the document's pairs made the program's, and built; The document's Sort. -/
import Derived.Test.YtkonbldjmcccmaaJ1
import Derived.Deep.Cut
set_option linter.unusedVariables false
set_option linter.unusedSimpArgs false
/- The plain side of maker.tree: how the pairs part; what has been built so far. -/
namespace Go.Proofs.Ytkonbldjmcccmaa
open Go.RowKit
theorem pre_getD (q : List Nat) {r : PL} {i : Nat} (hi : i < r.length) : (pre q r).getD i ([], 0) = (q ++ (r.getD i ([], 0)).1, (r.getD i ([], 0)).2) := by
  rw [getD_of_lt (by simpa using hi), getD_of_lt hi]
  simp [pre]
theorem mem_getD {α : Type} {l : List α} {i : Nat} {d : α} (hi : i < l.length) : l.getD i d ∈ l := by
  rw [getD_of_lt hi]; exact List.getElem_mem hi
/-- how pairs begin, and how they part -/
structure Start (l : PL) (bs : List Nat) (l2 : PL) : Prop where
  eq : l = pre bs l2
  srt : PSrt l2
  z : lcp (l2.getD 0 ([], 0)).1 (l2.getD (l2.length - 1) ([], 0)).1 = 0
  two : 2 ≤ l2.length
theorem start_of {l : PL} (hs : PSrt l) (hl : 2 ≤ l.length) : ∃ bs l2, Start l bs l2 ∧ bs.length = lcp (l.getD 0 ([], 0)).1 (l.getD (l.length - 1) ([], 0)).1 ∧ bs = (l.getD 0 ([], 0)).1.take bs.length := by
  obtain ⟨f, hf⟩ : ∃ f, f = (l.getD 0 ([], 0)).1 := ⟨_, rfl⟩
  obtain ⟨g, hg⟩ : ∃ g, g = (l.getD (l.length - 1) ([], 0)).1 := ⟨_, rfl⟩
  have hle := lcp_le f g
  obtain ⟨A, hA⟩ : ∃ A, A = f.take (lcp f g) := ⟨_, rfl⟩
  have hlen : A.length = lcp f g := by rw [hA, List.length_take]; omega
  have hpf : A <+: f := by rw [hA]; exact List.take_prefix _ _
  have hpg : A <+: g := by rw [hA, lcp_take]; exact List.take_prefix _ _
  have hall : ∀ x ∈ l, A <+: x.1 := fun x hx => by
    obtain ⟨i, hi, rfl⟩ := List.getElem_of_mem hx
    have h1 : f = (l[i]).1 ∨ slt f (l[i]).1 := by
      by_cases e : i = 0
      · subst e; left; rw [hf, getD_of_lt hi]
      · right
        have := hs.at_ (i := 0) (j := i) (by omega) hi
        rwa [← hf, getD_of_lt hi] at this
    have h2 : (l[i]).1 = g ∨ slt (l[i]).1 g := by
      by_cases e : i = l.length - 1
      · subst e; left; rw [hg, getD_of_lt hi]
      · right
        have := hs.at_ (i := i) (j := l.length - 1) (by omega) (by omega)
        rwa [← hg, getD_of_lt hi] at this
    exact prefix_mid _ h1 h2 hpf hpg
  have he := pre_strip hall
  have hl2 : (strip A.length l).length = l.length := by simp [strip]
  obtain ⟨l2, h2⟩ : ∃ l2, l2 = strip A.length l := ⟨_, rfl⟩
  rw [← h2] at he hl2
  refine ⟨A, l2, ⟨he, ?_, ?_, by rw [hl2]; exact hl⟩, by rw [hlen, hf, hg], by rw [hlen, ← hf, hA]⟩
  · rw [he] at hs; exact psrt_pre.1 hs
  · have e1 : f = A ++ (l2.getD 0 ([], 0)).1 := by
      rw [hf, he, pre_getD _ (by rw [hl2]; omega)]
    have e2 : g = A ++ (l2.getD (l2.length - 1) ([], 0)).1 := by
      rw [hg, he, pre_length, pre_getD _ (by omega)]
    have := lcp_pre A (l2.getD 0 ([], 0)).1 (l2.getD (l2.length - 1) ([], 0)).1
    rw [← e1, ← e2] at this
    omega
/-- what has been built, what is left -/
structure BldR (l3 : PL) (L : List (Nat × Tr)) (r : PL) : Prop where
  eq : l3 = tl (ofL L) ++ r
  kids : ∀ x ∈ L, x.1 < 256 ∧ IsN x.2 ∧ TOk x.2 ∧ Can x.2
  up : (L.map (·.1)).Pairwise (· < ·)
  heads : ∀ x ∈ r, ∃ c s, x.1 = c :: s ∧ c < 256 ∧ ∀ b ∈ L.map (·.1), b < c
  srt : PSrt r
theorem BldR.next {l3 : PL} {L : List (Nat × Tr)} {r : PL} (h : BldR l3 L r) (hr : r ≠ []) : ∃ b g r2, r = pre [b] g ++ r2 ∧ g ≠ [] ∧ PSrt g ∧ b < 256 ∧ (∀ c ∈ L.map (·.1), c < b) ∧ (∀ x ∈ r2, ∃ c s, x.1 = c :: s ∧ b < c) ∧
    ∀ t, IsN t → TOk t → Can t → tl t = g → BldR l3 (L ++ [(b, t)]) r2 := by
  cases r with
  | nil => exact absurd rfl hr
  | cons x r =>
    obtain ⟨b, s, e, hb, hL⟩ := h.heads x (by simp)
    have hge : ∀ y ∈ x :: r, ∃ c s, y.1 = c :: s ∧ b ≤ c := fun y hy => by
      obtain ⟨c, s2, e2, hc, _⟩ := h.heads y hy
      refine ⟨c, s2, e2, ?_⟩
      rcases List.mem_cons.1 hy with rfl | hy
      · rw [e] at e2; exact Nat.le_of_eq (List.cons.inj e2).1
      · have this : slt x.1 y.1 := (List.pairwise_cons.1 h.srt).1 y.1 (List.mem_map_of_mem hy)
        rw [e, e2, slt_cc] at this
        omega
    obtain ⟨g, r2, h1, h2⟩ := split_head b (x :: r) h.srt hge
    have hsr := h.srt
    rw [h1, psrt_append] at hsr
    obtain ⟨s1, s2, _⟩ := hsr
    have hg : g ≠ [] := by
      rintro rfl
      have h1 : x :: r = r2 := h1
      obtain ⟨c, s3, e3, hc⟩ := h2 x (by rw [← h1]; simp)
      rw [e] at e3
      have := (List.cons.inj e3).1
      omega
    refine ⟨b, g, r2, h1, hg, psrt_pre.1 s1, hb, hL, h2, fun t t1 t2 t3 t4 => ⟨?_, ?_, ?_, ?_, s2⟩⟩
    · rw [h.eq, h1, tl_ofL, tl_ofL, List.flatMap_append]
      simp [t4]
    · intro y hy
      rcases List.mem_append.1 hy with hy | hy
      · exact h.kids y hy
      · obtain rfl := List.mem_singleton.1 hy
        exact ⟨hb, t1, t2, t3⟩
    · rw [List.map_append, List.pairwise_append]
      exact ⟨h.up, List.pairwise_singleton _ _, fun c hc d hd => by
        obtain rfl : d = b := by simpa using hd
        exact hL c hc⟩
    · intro y hy
      obtain ⟨c, s3, e3, hc⟩ := h2 y hy
      obtain ⟨c', s4, e4, hc', hL'⟩ := h.heads y (by rw [h1]; simp [hy])
      have e5 : c = c' := (List.cons.inj (e3.symm.trans e4)).1
      subst e5
      refine ⟨c, s3, e3, hc', fun d hd => ?_⟩
      rw [List.map_append, List.mem_append] at hd
      rcases hd with hd | hd
      · exact hL' d hd
      · obtain rfl : d = b := by simpa using hd
        exact hc
/-- the tree, once nothing is left -/
theorem grow_end {l : PL} {bs : List Nat} {l2 l3 : PL} {L : List (Nat × Tr)} {val : Int} {hs : Bool} (hS : Start l bs l2) (h : BldR l3 L []) (h2 : l2 = (if hs then [([], val)] else []) ++ l3) (hv : 0 ≤ val ∧ val < 18446744073709551616) (h0 : hs = false → val = 0) (hb : ∀ x ∈ bs, x < 256) :
    TOk (.node bs val hs false (ofL L)) ∧ Can (.node bs val hs false (ofL L)) ∧ tl (.node bs val hs false (ofL L)) = l := by
  have e3 : l3 = tl (ofL L) := by rw [h.eq]; simp
  have hok : TOk (ofL L) := (tok_ofL L).2 ⟨fun x hx => ⟨(h.kids x hx).1, (h.kids x hx).2.1, (h.kids x hx).2.2.1⟩, h.up⟩
  refine ⟨⟨hb, hv.1, hv.2, h0, by simp, isK_ofL L, hok⟩, ⟨(can_ofL L).2 fun x hx => (h.kids x hx).2.2.2, fun _ => ?_⟩, ?_⟩
  · rw [chain_ofL]
    have htwo := hS.two
    cases hs with
    | true =>
      simp only [if_true, List.singleton_append] at h2 ⊢
      cases L with
      | nil => rw [h2, e3] at htwo; simp [ofL, tl] at htwo
      | cons x L => simp; omega
    | false =>
      simp only [Bool.false_eq_true, if_false, List.nil_append] at h2 ⊢
      match L, e3 with
      | [], e3 => rw [h2, e3] at htwo; simp [ofL, tl] at htwo
      | [x], e3 =>
        exfalso
        have hl2 : l2 = pre [x.1] (tl x.2) := by rw [h2, e3]; simp [ofL, tl]
        have hz := hS.z
        have hn : l2.length = (tl x.2).length := by rw [hl2]; simp
        rw [hl2, pre_getD _ (by omega), pre_length, pre_getD _ (by omega)] at hz
        rw [lcp_pre] at hz
        simp at hz
      | _ :: _ :: _, _ => simp
  · rw [tl, hS.eq, h2, pre_append, e3]
    cases hs <;> simp [pre]
/-- the node under way -/
def BldS (w1 : World) (nn : Nat) (o : Int) (bs : List Nat) (val : Int) (hs : Bool) (L : List (Nat × Tr)) (wr : World) : Prop :=
  ∃ (kk : KV) (Q : List NP), StoreP NoB w1 wr (⟨nn, o, bs, val, hs, some kk⟩ :: Q) ∧ TreeIn (⟨nn, o, bs, val, hs, some kk⟩ :: Q) 1 (ofL L) (.pointer none) kk
section
variable {w1 wr w' : World} {nn : Nat} {o : Int} {bs : List Nat} {val : Int} {hs : Bool} {L : List (Nat × Tr)}
theorem BldS.below_ (h : BldS w1 nn o bs val hs L wr) : Below w1.heap.size w1 wr := by
  obtain ⟨kk, Q, h1, _⟩ := h; exact h1.below_
theorem BldS.below (h : BldS w1 nn o bs val hs L wr) (hb : Below wr.heap.size wr w') : BldS w1 nn o bs val hs L w' := by
  obtain ⟨kk, Q, h1, h2⟩ := h; exact ⟨kk, Q, h1.below hb, h2⟩
/-- a kid's tree beside it -/
def BldT (w1 : World) (nn : Nat) (o : Int) (bs : List Nat) (val : Int) (hs : Bool) (L : List (Nat × Tr)) (g : PL) (k : Nat) (wr : World) : Prop :=
  ∃ (t : Tr) (kk : KV) (Q : List NP), StoreP NoB w1 wr (⟨nn, o, bs, val, hs, some kk⟩ :: Q) ∧ TreeIn (⟨nn, o, bs, val, hs, some kk⟩ :: Q) 1 (ofL L) (.pointer none) kk ∧ TreeIn (⟨nn, o, bs, val, hs, some kk⟩ :: Q) 1 t (.pointer (some ⟨k, 0, none⟩)) [] ∧ IsN t ∧ TOk t ∧ Can t ∧ tl t = g
theorem BldS.kid (h : BldS w1 nn o bs val hs L wr) {g : PL} {e : Ending} (q : trePost g wr e w') : ∃ k, e = .returned (.pointer (some ⟨k, 0, none⟩)) ∧ BldT w1 nn o bs val hs L g k w' := by
  obtain ⟨kk, Q, h1, h2⟩ := h
  obtain ⟨t, k, R, rfl, q1, q2, q3, q4, q5, q6⟩ := q
  refine ⟨k, rfl, t, kk, Q ++ R, h1.join q1, h2.more R, ?_, q3, q4, q5, q6⟩
  have := q2.shift (⟨nn, o, bs, val, hs, some kk⟩ :: Q)
  exact this.low (by simp)
theorem BldT.below_ {g : PL} {k : Nat} (h : BldT w1 nn o bs val hs L g k wr) : Below w1.heap.size w1 wr := by
  obtain ⟨_, _, _, h, _⟩ := h; exact h.below_
theorem BldT.below {g : PL} {k : Nat} (h : BldT w1 nn o bs val hs L g k wr) (hb : Below wr.heap.size wr w') : BldT w1 nn o bs val hs L g k w' := by
  obtain ⟨t, kk, Q, h1, h2⟩ := h; exact ⟨t, kk, Q, h1.below hb, h2⟩
theorem BldT.set {g : PL} {k b : Nat} (h : BldT w1 nn o bs val hs L g k wr) (ho : o ≠ 0) (hb : b < 256) (hL : ∀ c ∈ L.map (·.1), c < b) :
    Calls Try.prog 27 #[.pointer (some ⟨nn, 0, none⟩), .int .u64 o, .int .u8 b, .pointer (some ⟨k, 0, none⟩)] wr fun e w' => e = .returned (.int .i64 0) ∧ ∃ t, BldS w1 nn o bs val hs (L ++ [(b, t)]) w' ∧ IsN t ∧ TOk t ∧ Can t ∧ tl t = g := by
  obtain ⟨t, kk, Q, h1, h2, h3, h4, h5, h6, h7⟩ := h
  refine (sp_setkid h1 (i := 0) (p := ⟨nn, o, bs, val, hs, some kk⟩) rfl rfl o (by simp [ho]) b hb ⟨k, 0, none⟩).mono ?_
  rintro e w' ⟨rfl, q, _⟩
  have q : StoreP NoB w1 w' (⟨nn, o, bs, val, hs, some (kins kk b (.pointer (some ⟨k, 0, none⟩)))⟩ :: Q) := q
  have hk := h2.keys
  rw [kins_end (by rw [hk]; exact hL)] at q
  refine ⟨rfl, t, ⟨kk ++ [(b, .pointer (some ⟨k, 0, none⟩))], Q, q, ?_⟩, h4, h5, h6, h7⟩
  have e1 := (h2.setOut (i := 0) (by omega) ⟨nn, o, bs, val, hs, some (kk ++ [(b, .pointer (some ⟨k, 0, none⟩))])⟩)
  have e2 := (h3.setOut (i := 0) (by omega) ⟨nn, o, bs, val, hs, some (kk ++ [(b, .pointer (some ⟨k, 0, none⟩))])⟩)
  exact TreeIn.snoc e1 e2
theorem BldS.done {l : PL} {w : World} (h : BldS w1 nn o bs val hs L wr) (hb : Below w.heap.size w w1) (hT : TOk (.node bs val hs false (ofL L)) ∧ Can (.node bs val hs false (ofL L)) ∧ tl (.node bs val hs false (ofL L)) = l) : trePost l w (.returned (.pointer (some ⟨nn, 0, none⟩))) wr := by
  obtain ⟨kk, Q, h1, h2⟩ := h
  exact ⟨.node bs val hs false (ofL L), nn, _, rfl, h1.rebase hb, ⟨0, _, Nat.le_refl _, rfl, rfl, rfl, rfl, rfl, rfl, h2.low (by omega)⟩, trivial, hT.1, hT.2.1, hT.2.2⟩
end
/-- a key's byte behind q -/
theorem key_at {w : World} {a : Option Addr} {n c : Nat} {q : List Nat} {r : PL} (h : Prs w a n c (pre q r)) {i : Nat} (hi : i < n) {d : Nat} {s : List Nat} (e : (r.getD i ([], 0)).1 = d :: s) :
    ∃ p p3 n3 c3, a = some p ∧ w.cell? (p.add (i * 2)) = some (.slice (some p3) n3 c3) ∧ q.length < n3 ∧ w.cell? (p3.add q.length) = some (.int .u8 (d : Nat)) := by
  have hl := h.len
  rw [pre_length] at hl
  obtain ⟨p, rfl, hq⟩ := h.at_ i (by rw [pre_length, hl]; exact hi)
  rw [pre_getD _ (by omega)] at hq
  obtain ⟨a3, n3, c3, q1, q2, q3⟩ := hq.cells
  rw [e] at q3
  have hn := q3.len
  rw [List.length_append, List.length_cons] at hn
  obtain ⟨p3, rfl, _, q4⟩ := q3.at_.2 q.length (by rw [List.length_append, List.length_cons]; omega)
  refine ⟨p, p3, n3, c3, rfl, q1, by omega, ?_⟩
  rw [q4]
  simp [List.getD]
theorem group_small {l : PL} {bs : List Nat} {l2 l3 r r2 g : PL} {L : List (Nat × Tr)} {val : Int} {hs : Bool} {b N : Nat} (hS : Start l bs l2) (h2 : l2 = (if hs then [([], val)] else []) ++ l3) (h : BldR l3 L r) (hr : r = pre [b] g ++ r2) (hN : l2.length ≤ N + 1) : g.length ≤ N := by
  have e := h.eq
  have h1 : l2.length = (if hs then 1 else 0) + ((tl (ofL L)).length + (g.length + r2.length)) := by
    rw [h2, e, hr]
    cases hs <;> simp <;> omega
  by_cases hg : g.length ≤ N
  · exact hg
  · exfalso
    have hr0 : r2 = [] := List.eq_nil_of_length_eq_zero (by split at h1 <;> omega)
    have ht0 : tl (ofL L) = [] := List.eq_nil_of_length_eq_zero (by split at h1 <;> omega)
    have hs0 : hs = false := by
      cases hs with
      | false => rfl
      | true => simp at h1; omega
    have hl2 : l2 = pre [b] g := by rw [h2, e, hr, hr0, ht0, hs0]; simp
    have hz := hS.z
    have htwo := hS.two
    have hn : l2.length = g.length := by rw [hl2]; simp
    rw [hl2, pre_getD _ (by omega), pre_length, pre_getD _ (by omega), lcp_pre] at hz
    simp at hz
theorem pre_take (q : List Nat) {b : Nat} {g r2 r : PL} (h : r = pre [b] g ++ r2) : (pre q r).take g.length = pre (q ++ [b]) g ∧ (pre q r).drop g.length = pre q r2 := by
  subst h
  rw [pre_append, pre_pre]
  constructor
  · rw [List.take_append_of_le_length (by simp), List.take_of_length_le (by simp)]
  · rw [List.drop_append_of_le_length (by simp), List.drop_of_length_le (by simp)]; rfl
theorem head_in {b : Nat} {g r2 r : PL} (h : r = pre [b] g ++ r2) {m : Nat} (hm : m < g.length) : (r.getD m ([], 0)).1 = b :: (g.getD m ([], 0)).1 := by
  subst h
  rw [List.getD, List.getElem?_append_left (by simpa using hm)]
  have := pre_getD [b] (r := g) (i := m) hm
  rw [List.getD] at this
  rw [this]; rfl
theorem head_out {b : Nat} {g r2 r : PL} (h : r = pre [b] g ++ r2) (h2 : ∀ x ∈ r2, ∃ c s, x.1 = c :: s ∧ b < c) (hm : g.length < r.length) : ∃ d s, (r.getD g.length ([], 0)).1 = d :: s ∧ b < d := by
  subst h
  rw [List.length_append, pre_length] at hm
  rw [List.getD, List.getElem?_append_right (by simp), pre_length, Nat.sub_self]
  cases r2 with
  | nil => simp at hm
  | cons x r2 => exact h2 x (by simp)
theorem prs_bytes {w : World} {a : Option Addr} {n c : Nat} {q : List Nat} {r : PL} (h : Prs w a n c (pre q r)) : ∀ x ∈ r, ∀ y ∈ x.1, y < 256 := fun x hx y hy => by
  obtain ⟨i, hi, rfl⟩ := List.getElem_of_mem hx
  obtain ⟨p, _, q1⟩ := h.at_ i (by simpa using hi)
  obtain ⟨a3, n3, c3, _, _, q2⟩ := q1.cells
  rw [pre_getD _ hi, getD_of_lt hi] at q2
  exact q2.at_.1 y (by simp [hy])
theorem bldR_start {l3 : PL} (hs : PSrt l3) (hb : ∀ x ∈ l3, ∀ y ∈ x.1, y < 256) (hn : ∀ x ∈ l3, x.1 ≠ []) : BldR l3 [] l3 :=
  ⟨by simp [ofL, tl], by simp, List.Pairwise.nil, fun x hx => by
    cases e : x.1 with
    | nil => exact absurd e (hn x hx)
    | cons c s => exact ⟨c, s, rfl, hb x hx c (by simp [e]), by simp⟩, hs⟩
theorem start_has {l : PL} {bs : List Nat} {l2 : PL} (hS : Start l bs l2) (hb : ∀ x ∈ l2, ∀ y ∈ x.1, y < 256) (h0 : (l2.getD 0 ([], 0)).1 = []) : ∃ l3, l2 = [([], (l2.getD 0 ([], 0)).2)] ++ l3 ∧ BldR l3 [] l3 := by
  have htwo := hS.two
  have hsr := hS.srt
  cases l2 with
  | nil => simp at htwo
  | cons x l3 =>
    have h0 : x.1 = [] := h0
    refine ⟨l3, ?_, bldR_start (psrt_tail hsr) (fun y hy => hb y (by simp [hy])) fun y hy e => ?_⟩
    · show x :: l3 = ([], x.2) :: l3
      rw [← h0]
    · have this : slt x.1 y.1 := (List.pairwise_cons.1 hsr).1 y.1 (List.mem_map_of_mem hy)
      rw [e] at this
      exact not_slt_nil _ this
theorem start_no {l : PL} {bs : List Nat} {l2 : PL} (hS : Start l bs l2) (hb : ∀ x ∈ l2, ∀ y ∈ x.1, y < 256) (h0 : (l2.getD 0 ([], 0)).1 ≠ []) : BldR l2 [] l2 := by
  have hsr := hS.srt
  refine bldR_start hsr hb fun y hy e => ?_
  cases l2 with
  | nil => simp at hy
  | cons x l3 =>
    have h0 : x.1 ≠ [] := h0
    rcases List.mem_cons.1 hy with rfl | hy
    · exact h0 e
    · have this : slt x.1 y.1 := (List.pairwise_cons.1 hsr).1 y.1 (List.mem_map_of_mem hy)
      rw [e] at this
      exact not_slt_nil _ this
end Go.Proofs.Ytkonbldjmcccmaa
/- canon's maker.tree, walked whole. -/
namespace Go.Proofs.Ytkonbldjmcccmaa
open Go.RowKit
/-- what a call to maker.tree is asked for -/
def TreeAsk (o : Int) (N : Nat) : Prop := ∀ (l : PL) (pfx : List Nat) (a : Option Addr) (n c : Nat) (w : World), l.length ≤ N → l ≠ [] → Prs w a n c (pre pfx l) → PSrt l → (∀ x ∈ pre pfx l, x.1.length ≤ 65535) →
  Calls Try.prog 168 #[.agg #[.pointer none, .int .u64 o], .slice a n c, .int .i64 (pfx.length : Nat)] w (trePost l w)
theorem inner_made {w w2 : World} {a : Option Addr} {n c : Nat} {bs : List Nat} (h : Sl w2 a n c bs) (hn : n ≤ 140737488355328) (hb : Below w.heap.size w w2) (o : Int) :
    Calls Try.prog 44 #[.pointer none, .int .u64 o, .slice a n c] w2 fun e w' => ∃ k, e = .returned (.pointer (some ⟨k, 0, none⟩)) ∧ BldS w k o bs 0 false [] w' := by
  refine (sp_inner0 (StoreP.nil NoB (Mod.refl NoB w2)) (In8.of_sl h hn) o).mono ?_
  rintro e w' ⟨k, rfl, ⟨h1, h2⟩, h3⟩
  exact ⟨k, rfl, [], [], h1.rebase hb, rfl⟩
theorem BldS.setVal {w1 wr : World} {nn : Nat} {o : Int} {bs : List Nat} (h : BldS w1 nn o bs 0 false [] wr) (ho : o ≠ 0) (v : Int) :
    Calls Try.prog 25 #[.pointer (some ⟨nn, 0, none⟩), .int .u64 o, .int .u64 v] wr fun e w' => e = .returned (.int .i64 0) ∧ BldS w1 nn o bs v true [] w' := by
  obtain ⟨kk, Q, h1, h2⟩ := h
  refine (sp_setval h1 (i := 0) (p := ⟨nn, o, bs, 0, false, some kk⟩) rfl o v (by simp [ho])).mono ?_
  rintro e w' ⟨rfl, q, _⟩
  have q : StoreP NoB w1 w' (⟨nn, o, bs, v, true, some kk⟩ :: Q) := q
  exact ⟨rfl, kk, Q, q, h2⟩
theorem prs_row {w : World} {a : Option Addr} {n c : Nat} {l : PL} (h : Prs w a n c l) {i : Nat} (hi : i < n) : ∃ p a3 n3 c3, a = some p ∧ w.cell? (p.add (i * 2)) = some (.slice a3 n3 c3) ∧ w.cell? ⟨(p.add (i * 2)).block, (p.add (i * 2)).off + 1, none⟩ = some (.int .u64 (l.getD i ([], 0)).2) ∧ Sl w a3 n3 c3 (l.getD i ([], 0)).1 := by
  obtain ⟨p, e, q⟩ := h.at_ i (by rw [h.len]; exact hi)
  obtain ⟨a3, n3, c3, q1, q2, q3⟩ := q.cells
  exact ⟨p, a3, n3, c3, e, q1, q2, q3⟩
theorem prs_first {w : World} {a : Option Addr} {n c : Nat} {l : PL} (h : Prs w a n c l) (hi : 0 < n) : ∃ p a3 n3 c3, a = some p ∧ w.cell? p = some (.slice a3 n3 c3) ∧ w.cell? ⟨p.block, p.off + 1, none⟩ = some (.int .u64 (l.getD 0 ([], 0)).2) ∧ Sl w a3 n3 c3 (l.getD 0 ([], 0)).1 := by
  obtain ⟨p, a3, n3, c3, e, q1, q2, q3⟩ := prs_row h hi
  simp only [Nat.zero_mul, Addr.add_zero'] at q1 q2
  exact ⟨p, a3, n3, c3, e, q1, q2, q3⟩
set_option maxHeartbeats 4000000 in
set_option maxRecDepth 100000 in
theorem tree_many (o : Int) (ho : o ≠ 0) (N : Nat) (IH : TreeAsk o N) (l : PL) (pfx : List Nat) (a : Option Addr) (n c : Nat) (w : World) (hN : l.length ≤ N + 1) (h2 : 2 ≤ l.length) (h : Prs w a n c (pre pfx l)) (hs : PSrt l) (hk : ∀ x ∈ pre pfx l, x.1.length ≤ 65535) :
    Calls Try.prog 168 #[.agg #[.pointer none, .int .u64 o], .slice a n c, .int .i64 (pfx.length : Nat)] w (trePost l w) := by
  obtain ⟨b0, b1, hb, hz⟩ := box_cells w o
  have hn : l.length = n := by have := h.len; rwa [pre_length] at this
  obtain ⟨bs, l2, hS, hbl, hbt⟩ := start_of hs h2
  have HP := h.below hb
  have hnm : n ≤ 9223372036854775807 := Nat.le_trans h.cap h.capm
  obtain ⟨p, af, nf, cf, rfl, q1, q2, q3⟩ := prs_first HP (by omega)
  obtain ⟨p', al, nl, cl, ep, q4, _, q6⟩ := prs_row HP (i := n - 1) (by omega)
  obtain rfl : p = p' := by simpa using ep
  rw [pre_getD _ (by omega)] at q3 q6 q2
  simp only at q3 q6 q2
  obtain ⟨fk, hfk⟩ : ∃ fk, fk = (l.getD 0 ([], 0)).1 := ⟨_, rfl⟩
  obtain ⟨fv, hfv⟩ : ∃ fv, fv = (l.getD 0 ([], 0)).2 := ⟨_, rfl⟩
  have hfm : (pfx ++ fk, fv) ∈ pre pfx l := by
    have := mem_getD (l := pre pfx l) (i := 0) (d := ([], 0)) (by rw [pre_length]; omega)
    rwa [pre_getD _ (by omega), ← hfk, ← hfv] at this
  have hnf := q3.len
  have hfk16 := hk _ hfm
  have hvv := HP.val _ hfm
  rw [← hfk] at q3 hnf hbl hbt
  rw [← hfv] at q2
  rw [hn] at hbl
  simp only at hfk16 hvv
  rw [List.length_append] at hnf hfk16
  have hbf : bs.length ≤ fk.length := by rw [hbl]; exact (lcp_le _ _).1
  obtain ⟨at_, hat⟩ : ∃ m, m = pfx.length := ⟨_, rfl⟩
  obtain ⟨en, hen⟩ : ∃ m, m = pfx.length + bs.length := ⟨_, rfl⟩
  have hcf := q3.cap
  have hcom : Hid (∀ w2, Below (boxW w o).heap.size (boxW w o) w2 → Calls Try.prog 174 #[.slice af nf cf, .slice al nl cl] w2 fun e w' => e = .returned (.int .i64 (en : Nat)) ∧ Below (boxW w o).heap.size (boxW w o) w') := fun w2 hw2 =>
    (keys_common w2 af al nf cf nl cl _ _ (q3.below hw2).at_ (q6.below hw2).at_ q3.len q6.len (Nat.le_trans q3.cap q3.capm) (Nat.le_trans q6.cap q6.capm)).mono fun e w' ⟨e1, k, e2⟩ => ⟨by rw [e1, lcp_pre, hen, hbl], by rw [e2]; exact below_drewN hw2 k⟩
  have hcutk : ∀ w, (Instr.slice 27 (.slice af nf cf) (some (.int .i64 (at_ : Nat))) (some (.int .i64 (en : Nat))) none).run Try.prog w = .ok (.slice (cutA af cf at_ 1) (en - at_) (cf - at_)) w := fun w => run_cut8 w af nf cf at_ en (by omega) (by omega)
  have hsb := q3.cut (lo := at_) (hi := en) (by omega) (by omega)
  have ebs : ((pfx ++ fk).take en).drop at_ = bs := by
    rw [hen, hat, List.take_append, List.take_of_length_le (by omega), Nat.add_sub_cancel_left, List.drop_left, ← hbt]
  rw [ebs] at hsb
  have hIn : Hid (∀ w2, Below (boxW w o).heap.size (boxW w o) w2 → Calls Try.prog 44 #[.pointer none, .int .u64 o, .slice (cutA af cf at_ 1) (en - at_) (cf - at_)] w2 fun e w' => ∃ k, e = .returned (.pointer (some ⟨k, 0, none⟩)) ∧ BldS (boxW w o) k o bs 0 false [] w') := fun w2 hw2 => inner_made (hsb.below hw2) (by omega) hw2 o
  have hKx : Hid (∀ wr, Below (boxW w o).heap.size (boxW w o) wr → wr.cell? ⟨w.heap.size, 0, none⟩ = some (.pointer none) ∧ wr.cell? ⟨w.heap.size, 1, none⟩ = some (.int .u64 o) ∧ wr.cell? p = some (.slice af nf cf) ∧ wr.cell? ⟨p.block, p.off + 1, none⟩ = some (.int .u64 fv)) := fun wr hw =>
    ⟨(hw.cell (p := ⟨w.heap.size, 0, none⟩) (cell_lt b0)).trans b0, (hw.cell (p := ⟨w.heap.size, 1, none⟩) (cell_lt b1)).trans b1, (hw.cell (cell_lt q1)).trans q1, (hw.cell (p := ⟨p.block, p.off + 1, none⟩) (cell_lt q2)).trans q2⟩
  have Hb := Lib.hid hb
  have HPb := Lib.hid HP
  have hq : Hid ((pfx ++ bs).length = en) := by show _ = _; rw [List.length_append, hen]
  have hpre : pre pfx l = pre (pfx ++ bs) l2 := by rw [hS.eq, pre_pre]
  rw [hpre] at HPb
  have hbb : Hid (∀ x ∈ bs, x < 256) := hsb.at_.1
  have i0 : (0 : Int) ≤ (at_ : Int) := by omega
  have i1 : (at_ : Int) ≤ (en : Int) := by omega
  have i2 : (en : Int) ≤ (cf : Int) := by omega
  have i3 : (en : Int) ≤ (nf : Int) := by omega
  have i4 : ((n : Int) == 0) = false := by rw [beq_eq_false_iff_ne]; omega
  have i5 : ((n : Int) == 1) = false := by rw [beq_eq_false_iff_ne]; omega
  have i6 : (0 : Int) < (n : Int) := by omega
  have i6n : 0 < n := by omega
  have i7 : IntKind.i64.wrap ((n : Int) - 1) = ((n - 1 : Nat) : Int) := by rw [show (n : Int) - 1 = ((n - 1 : Nat) : Int) by omega]; exact IntWalk.i64_in _ (by omega)
  have i8 : (((n - 1 : Nat) : Int)) < (n : Int) := by omega
  have i9 : (0 : Int) ≤ (((n - 1 : Nat) : Int)) := by omega
  have HS := Lib.hid hS
  have Hvv := Lib.hid hvv
  have Hhs := Lib.hid hs
  have Hk2 : Hid (∀ x ∈ pre (pfx ++ bs) l2, x.1.length ≤ 65535) := by rw [← hpre]; exact hk
  have Hn2 : Hid (l2.length = n ∧ n ≤ N + 1) := by
    show _ ∧ _
    have := congrArg List.length hS.eq
    rw [pre_length] at this
    omega
  have Hfk : Hid (fk = bs ++ (l2.getD 0 ([], 0)).1 ∧ fv = (l2.getD 0 ([], 0)).2) := by
    show _ ∧ _
    have h3 := hS.two
    have h4 := pre_getD bs (r := l2) (i := 0) (by omega)
    rw [← hS.eq] at h4
    exact ⟨by rw [hfk, h4], by rw [hfv, h4]⟩
  have hcutP : ∀ w, (Instr.slice 68 (.slice (some p) n c) (some (.int .i64 1)) none none).run Try.prog w = .ok (.slice (cutA (some p) c 1 2) (n - 1) (c - 1)) w := fun w => run_fromA w (some p) n c 1 (by omega)
  have hnfe : Hid (nf = pfx.length + fk.length ∧ en = pfx.length + bs.length) := ⟨hnf.symm, hen⟩
  have hat2 := Lib.hid hat
  have hen16 : en ≤ 65535 := by omega
  rw [← hat]
  clear hbt hbl hn h2 hN h hs hk q3 q6 hfm hfk hfv hnf hfk16 hvv hbf hat hen hcf hsb ebs hpre hS hb hz b0 b1 HP ep q1 q2
  generalize cutA af cf at_ 1 = ab at *
  generalize en - at_ = nb at *
  generalize cf - at_ = cb at *
  go_enter Try.func168, Try.ntmps168
  go_upto_region 6 with (fail)
  change Code.wp _ _ _ _ (boxW w o)
  generalize boxW w o = wb at *
  obtain ⟨k0, k1, k2, k3⟩ := hKx.out wb (Below.refl _ _)
  go_wp2_with (go_at_call 174; refine (hcom.out wb (Below.refl _ _)).mono ?_; rintro e w2 ⟨rfl, hw2⟩; have B2 := Lib.hid hw2; obtain ⟨k0, k1, k2, k3⟩ := hKx.out w2 hw2; clear hw2)
  go_still_tail 8, (by kernel_rfl)
  change wpList _ _ _ _ _ w2.drew
  by_cases hlen : fk.length = bs.length
  · have he : ((nf : Int) == (en : Int)) = true := by
      have := hnfe.out
      rw [beq_iff_eq]; omega
    have h0 : (l2.getD 0 ([], 0)).1 = [] := by
      have := congrArg List.length Hfk.out.1
      rw [List.length_append] at this
      exact List.eq_nil_of_length_eq_zero (by omega)
    obtain ⟨l3, e3, hR⟩ := start_has HS.out (prs_bytes HPb.out) h0
    rw [← Hfk.out.2] at e3
    have HR0 := Lib.hid hR
    have HP0 := Lib.hid (HPb.out.from_ (lo := 1) (by omega))
    rw [show (pre (pfx ++ bs) l2).drop 1 = pre (pfx ++ bs) l3 by rw [e3]; rfl] at HP0
    obtain ⟨val, hval⟩ : ∃ v, v = fv := ⟨_, rfl⟩
    obtain ⟨hs, hhs⟩ : ∃ v, v = true := ⟨_, rfl⟩
    have H2 : Hid (l2 = (if hs then [([], val)] else []) ++ l3) := by rw [hhs, hval]; exact e3
    have Hv : Hid (0 ≤ val ∧ val < 18446744073709551616) := by rw [hval]; exact Hvv.out
    have H0 : Hid (hs = false → val = 0) := fun e => by rw [hhs] at e; cases e
    rw [← hval] at k3
    have hsv : ∀ wr, BldS wb wr.heap.size o bs fv true [] wr → True := fun _ _ => trivial
    have hS5 : Hid (∀ (nn : Nat) (wr : World), BldS wb nn o bs fv true [] wr → BldS wb nn o bs val hs [] wr) := fun nn wr h => by rw [hhs, hval]; exact h
    clear hlen h0 e3 hR hval hhs hsv
    go_wp2_with (go_at_call 44; refine (hIn.out _ B2.out.drew).mono ?_; rintro e w3 ⟨nn, rfl, hS3⟩; have BS := Lib.hid hS3; obtain ⟨k0, k1, k2, k3⟩ := hKx.out w3 hS3.below_; clear hS3)
    have hV := Lib.hid ((BS.out.below (Below.refl _ _).drew).setVal ho fv)
    go_still_tail 7, (by kernel_rfl)
    change wpList _ _ _ _ _ w3.drew
    go_wp2_with (go_at_call 25; refine hV.out.mono ?_; rintro e w4 ⟨rfl, hS4⟩; have BS4 := Lib.hid (hS5.out nn w4 hS4); clear hS4)
    clear k0 k1 k2 k3 hcom hIn hcutk hcutP hS5 he
    go_loopw [1] (fun v1 wr => ∃ (a1 : Option Addr) (n1 c1 : Nat) (L : List (Nat × Tr)) (r : PL), v1 = .slice a1 n1 c1 ∧ n1 ≤ n ∧ Hid (Prs wb a1 n1 c1 (pre (pfx ++ bs) r)) ∧ Hid (∃ pre_, l3 = pre_ ++ r) ∧ Hid (BldR l3 L r) ∧ Hid (BldS wb nn o bs val hs L wr)) (fun v1 _ => match v1 with | .slice _ m _ => m | _ => 0)
    case atStart => exact ⟨_, _, _, [], l3, rfl, by omega, HP0, ⟨[], rfl⟩, HR0, BS4⟩
    case round =>
      clear HP0 HR0 BS4
      obtain ⟨a1, n1, c1, L, r, rfl, hn1, HP1, Hsuf, HR, BS⟩ := hrel
      have hr1 : Hid (r.length = n1) := by show _ = _; have := HP1.out.len; rwa [pre_length] at this
      by_cases hz : n1 = 0
      · subst hz
        have j1 : ¬ (0 : Int) < ((0 : Nat) : Int) := by omega
        obtain rfl : r = [] := List.eq_nil_of_length_eq_zero hr1.out
        have hE := Lib.hid (BS.out.done Hb.out (grow_end HS.out HR.out H2.out Hv.out H0.out hbb.out))
        go_wp2_with fail
        go_ret
        exact hE.out
      · obtain ⟨b, g, r2, e1, hg, sg, hb256, hbL, hr2, hnext⟩ := HR.out.next (fun e => by rw [e] at hr1; exact hz hr1.out.symm)
        have E1 := Lib.hid e1
        have hr2 := Lib.hid hr2
        have hnext := Lib.hid hnext
        have hbL := Lib.hid hbL
        have hgN : Hid (g.length ≤ N) := group_small HS.out H2.out HR.out e1 (by have := Hn2.out; omega)
        have hg0 := Lib.hid hg
        obtain ⟨G, hG⟩ : ∃ G, G = g.length := ⟨_, rfl⟩
        have HG := Lib.hid hG
        have hG1 : 1 ≤ G := by
          cases g with
          | nil => exact absurd rfl hg
          | cons x g => rw [hG]; simp
        have hGn : G ≤ n1 := by rw [hG, ← hr1.out, e1]; simp
        obtain ⟨p1, p3, n3, c3, rfl, z1, z2, z3⟩ := key_at (HP1.out.below BS.out.below_) (i := 0) (by omega) (head_in e1 (m := 0) (by omega))
        rw [hq.out] at z2 z3
        simp only [Nat.zero_mul, Addr.add_zero'] at z1
        have j1 : (0 : Int) < (n1 : Int) := by omega
        have j2 : 0 < n1 := by omega
        have j3 : (0 : Int) ≤ (en : Int) := by omega
        have j4 : (en : Int) < (n3 : Int) := by omega
        clear hG hg e1 hz z2
        go_wp2_with fail
        go_loop [11] (fun vm => ∃ m : Nat, vm = .int .i64 (m : Nat) ∧ 1 ≤ m ∧ m ≤ G) (fun vm => (G - intOf vm).toNat)
        case atStart => exact ⟨1, rfl, by omega, hG1⟩
        case round =>
          clear z1 z3 j4
          obtain ⟨m, rfl, hm1, hm2⟩ := hrel
          by_cases hmG : m < G
          · obtain ⟨p1', p3', n3', c3', hp, z1, z2, z3⟩ := key_at (HP1.out.below BS.out.below_) (i := m) (by omega) (head_in E1.out (m := m) (by rw [← HG.out]; exact hmG))
            obtain rfl : p1 = p1' := by simpa using hp
            rw [hq.out] at z2 z3
            have j4 : (en : Int) < (n3' : Int) := by omega
            have j5 : (m : Int) < (n1 : Int) := by omega
            have j6 : (0 : Int) ≤ (m : Int) := by omega
            have hw9 : IntKind.i64.wrap (((m : Nat) : Int) + 1) = ((m + 1 : Nat) : Int) := by rw [show ((m : Nat) : Int) + 1 = ((m + 1 : Nat) : Int) by omega]; exact IntWalk.i64_in _ (by omega)
            clear hp z2
            go_wp2_with fail
            go_round
            case rel => exact ⟨m + 1, (by first | rfl | go_num), by omega, by omega⟩
            case measure => (simp [intOf]) <;> omega
          · obtain rfl : m = G := by omega
            have hT : Hid (∀ w', Below wr.heap.size wr w' → Calls Try.prog 168 #[.agg #[.pointer none, .int .u64 o], .slice (some p1) m c1, .int .i64 ((en + 1 : Nat) : Int)] w' fun e w'' => ∃ k, e = .returned (.pointer (some ⟨k, 0, none⟩)) ∧ BldT wb nn o bs val hs L g k w'') := fun w' hw' => by
              have hP2 := ((HP1.out.below BS.out.below_).below hw').to_ (hi := m) hGn
              rw [cutA_zero, HG.out, (pre_take (pfx ++ bs) E1.out).1, ← HG.out] at hP2
              have hbnd : ∀ x ∈ pre (pfx ++ bs ++ [b]) g, x.1.length ≤ 65535 := fun x hx => by
                refine Hk2.out x ?_
                obtain ⟨pr, e2⟩ := Hsuf.out
                rw [H2.out, e2, E1.out, pre_append, pre_append, pre_append, pre_pre]
                exact List.mem_append.2 (Or.inr (List.mem_append.2 (Or.inr (List.mem_append.2 (Or.inl hx)))))
              have := IH g (pfx ++ bs ++ [b]) (some p1) m c1 w' hgN.out hg0.out hP2 sg hbnd
              rw [show (pfx ++ bs ++ [b]).length = en + 1 by rw [List.length_append, hq.out]; rfl] at this
              exact this.mono fun e w'' q => (BS.out.below hw').kid q
            have hSK : Hid (∀ k w', BldT wb nn o bs val hs L g k w' → Calls Try.prog 27 #[.pointer (some ⟨nn, 0, none⟩), .int .u64 o, .int .u8 (b : Nat), .pointer (some ⟨k, 0, none⟩)] w' fun e w'' => e = .returned (.int .i64 0) ∧ ∃ t, BldS wb nn o bs val hs (L ++ [(b, t)]) w'' ∧ IsN t ∧ TOk t ∧ Can t ∧ tl t = g) := fun k w' q => q.set ho hb256 hbL.out
            have hcutG : ∀ w, (Instr.slice 68 (.slice (some p1) n1 c1) none (some (.int .i64 (m : Nat))) none).run Try.prog w = .ok (.slice (some p1) m c1) w := fun w => by rw [run_toA w (some p1) n1 c1 m (Nat.le_trans hGn HP1.out.cap), cutA_zero]
            have hcutR : ∀ w, (Instr.slice 68 (.slice (some p1) n1 c1) (some (.int .i64 (m : Nat))) none none).run Try.prog w = .ok (.slice (cutA (some p1) c1 m 2) (n1 - m) (c1 - m)) w := fun w => run_fromA w (some p1) n1 c1 m hGn
            have hP5 := HP1.out.from_ (lo := m) hGn
            rw [HG.out, (pre_take (pfx ++ bs) E1.out).2, ← HG.out] at hP5
            replace hP5 := Lib.hid hP5
            have hsuf5 : Hid (∃ pre_, l3 = pre_ ++ r2) := by
              obtain ⟨pr, e2⟩ := Hsuf.out
              exact ⟨pr ++ pre [b] g, by rw [e2, E1.out, List.append_assoc]⟩
            have hwe : IntKind.i64.wrap ((en : Int) + 1) = ((en + 1 : Nat) : Int) := by rw [show (en : Int) + 1 = ((en + 1 : Nat) : Int) by omega]; exact IntWalk.i64_in _ (by omega)
            have j6 : (0 : Int) ≤ (m : Int) := by omega
            have j7 : (m : Int) ≤ (n1 : Int) := by omega
            have j8 : (m : Int) ≤ (c1 : Int) := by have := HP1.out.cap; omega
            obtain ⟨y0, y1, _, _⟩ := hKx.out wr BS.out.below_
            have hB1 := Lib.hid hKx.out
            have hBr : Hid (∀ k, Below wr.heap.size wr (wr.drewN k)) := fun k => below_drewN (Below.refl _ _) k
            by_cases hend : m < n1
            · obtain ⟨d, s, e5, hd⟩ := head_out E1.out hr2.out (by rw [← HG.out, hr1.out]; exact hend)
              rw [← HG.out] at e5
              obtain ⟨p1', p3', n3', c3', hp, z1, z2, z3⟩ := key_at (HP1.out.below BS.out.below_) (i := m) hend e5
              obtain rfl : p1 = p1' := by simpa using hp
              rw [hq.out] at z2 z3
              have j4 : (en : Int) < (n3' : Int) := by omega
              have j5 : (m : Int) < (n1 : Int) := by omega
              have j9 : (((d : Nat) : Int) == ((b : Nat) : Int)) = false := by rw [beq_eq_false_iff_ne]; omega
              clear hp z2 e5
              go_wp2_with fail
              go_region_held3 (fun w' => w'.cell? ⟨w.heap.size, 0, none⟩ = some (.pointer none) ∧ w'.cell? ⟨w.heap.size, 1, none⟩ = some (.int .u64 o)) (first | go_keep)
                (first | (go_at_call 27; refine (hSK.out _ _ qT.out).mono ?_; rintro e w6 ⟨rfl, t, qS, t1⟩; have qS := Lib.hid qS; obtain ⟨y4, y5, _, _⟩ := hKx.out w6 qS.out.below_) | (go_at_call 168; refine (hT.out _ (hBr.out _)).mono ?_; rintro e w5 ⟨k, rfl, qT⟩; have qT := Lib.hid qT; obtain ⟨y2, y3, _, _⟩ := hKx.out w5 qT.out.below_))
              have hR5 := Lib.hid (hnext.out t t1.1 t1.2.1 t1.2.2.1 t1.2.2.2)
              go_wp2_with fail
              go_roundw
              case rel => exact ⟨_, _, _, L ++ [(b, t)], r2, rfl, by omega, hP5, hsuf5, hR5, qS⟩
              case measure => (simp) <;> omega
            · have j5 : ¬ (m : Int) < (n1 : Int) := by omega
              go_wp2_with fail
              go_region_held3 (fun w' => w'.cell? ⟨w.heap.size, 0, none⟩ = some (.pointer none) ∧ w'.cell? ⟨w.heap.size, 1, none⟩ = some (.int .u64 o)) (first | go_keep)
                (first | (go_at_call 27; refine (hSK.out _ _ qT.out).mono ?_; rintro e w6 ⟨rfl, t, qS, t1⟩; have qS := Lib.hid qS; obtain ⟨y4, y5, _, _⟩ := hKx.out w6 qS.out.below_) | (go_at_call 168; refine (hT.out _ (hBr.out _)).mono ?_; rintro e w5 ⟨k, rfl, qT⟩; have qT := Lib.hid qT; obtain ⟨y2, y3, _, _⟩ := hKx.out w5 qT.out.below_))
              have hR5 := Lib.hid (hnext.out t t1.1 t1.2.1 t1.2.2.1 t1.2.2.2)
              go_wp2_with fail
              go_roundw
              case rel => exact ⟨_, _, _, L ++ [(b, t)], r2, rfl, by omega, hP5, hsuf5, hR5, qS⟩
              case measure => (simp) <;> omega
  · have he : ((nf : Int) == (en : Int)) = false := by
      have := hnfe.out
      rw [beq_eq_false_iff_ne]; omega
    have h0 : (l2.getD 0 ([], 0)).1 ≠ [] := fun e => by
      have := congrArg List.length Hfk.out.1
      rw [List.length_append, e] at this
      exact hlen (by simpa using this)
    obtain ⟨l3, e3⟩ : ∃ l3, l3 = l2 := ⟨_, rfl⟩
    have HR0 : Hid (BldR l3 [] l3) := by rw [e3]; exact start_no HS.out (prs_bytes HPb.out) h0
    have HP0 : Hid (Prs wb (some p) n c (pre (pfx ++ bs) l3)) := by rw [e3]; exact HPb.out
    obtain ⟨val, hval⟩ : ∃ v, v = (0 : Int) := ⟨_, rfl⟩
    obtain ⟨hs, hhs⟩ : ∃ v, v = false := ⟨_, rfl⟩
    have H2 : Hid (l2 = (if hs then [([], val)] else []) ++ l3) := by rw [hhs, e3]; exact rfl
    have Hv : Hid (0 ≤ val ∧ val < 18446744073709551616) := by show _ ∧ _; omega
    have H0 : Hid (hs = false → val = 0) := fun _ => hval
    have hS5 : Hid (∀ (nn : Nat) (wr : World), BldS wb nn o bs 0 false [] wr → BldS wb nn o bs val hs [] wr) := fun nn wr h => by rw [hhs, hval]; exact h
    clear hlen h0 e3 hval hhs
    go_wp2_with (go_at_call 44; refine (hIn.out _ B2.out.drew).mono ?_; rintro e w4 ⟨nn, rfl, hS3⟩; have BS4 := Lib.hid (hS5.out nn w4 hS3); clear hS3)
    clear k0 k1 k2 k3 hcom hIn hcutk hcutP hS5 he
    go_loopw [1] (fun v1 wr => ∃ (a1 : Option Addr) (n1 c1 : Nat) (L : List (Nat × Tr)) (r : PL), v1 = .slice a1 n1 c1 ∧ n1 ≤ n ∧ Hid (Prs wb a1 n1 c1 (pre (pfx ++ bs) r)) ∧ Hid (∃ pre_, l3 = pre_ ++ r) ∧ Hid (BldR l3 L r) ∧ Hid (BldS wb nn o bs val hs L wr)) (fun v1 _ => match v1 with | .slice _ m _ => m | _ => 0)
    case atStart => exact ⟨_, _, _, [], l3, rfl, by omega, HP0, ⟨[], rfl⟩, HR0, BS4⟩
    case round =>
      clear HP0 HR0 BS4
      obtain ⟨a1, n1, c1, L, r, rfl, hn1, HP1, Hsuf, HR, BS⟩ := hrel
      have hr1 : Hid (r.length = n1) := by show _ = _; have := HP1.out.len; rwa [pre_length] at this
      by_cases hz : n1 = 0
      · subst hz
        have j1 : ¬ (0 : Int) < ((0 : Nat) : Int) := by omega
        obtain rfl : r = [] := List.eq_nil_of_length_eq_zero hr1.out
        have hE := Lib.hid (BS.out.done Hb.out (grow_end HS.out HR.out H2.out Hv.out H0.out hbb.out))
        go_wp2_with fail
        go_ret
        exact hE.out
      · obtain ⟨b, g, r2, e1, hg, sg, hb256, hbL, hr2, hnext⟩ := HR.out.next (fun e => by rw [e] at hr1; exact hz hr1.out.symm)
        have E1 := Lib.hid e1
        have hr2 := Lib.hid hr2
        have hnext := Lib.hid hnext
        have hbL := Lib.hid hbL
        have hgN : Hid (g.length ≤ N) := group_small HS.out H2.out HR.out e1 (by have := Hn2.out; omega)
        have hg0 := Lib.hid hg
        obtain ⟨G, hG⟩ : ∃ G, G = g.length := ⟨_, rfl⟩
        have HG := Lib.hid hG
        have hG1 : 1 ≤ G := by
          cases g with
          | nil => exact absurd rfl hg
          | cons x g => rw [hG]; simp
        have hGn : G ≤ n1 := by rw [hG, ← hr1.out, e1]; simp
        obtain ⟨p1, p3, n3, c3, rfl, z1, z2, z3⟩ := key_at (HP1.out.below BS.out.below_) (i := 0) (by omega) (head_in e1 (m := 0) (by omega))
        rw [hq.out] at z2 z3
        simp only [Nat.zero_mul, Addr.add_zero'] at z1
        have j1 : (0 : Int) < (n1 : Int) := by omega
        have j2 : 0 < n1 := by omega
        have j3 : (0 : Int) ≤ (en : Int) := by omega
        have j4 : (en : Int) < (n3 : Int) := by omega
        clear hG hg e1 hz z2
        go_wp2_with fail
        go_loop [11] (fun vm => ∃ m : Nat, vm = .int .i64 (m : Nat) ∧ 1 ≤ m ∧ m ≤ G) (fun vm => (G - intOf vm).toNat)
        case atStart => exact ⟨1, rfl, by omega, hG1⟩
        case round =>
          clear z1 z3 j4
          obtain ⟨m, rfl, hm1, hm2⟩ := hrel
          by_cases hmG : m < G
          · obtain ⟨p1', p3', n3', c3', hp, z1, z2, z3⟩ := key_at (HP1.out.below BS.out.below_) (i := m) (by omega) (head_in E1.out (m := m) (by rw [← HG.out]; exact hmG))
            obtain rfl : p1 = p1' := by simpa using hp
            rw [hq.out] at z2 z3
            have j4 : (en : Int) < (n3' : Int) := by omega
            have j5 : (m : Int) < (n1 : Int) := by omega
            have j6 : (0 : Int) ≤ (m : Int) := by omega
            have hw9 : IntKind.i64.wrap (((m : Nat) : Int) + 1) = ((m + 1 : Nat) : Int) := by rw [show ((m : Nat) : Int) + 1 = ((m + 1 : Nat) : Int) by omega]; exact IntWalk.i64_in _ (by omega)
            clear hp z2
            go_wp2_with fail
            go_round
            case rel => exact ⟨m + 1, (by first | rfl | go_num), by omega, by omega⟩
            case measure => (simp [intOf]) <;> omega
          · obtain rfl : m = G := by omega
            have hT : Hid (∀ w', Below wr.heap.size wr w' → Calls Try.prog 168 #[.agg #[.pointer none, .int .u64 o], .slice (some p1) m c1, .int .i64 ((en + 1 : Nat) : Int)] w' fun e w'' => ∃ k, e = .returned (.pointer (some ⟨k, 0, none⟩)) ∧ BldT wb nn o bs val hs L g k w'') := fun w' hw' => by
              have hP2 := ((HP1.out.below BS.out.below_).below hw').to_ (hi := m) hGn
              rw [cutA_zero, HG.out, (pre_take (pfx ++ bs) E1.out).1, ← HG.out] at hP2
              have hbnd : ∀ x ∈ pre (pfx ++ bs ++ [b]) g, x.1.length ≤ 65535 := fun x hx => by
                refine Hk2.out x ?_
                obtain ⟨pr, e2⟩ := Hsuf.out
                rw [H2.out, e2, E1.out, pre_append, pre_append, pre_append, pre_pre]
                exact List.mem_append.2 (Or.inr (List.mem_append.2 (Or.inr (List.mem_append.2 (Or.inl hx)))))
              have := IH g (pfx ++ bs ++ [b]) (some p1) m c1 w' hgN.out hg0.out hP2 sg hbnd
              rw [show (pfx ++ bs ++ [b]).length = en + 1 by rw [List.length_append, hq.out]; rfl] at this
              exact this.mono fun e w'' q => (BS.out.below hw').kid q
            have hSK : Hid (∀ k w', BldT wb nn o bs val hs L g k w' → Calls Try.prog 27 #[.pointer (some ⟨nn, 0, none⟩), .int .u64 o, .int .u8 (b : Nat), .pointer (some ⟨k, 0, none⟩)] w' fun e w'' => e = .returned (.int .i64 0) ∧ ∃ t, BldS wb nn o bs val hs (L ++ [(b, t)]) w'' ∧ IsN t ∧ TOk t ∧ Can t ∧ tl t = g) := fun k w' q => q.set ho hb256 hbL.out
            have hcutG : ∀ w, (Instr.slice 68 (.slice (some p1) n1 c1) none (some (.int .i64 (m : Nat))) none).run Try.prog w = .ok (.slice (some p1) m c1) w := fun w => by rw [run_toA w (some p1) n1 c1 m (Nat.le_trans hGn HP1.out.cap), cutA_zero]
            have hcutR : ∀ w, (Instr.slice 68 (.slice (some p1) n1 c1) (some (.int .i64 (m : Nat))) none none).run Try.prog w = .ok (.slice (cutA (some p1) c1 m 2) (n1 - m) (c1 - m)) w := fun w => run_fromA w (some p1) n1 c1 m hGn
            have hP5 := HP1.out.from_ (lo := m) hGn
            rw [HG.out, (pre_take (pfx ++ bs) E1.out).2, ← HG.out] at hP5
            replace hP5 := Lib.hid hP5
            have hsuf5 : Hid (∃ pre_, l3 = pre_ ++ r2) := by
              obtain ⟨pr, e2⟩ := Hsuf.out
              exact ⟨pr ++ pre [b] g, by rw [e2, E1.out, List.append_assoc]⟩
            have hwe : IntKind.i64.wrap ((en : Int) + 1) = ((en + 1 : Nat) : Int) := by rw [show (en : Int) + 1 = ((en + 1 : Nat) : Int) by omega]; exact IntWalk.i64_in _ (by omega)
            have j6 : (0 : Int) ≤ (m : Int) := by omega
            have j7 : (m : Int) ≤ (n1 : Int) := by omega
            have j8 : (m : Int) ≤ (c1 : Int) := by have := HP1.out.cap; omega
            obtain ⟨y0, y1, _, _⟩ := hKx.out wr BS.out.below_
            have hB1 := Lib.hid hKx.out
            have hBr : Hid (∀ k, Below wr.heap.size wr (wr.drewN k)) := fun k => below_drewN (Below.refl _ _) k
            by_cases hend : m < n1
            · obtain ⟨d, s, e5, hd⟩ := head_out E1.out hr2.out (by rw [← HG.out, hr1.out]; exact hend)
              rw [← HG.out] at e5
              obtain ⟨p1', p3', n3', c3', hp, z1, z2, z3⟩ := key_at (HP1.out.below BS.out.below_) (i := m) hend e5
              obtain rfl : p1 = p1' := by simpa using hp
              rw [hq.out] at z2 z3
              have j4 : (en : Int) < (n3' : Int) := by omega
              have j5 : (m : Int) < (n1 : Int) := by omega
              have j9 : (((d : Nat) : Int) == ((b : Nat) : Int)) = false := by rw [beq_eq_false_iff_ne]; omega
              clear hp z2 e5
              go_wp2_with fail
              go_region_held3 (fun w' => w'.cell? ⟨w.heap.size, 0, none⟩ = some (.pointer none) ∧ w'.cell? ⟨w.heap.size, 1, none⟩ = some (.int .u64 o)) (first | go_keep)
                (first | (go_at_call 27; refine (hSK.out _ _ qT.out).mono ?_; rintro e w6 ⟨rfl, t, qS, t1⟩; have qS := Lib.hid qS; obtain ⟨y4, y5, _, _⟩ := hKx.out w6 qS.out.below_) | (go_at_call 168; refine (hT.out _ (hBr.out _)).mono ?_; rintro e w5 ⟨k, rfl, qT⟩; have qT := Lib.hid qT; obtain ⟨y2, y3, _, _⟩ := hKx.out w5 qT.out.below_))
              have hR5 := Lib.hid (hnext.out t t1.1 t1.2.1 t1.2.2.1 t1.2.2.2)
              go_wp2_with fail
              go_roundw
              case rel => exact ⟨_, _, _, L ++ [(b, t)], r2, rfl, by omega, hP5, hsuf5, hR5, qS⟩
              case measure => (simp) <;> omega
            · have j5 : ¬ (m : Int) < (n1 : Int) := by omega
              go_wp2_with fail
              go_region_held3 (fun w' => w'.cell? ⟨w.heap.size, 0, none⟩ = some (.pointer none) ∧ w'.cell? ⟨w.heap.size, 1, none⟩ = some (.int .u64 o)) (first | go_keep)
                (first | (go_at_call 27; refine (hSK.out _ _ qT.out).mono ?_; rintro e w6 ⟨rfl, t, qS, t1⟩; have qS := Lib.hid qS; obtain ⟨y4, y5, _, _⟩ := hKx.out w6 qS.out.below_) | (go_at_call 168; refine (hT.out _ (hBr.out _)).mono ?_; rintro e w5 ⟨k, rfl, qT⟩; have qT := Lib.hid qT; obtain ⟨y2, y3, _, _⟩ := hKx.out w5 qT.out.below_))
              have hR5 := Lib.hid (hnext.out t t1.1 t1.2.1 t1.2.2.1 t1.2.2.2)
              go_wp2_with fail
              go_roundw
              case rel => exact ⟨_, _, _, L ++ [(b, t)], r2, rfl, by omega, hP5, hsuf5, hR5, qS⟩
              case measure => (simp) <;> omega
end Go.Proofs.Ytkonbldjmcccmaa
/- canon.Build where no meter counts. -/
namespace Go.Proofs.Ytkonbldjmcccmaa
open Go.RowKit
theorem maker_tree (o : Int) (ho : o ≠ 0) : ∀ N, TreeAsk o N
  | 0 => fun l pfx a n c w h h0 => absurd (List.eq_nil_of_length_eq_zero (by omega)) h0
  | N + 1 => fun l pfx a n c w hN h0 h hs hk => by
    by_cases h2 : 2 ≤ l.length
    · exact tree_many o ho N (maker_tree o ho N) l pfx a n c w hN h2 h hs hk
    · match l, h0, h2 with
      | [(k, v)], _, _ =>
        obtain rfl : n = 1 := h.len.symm
        exact tree_one o k v pfx a c w h (hk (pfx ++ k, v) (by simp [pre]))
      | _ :: _ :: _, _, h2 => exact absurd (by simp) h2
/-- a tree that stands among nodes; none: nobody -/
def TreeV (Q : List NP) (t : Tr) (v : Value) : Prop := (t = .nil ∧ v = .pointer none) ∨ (IsN t ∧ TreeIn Q 0 t v [])
def BuiltPost (l : PL) (w : World) (e : Ending) (w' : World) : Prop :=
  ∃ (t : Tr) (a : Option Addr) (Q : List NP), e = .returned (.tuple #[.pointer a, .int .i64 0]) ∧ StoreP NoB w w' Q ∧ TreeV Q t (.pointer a) ∧ TOk t ∧ Can t ∧ tl t = l
theorem chkE_ok {l : PL} (hs : PSrt l) (hk : ∀ x ∈ l, x.1.length ≤ 65535) : chkE l = 0 := by
  unfold chkE
  rw [farL_no (fun i hi => hk _ (mem_getD hi)), srtB_srt.2 hs]
  rfl
set_option maxHeartbeats 1000000 in
theorem canon_build (o : Int) (ho : o ≠ 0) (w : World) (a : Option Addr) (n c : Nat) (l : PL) (h : Prs w a n c l) (hs : PSrt l) (hk : ∀ x ∈ l, x.1.length ≤ 65535) :
    Calls Try.prog 105 #[.pointer none, .int .u64 o, .slice a n c] w (BuiltPost l w) := by
  have hC := canon_check w a n c l h
  rw [chkE_ok hs hk] at hC
  replace hC := Lib.hid hC
  have hT : Hid (∀ w', Below w.heap.size w w' → Calls Try.prog 168 #[.agg #[.pointer none, .int .u64 o], .slice a n c, .int .i64 0] w' fun e w'' => ∃ (t : Tr) (a : Option Addr) (Q : List NP), e = .returned (.pointer a) ∧ StoreP NoB w w'' Q ∧ TreeV Q t (.pointer a) ∧ TOk t ∧ Can t ∧ tl t = l) := fun w' hw' => by
    by_cases h0 : l = []
    · subst h0
      obtain rfl : n = 0 := h.len.symm
      go_enter Try.func168, Try.ntmps168
      go_wp2_with fail
      go_ret
      exact ⟨.nil, none, [], rfl, StoreP.nil _ (Mod.of_below (hw'.alloc hw'.size _)), Or.inl ⟨rfl, rfl⟩, trivial, trivial, rfl⟩
    · have := maker_tree o ho l.length l [] a n c w' (Nat.le_refl _) h0 (by rw [pre_none]; exact h.below hw') hs (by rw [pre_none]; exact hk)
      refine Calls.mono this ?_
      rintro e w'' ⟨t, k, Q, rfl, q1, q2, q3, q4, q5, q6⟩
      exact ⟨t, some ⟨k, 0, none⟩, Q, rfl, q1.rebase hw', Or.inr ⟨q3, q2⟩, q4, q5, q6⟩
  clear h hs hk
  go_enter Try.func105, Try.ntmps105
  go_wp2_with (first | (go_at_call 168; refine (hT.out _ B.out).mono ?_; rintro e w2 ⟨t, a2, Q, rfl, q⟩; have q := Lib.hid q) | (go_at_call 167; refine hC.out.mono ?_; rintro e w1 ⟨rfl, hb⟩; have B := Lib.hid hb; clear hb))
  go_ret2
  exact ⟨t, a2, Q, rfl, q.out⟩
end Go.Proofs.Ytkonbldjmcccmaa
/- Slices that a call made itself, of things of several cells; append to them; pairs in such a slice. -/
namespace Go.Proofs.Ytkonbldjmcccmaa
open Go.RowKit
/-- an owned slice: n things of sz cells each -/
def OwnS (sz ty : Nat) (w : World) (v : Value) (n : Nat) (xs : List Value) (bo : Option Nat) : Prop :=
  (v = .slice none 0 0 ∧ n = 0 ∧ xs = [] ∧ bo = none) ∨
  (∃ g cap cur, bo = some g ∧ v = .slice (some ⟨g, 0, none⟩) n cap ∧ w.heap[g]? = some (.cells cur ty (0, 0)) ∧ n ≤ cap ∧ cap ≤ maxLen ∧ cur.size = cap * sz ∧ cur.toList.take (n * sz) = xs ∧ xs.length = n * sz)
section
variable {sz ty n : Nat} {w w' : World} {v : Value} {xs : List Value} {bo : Option Nat}
theorem OwnS.nil (sz ty : Nat) (w : World) : OwnS sz ty w (.slice none 0 0) 0 [] none := Or.inl ⟨rfl, rfl, rfl, rfl⟩
theorem OwnS.len (h : OwnS sz ty w v n xs bo) : ∃ a c, v = .slice a n c ∧ n ≤ c ∧ c ≤ maxLen ∧ (a = none → n = 0 ∧ c = 0) := by
  rcases h with ⟨rfl, rfl, _⟩ | ⟨g, cap, cur, _, rfl, _, h1, h2, _⟩
  · exact ⟨_, _, rfl, Nat.le_refl _, Nat.zero_le _, fun _ => ⟨rfl, rfl⟩⟩
  · exact ⟨_, _, rfl, h1, h2, fun e => by cases e⟩
theorem OwnS.keep (h : OwnS sz ty w v n xs bo) (hk : ∀ g, bo = some g → w'.heap[g]? = w.heap[g]?) : OwnS sz ty w' v n xs bo := by
  rcases h with h | ⟨g, cap, cur, rfl, hv, hg, r⟩
  · exact Or.inl h
  · exact Or.inr ⟨g, cap, cur, rfl, hv, (hk g rfl).trans hg, r⟩
theorem OwnS.lt {g : Nat} (h : OwnS sz ty w v n xs (some g)) : g < w.heap.size := by
  rcases h with ⟨_, _, _, h⟩ | ⟨g', cap, cur, e, _, hg, _⟩
  · cases h
  · cases e; exact (Array.getElem?_eq_some_iff.1 hg).1
theorem OwnS.below (h : OwnS sz ty w v n xs bo) (hb : Below w.heap.size w w') : OwnS sz ty w' v n xs bo := h.keep fun g e => hb.block g (by subst e; exact h.lt)
theorem OwnS.drewN (h : OwnS sz ty w v n xs bo) (k : Nat) : OwnS sz ty (w.drewN k) v n xs bo := h.keep fun _ _ => rfl
/-- a cell of it -/
theorem OwnS.at_ (h : OwnS sz ty w v n xs bo) {j : Nat} (hj : j < n * sz) : ∃ g cap, bo = some g ∧ v = .slice (some ⟨g, 0, none⟩) n cap ∧ w.cell? ⟨g, j, none⟩ = xs[j]? ∧ w.frozen? ⟨g, j, none⟩ = false := by
  rcases h with ⟨_, rfl, _⟩ | ⟨g, cap, cur, rfl, rfl, hg, hl, hm, hs, ht, _⟩
  · simp at hj
  · refine ⟨g, cap, rfl, rfl, ?_, frozen_of_blk hg j⟩
    rw [cell_of_row w g j cur ty (0, 0) hg, ← take_get ht hj]
    simp
theorem OwnS.set {g : Nat} (h : OwnS sz ty w v n xs (some g)) (j : Nat) (x : Value) : OwnS sz ty (w.setCell ⟨g, j, none⟩ x) v n (xs.set j x) (some g) := by
  rcases h with ⟨_, _, _, h⟩ | ⟨g', cap, cur, e, hv, hg, hl, hm, hs, ht, hxl⟩
  · cases h
  · cases e
    refine Or.inr ⟨g, cap, cur.setIfInBounds j x, rfl, hv, ?_, hl, hm, by simpa using hs, ?_, by simpa using hxl⟩
    · rw [setCell_eq_setRow w g j cur ty (0, 0) x hg, setRow_heap w g _ _ _ _ hg]
    · simp only [Array.toList_setIfInBounds]
      rw [List.take_set, ht]
theorem OwnS.modNew {base : Nat} (h : OwnS sz ty w v n xs bo) (hb : bo = none ∨ ∃ g, bo = some g ∧ base ≤ g) (hm : Mod (fun k => bo = some k) w w') (hs : base ≤ w.heap.size) : Below base w w' :=
  ⟨hm.os, hm.tape, hm.output, hm.size, fun j hj => hm.same j (by omega) fun e => by
    rcases hb with e2 | ⟨g, e2, h⟩
    · rw [e2] at e; cases e
    · rw [e2] at e; cases e; omega⟩
end
section
variable {P : Program}
theorem run_append_s (w : World) (t ty e : TypeId) (i : TypeInfo) (z : Value) (sz bytes : Nat) (ht : P.underlying t = some (.slice e)) (hi : P.info? e = some i) (hz : i.zero = some z)
    (hsize : i.size = sz) (hby : i.bytes = bytes) (hzs : z.cells.size = sz) (hsz : 0 < sz)
    (v : Value) (n : Nat) (xs : List Value) (bo : Option Nat) (hown : OwnS sz e w v n xs bo)
    (a : Addr) (m c : Nat) (news : List Value) (hl : news.length = m * sz) (hnews : ∀ j u, news[j]? = some u → w.cell? (a.add j) = some u) (h1 : ∀ u ∈ news, u.oneCell' = true)
    (h63 : n + m ≤ maxLen) (hbytes : (n + m) * bytes ≤ 140737488355328) :
    ∃ v' w' bo', (Builtin.append_ #[t, t] ty #[v, .slice (some a) m c]).run P w = .ok v' w' ∧ OwnS sz e w' v' (n + m) (xs ++ news) bo' ∧ Mod (fun k => bo = some k) w w' ∧ NewOr w bo bo' := by
  have hadd : (n + m) * sz = n * sz + m * sz := Nat.add_mul _ _ _
  have fresh : ∀ v' w', w'.ownsRow w.heap.size e sz v' (n + m) (xs ++ news) → xs.length = n * sz → ∃ bo', OwnS sz e w' v' (n + m) (xs ++ news) bo' ∧ (bo' = none ∨ ∃ g, bo' = some g ∧ w.heap.size ≤ g) := by
    intro v' w' ho hxl
    have hlen : (xs ++ news).length = (n + m) * sz := by rw [List.length_append, hxl, hl, hadd]
    rcases ho.2 with ⟨rfl, h0⟩ | ⟨g, cap, cur, rfl, hb, hg, h2, h3, h4, h5⟩
    · rw [h0] at hlen
      simp only [Nat.zero_mul] at hlen
      exact ⟨none, Or.inl ⟨rfl, h0, List.eq_nil_of_length_eq_zero hlen, rfl⟩, Or.inl rfl⟩
    · exact ⟨some g, Or.inr ⟨g, cap, cur, rfl, rfl, hg, h2, h3, h4, h5, hlen⟩, Or.inr ⟨g, rfl, hb⟩⟩
  rcases hown with ⟨rfl, rfl, rfl, rfl⟩ | ⟨g, cap, cur, rfl, rfl, hg, hnc, hcm, hcs, htake, hxl⟩
  · obtain ⟨v', w', hr, h2, h3, _⟩ := run_append_own (P := P) w w.heap.size t ty e i z sz bytes ht hi hz hsize hby hzs hsz (.slice none 0 0) 0 [] (World.ownsRow_nil w _ e sz) a m c news hl hnews h1 h63 hbytes (Nat.le_refl _)
    obtain ⟨bo', ho, hn⟩ := fresh v' w' (by simpa using h2) (by simp)
    refine ⟨v', w', bo', hr, by simpa using ho, ⟨h3.os, h3.tape, h3.output, h3.size, fun k hk _ => h3.block k hk (by simp [Value.ownBlock])⟩, ?_⟩
    rcases hn with rfl | h
    · exact Or.inl rfl
    · exact Or.inr h
  · by_cases hroom : n + m ≤ cap
    · have hcs2 : cap * sz = n * sz + (cap - n) * sz := by rw [← Nat.add_mul, Nat.add_sub_cancel' hnc]
      have hm2 : m * sz ≤ (cap - n) * sz := Nat.mul_le_mul_right _ (by omega)
      have hr := run_append_room (P := P) w t ty e i ht hi g n cap cur hg a m c news (by rw [hsize]; exact hl) hnews h1 hroom (by rw [hsize]; omega)
      refine ⟨_, _, some g, hr, Or.inr ⟨g, cap, _, rfl, rfl, setRow_heap w g cur _ e _ hg, hroom, hcm, ?_, ?_, by rw [List.length_append, hxl, hl, hadd]⟩, (Mod.refl _ w).setRow g _ (fun _ => rfl), Or.inl rfl⟩
      · simp [hsize]; omega
      · simp only [hsize]
        have hlen : (cur.toList.take (n * sz) ++ news).length = (n + m) * sz := by rw [htake, List.length_append, hxl, hl, hadd]
        rw [htake] at hlen ⊢
        rw [← hlen]
        exact List.take_left
    · have holds : ∀ j u, xs[j]? = some u → w.cell? ((⟨g, 0, none⟩ : Addr).add j) = some u := by
        intro j u hj
        have hjl : j < n * sz := by
          by_cases h : j < n * sz
          · exact h
          · rw [List.getElem?_eq_none (by omega)] at hj; simp at hj
        rw [add0, cell_of_row w g j cur _ (0, 0) hg, ← hj, ← take_get htake hjl]
        simp
      obtain ⟨v', w', hr, h2, h3⟩ := run_append_arg_grows (P := P) w t ty e i z sz bytes ht hi hz hsize hby hzs hsz ⟨g, 0, none⟩ n cap xs hxl holds a m c news hl hnews (by omega) h63 hbytes
      obtain ⟨bo', ho, hn⟩ := fresh v' w' h2 hxl
      refine ⟨v', w', bo', hr, ho, ⟨h3.os, h3.tape, h3.output, h3.size, fun k hk _ => h3.block k hk (by simp)⟩, ?_⟩
      rcases hn with rfl | h
      · rcases ho with ⟨_, h0, _⟩ | ⟨_, _, _, h0, _⟩
        · omega
        · simp at h0
      · exact Or.inr h
theorem wpList_append_s {w : World} {ops : Array Oper} {rest : List Oper} {o : Oper} {a : Act} {Q : Exit → Act → World → Prop} (hgd : o.guard = none) (s x : Operand) (t : TypeId)
    (ho : o.op = .call { callee := .builtin .append, args := #[s, x], argTypes := #[t, t] }) (e : TypeId) (z : Value) (sz bytes : Nat) (ht : P.underlying t = some (.slice e)) (hinfo : (P.info? e).map (fun i => (i.zero, i.size, i.bytes)) = some (some z, sz, bytes)) (hzs : z.cells.size = sz) (hsz : 0 < sz)
    (v : Value) (hs : a.eval s = v) (n : Nat) (xs : List Value) (bo : Option Nat) (hown : OwnS sz e w v n xs bo)
    (ad : Addr) (m c : Nat) (news : List Value) (hx : a.eval x = .slice (some ad) m c) (hl : news.length = m * sz) (hnews : ∀ j u, news[j]? = some u → w.cell? (ad.add j) = some u) (h1 : ∀ u ∈ news, u.oneCell' = true)
    (h63 : n + m ≤ maxLen) (hbytes : (n + m) * bytes ≤ 140737488355328)
    (h : ∀ v' w' bo', Hid (OwnS sz e w' v' (n + m) (xs ++ news) bo') → Hid (Mod (fun k => bo = some k) w w') → Hid (NewOr w bo bo') → wpList P ops Q rest (a.put o.dst v') w') : wpList P ops Q (o :: rest) a w := by
  obtain ⟨i, hi, hz, hsize, hby⟩ := info_parts hinfo
  refine wpList_plain hgd fun K hK => ?_
  obtain ⟨v', w', bo', hr, h2, h3, h4⟩ := run_append_s (P := P) w t o.type e i z sz bytes ht hi hz hsize hby hzs hsz v n xs bo hown ad m c news hl hnews h1 h63 hbytes
  unfold Oper.wp execOp
  simp only [ho, resolve, invoke, builtin, Sem.run_bind, Sem.run_pure, Result.andThen_ok, List.map_toArray, List.map_cons, List.map_nil, hs, hx, hr]
  exact hK _ _ (h v' w' bo' h2 h3 h4)
theorem step_append_s {w : World} {ops : Array Oper} {o : Oper} {a : Act} {K : Act → World → Prop} {Q : Exit → Act → World → Prop} {E : Prop} (hgd : o.guard = none) (s x : Operand) (t : TypeId)
    (ho : o.op = .call { callee := .builtin .append, args := #[s, x], argTypes := #[t, t] }) (e : TypeId) (z : Value) (sz bytes : Nat) (ht : P.underlying t = some (.slice e)) (hinfo : (P.info? e).map (fun i => (i.zero, i.size, i.bytes)) = some (some z, sz, bytes)) (hzs : z.cells.size = sz) (hsz : 0 < sz)
    (v : Value) (hs : a.eval s = v) (n : Nat) (xs : List Value) (bo : Option Nat) (hown : OwnS sz e w v n xs bo)
    (ad : Addr) (m c : Nat) (news : List Value) (hx : a.eval x = .slice (some ad) m c) (hl : news.length = m * sz) (hnews : ∀ j u, news[j]? = some u → w.cell? (ad.add j) = some u) (h1 : ∀ u ∈ news, u.oneCell' = true)
    (h63 : n + m ≤ maxLen) (hbytes : (n + m) * bytes ≤ 140737488355328)
    (h : ∀ v' w' bo', Hid (OwnS sz e w' v' (n + m) (xs ++ news) bo') → Hid (Mod (fun k => bo = some k) w w') → Hid (NewOr w bo bo') → K (a.put o.dst v') w') :
    if Region.wanted o (yielded ops a.tmps) = true then Oper.wp P o a w K Q else E := by
  have hw : Region.wanted o (yielded ops a.tmps) = true := by simp [Region.wanted, hgd]
  rw [if_pos hw]
  obtain ⟨i, hi, hz, hsize, hby⟩ := info_parts hinfo
  obtain ⟨v', w', bo', hr, h2, h3, h4⟩ := run_append_s (P := P) w t o.type e i z sz bytes ht hi hz hsize hby hzs hsz v n xs bo hown ad m c news hl hnews h1 h63 hbytes
  unfold Oper.wp execOp
  simp only [ho, resolve, invoke, builtin, Sem.run_bind, Sem.run_pure, Result.andThen_ok, List.map_toArray, List.map_cons, List.map_nil, hs, hx, hr]
  exact h v' w' bo' h2 h3 h4
end
/-! Pairs in such a slice. -/
abbrev EL := List (Value × Int)
def flat (es : EL) : List Value := es.flatMap fun e => [e.1, .int .u64 e.2]
@[simp] theorem flat_len (es : EL) : (flat es).length = es.length * 2 := by
  induction es with
  | nil => rfl
  | cons e es ih => simp only [flat, List.flatMap_cons, List.length_append] at ih ⊢; rw [ih]; simp; omega
theorem flat_append (es fs : EL) : flat (es ++ fs) = flat es ++ flat fs := by simp [flat]
theorem flat_get (es : EL) (i : Nat) (h : i < es.length) : (flat es)[i * 2]? = some (es[i]).1 ∧ (flat es)[i * 2 + 1]? = some (.int .u64 (es[i]).2) := by
  induction es generalizing i with
  | nil => simp at h
  | cons e es ih =>
    cases i with
    | zero => exact ⟨rfl, rfl⟩
    | succ i =>
      have := ih i (by simpa using h)
      have e1 : flat (e :: es) = e.1 :: .int .u64 e.2 :: flat es := rfl
      rw [e1, show (i + 1) * 2 = i * 2 + 1 + 1 by omega]
      simpa using this
theorem flat_set (es : EL) (i : Nat) (x : Value × Int) : flat (es.set i x) = ((flat es).set (i * 2) x.1).set (i * 2 + 1) (.int .u64 x.2) := by
  induction es generalizing i with
  | nil => simp [flat]
  | cons e es ih =>
    cases i with
    | zero => rfl
    | succ i =>
      have e1 : ∀ e es, flat (e :: es) = e.1 :: .int .u64 e.2 :: flat es := fun _ _ => rfl
      rw [List.set_cons_succ, e1, ih, e1, show (i + 1) * 2 = i * 2 + 1 + 1 by omega]
      simp
def EntOk (w : World) (e : Value × Int) (p : List Nat × Int) : Prop := (∃ a n c, e.1 = .slice a n c ∧ Sl w a n c p.1) ∧ e.2 = p.2 ∧ 0 ≤ p.2 ∧ p.2 < 18446744073709551616
theorem EntOk.below {w w' : World} {e : Value × Int} {p : List Nat × Int} (h : EntOk w e p) (hb : Below w.heap.size w w') : EntOk w' e p := by
  obtain ⟨⟨a, n, c, h1, h2⟩, h3⟩ := h; exact ⟨⟨a, n, c, h1, h2.below hb⟩, h3⟩
/-- what stands there is those pairs -/
def Ents (w : World) (es : EL) (l : PL) : Prop := es.length = l.length ∧ ∀ i (h : i < es.length) (h' : i < l.length), EntOk w es[i] l[i]
theorem Ents.below {w w' : World} {es : EL} {l : PL} (h : Ents w es l) (hb : Below w.heap.size w w') : Ents w' es l := ⟨h.1, fun i h1 h2 => (h.2 i h1 h2).below hb⟩
theorem ents_nil (w : World) : Ents w [] [] := ⟨rfl, fun i h => by simp at h⟩
theorem Ents.snoc {w : World} {es : EL} {l : PL} (h : Ents w es l) {e : Value × Int} {p : List Nat × Int} (hp : EntOk w e p) : Ents w (es ++ [e]) (l ++ [p]) := by
  refine ⟨by simp [h.1], fun i h1 h2 => ?_⟩
  by_cases hi : i < es.length
  · rw [List.getElem_append_left hi, List.getElem_append_left (by rw [← h.1]; exact hi)]
    exact h.2 i hi _
  · have e1 : i = es.length := by simp at h1; omega
    subst e1
    have e2 : (l ++ [p])[es.length] = p := by
      rw [List.getElem_append_right (by rw [h.1]; exact Nat.le_refl _)]
      simp [h.1]
    rw [e2]
    simpa using hp
theorem Ents.set {w : World} {es : EL} {l : PL} (h : Ents w es l) (i : Nat) {e : Value × Int} {p : List Nat × Int} (hp : EntOk w e p) : Ents w (es.set i e) (l.set i p) := by
  refine ⟨by simp [h.1], fun j h1 h2 => ?_⟩
  rw [List.getElem_set, List.getElem_set]
  split
  · exact hp
  · exact h.2 j (by simpa using h1) (by simpa using h2)
theorem Ents.at_ {w : World} {es : EL} {l : PL} (h : Ents w es l) {i : Nat} (hi : i < l.length) : ∃ h', EntOk w (es[i]'h') l[i] := ⟨by rw [h.1]; exact hi, h.2 i _ hi⟩
/-- such a slice is a slice of pairs -/
theorem prs_of_own {ty : Nat} {w : World} {v : Value} {n : Nat} {es : EL} {bo : Option Nat} {l : PL} (h : OwnS 2 ty w v n (flat es) bo) (he : Ents w es l) : ∃ a c, v = .slice a n c ∧ Prs w a n c l := by
  obtain ⟨a, c, rfl, h1, h2, h3⟩ := h.len
  have hn : es.length = n := by
    rcases h with ⟨_, rfl, h, _⟩ | ⟨_, _, _, _, _, _, _, _, _, _, h⟩
    · have := congrArg List.length h; rw [flat_len, List.length_nil] at this; omega
    · rw [flat_len] at h; omega
  refine ⟨a, c, rfl, by rw [← he.1, hn], h1, h2, h3, fun x hx => ?_, fun i hi => ?_⟩
  · obtain ⟨i, hi, rfl⟩ := List.getElem_of_mem hx
    obtain ⟨h', q⟩ := he.at_ hi
    exact q.2.2
  · obtain ⟨h', ⟨⟨a3, n3, c3, q1, q2⟩, q3, _⟩⟩ := he.at_ hi
    obtain ⟨g, cap, rfl, e1, q4, _⟩ := h.at_ (j := i * 2) (by omega)
    obtain ⟨g2, cap2, e2, _, q5, _⟩ := h.at_ (j := i * 2 + 1) (by omega)
    obtain rfl : g = g2 := by simpa using e2
    obtain ⟨f1, f2⟩ := flat_get es i h'
    rw [f1, q1] at q4
    rw [f2, q3] at q5
    have ea : a = some ⟨g, 0, none⟩ := by injection e1
    refine ⟨⟨g, 0, none⟩, ea, ?_, a3, n3, c3, ?_, ?_, ?_⟩
    · rw [add_block]; exact h.lt
    · rw [add0]; exact q4
    · rw [add0, getD_of_lt hi]; exact q5
    · rw [getD_of_lt hi]; exact q2
end Go.Proofs.Ytkonbldjmcccmaa
/- The law's tree: the document's pairs made the program's, and built. -/
namespace Go.Proofs.Ytkonbldjmcccmaa
open Go.RowKit
abbrev apT : Nat := 71
abbrev kpT : Nat := 78
theorem apInfo : (Try.prog.info? apT).map (fun i => (i.zero, i.size, i.bytes)) = some (some (.agg #[.slice none 0 0, .int .u64 0]), 2, 32) := by kernel_rfl
theorem kpInfo : (Try.prog.info? kpT).map (fun i => (i.zero, i.size, i.bytes)) = some (some (.agg #[.slice none 0 0, .int .u64 0]), 2, 32) := by kernel_rfl
/-- a pair that was just laid -/
theorem pair_news (w : World) (x : Value) (y : Int) (t : TypeId) : ∀ j u, ([x, .int .u64 y] : List Value)[j]? = some u → (w.alloc (.cells #[x, .int .u64 y] t)).cell? ((⟨w.heap.size, 0, none⟩ : Addr).add j) = some u := fun j u h => by
  have hb : (w.alloc (.cells #[x, .int .u64 y] t)).heap[w.heap.size]? = some (.cells [x, .int .u64 y].toArray t (0, 0)) := heap_alloc_new w _
  rw [add0, cell_of_blk hb]
  exact h
theorem oneP {a : Option Addr} {n c : Nat} {y : Int} : ∀ u ∈ ([.slice a n c, .int .u64 y] : List Value), u.oneCell' = true := by
  intro u hu
  simp only [List.mem_cons, List.not_mem_nil, or_false] at hu
  rcases hu with rfl | rfl <;> rfl
theorem NewOr.since {w w2 : World} {bo bo1 : Option Nat} (hn : NewOr w2 bo bo1) (hbo : bo = none ∨ ∃ g, bo = some g ∧ w.heap.size ≤ g) (hs : w.heap.size ≤ w2.heap.size) : bo1 = none ∨ ∃ g, bo1 = some g ∧ w.heap.size ≤ g := by
  rcases hn with e | ⟨g, e, hg⟩
  · rw [e]; exact hbo
  · exact Or.inr ⟨g, e, by omega⟩
theorem Mod.sinceOf {w w2 w1 : World} {bo : Option Nat} (hm : Mod (fun k => bo = some k) w2 w1) (hbo : bo = none ∨ ∃ g, bo = some g ∧ w.heap.size ≤ g) (hs : w.heap.size ≤ w2.heap.size) : Below w.heap.size w2 w1 := ⟨hm.os, hm.tape, hm.output, hm.size, fun j hj => hm.same j (by omega) fun e => by
    rcases hbo with e2 | ⟨g, e2, hg⟩
    · rw [e2] at e; cases e
    · rw [e2] at e; cases e; omega⟩
/-- pairs that were laid since w; their keys are of w -/
def PLs (ty : Nat) (w : World) (v : Value) (l : PL) (wr : World) : Prop := ∃ es bo, OwnS 2 ty wr v l.length (flat es) bo ∧ Ents w es l ∧ (bo = none ∨ ∃ g, bo = some g ∧ w.heap.size ≤ g) ∧ Below w.heap.size w wr
theorem PLs.nil (ty : Nat) (w : World) : PLs ty w (.slice none 0 0) [] w := ⟨[], none, OwnS.nil _ _ _, ents_nil w, Or.inl rfl, Below.refl _ _⟩
theorem PLs.below {ty : Nat} {w wr w' : World} {v : Value} {l : PL} (h : PLs ty w v l wr) (hb : Below wr.heap.size wr w') : PLs ty w v l w' := by
  obtain ⟨es, bo, h1, h2, h3, h4⟩ := h
  exact ⟨es, bo, h1.below hb, h2, h3, h4.trans (hb.mono h4.size)⟩
theorem PLs.below_ {ty : Nat} {w wr : World} {v : Value} {l : PL} (h : PLs ty w v l wr) : Below w.heap.size w wr := by
  obtain ⟨_, _, _, _, _, h⟩ := h; exact h
theorem PLs.prs {ty : Nat} {w wr : World} {v : Value} {l : PL} (h : PLs ty w v l wr) : ∃ a c, v = .slice a l.length c ∧ Prs wr a l.length c l := by
  obtain ⟨es, bo, h1, h2, h3, h4⟩ := h
  exact prs_of_own h1 (h2.below h4)
/-- what append is asked for, and what it gives -/
theorem PLs.ask {ty : Nat} {w wr : World} {v : Value} {l : PL} (h : PLs ty w v l wr) {a3 : Option Addr} {n3 c3 : Nat} {x : List Nat} {y : Int} (hs : Sl w a3 n3 c3 x) (hv : 0 ≤ y ∧ y < 18446744073709551616) (t2 : TypeId) (w0 : World) (h0 : Below wr.heap.size wr w0) :
    ∃ es bo, OwnS 2 ty w0 v l.length (flat es) bo ∧ ∀ v1 w1 bo1, OwnS 2 ty w1 v1 (l.length + 1) (flat es ++ [.slice a3 n3 c3, .int .u64 y]) bo1 → Mod (fun k => bo = some k) w0 w1 → NewOr w0 bo bo1 → PLs ty w v1 (l ++ [(x, y)]) w1 := by
  obtain ⟨es, bo, h1, h2, h3, h4⟩ := h.below h0
  refine ⟨es, bo, h1, fun v1 w1 bo1 q1 q2 q3 => ⟨es ++ [(.slice a3 n3 c3, y)], bo1, ?_, h2.snoc ⟨⟨_, _, _, rfl, hs⟩, rfl, hv⟩, q3.since h3 h4.size, h4.trans (q2.sinceOf h3 h4.size)⟩⟩
  rw [flat_append, List.length_append]
  exact q1
set_option maxHeartbeats 1000000 in
set_option maxRecDepth 100000 in
theorem law_tree (w : World) (a : Option Addr) (n c : Nat) (l : PL) (h : Prs w a n c l) (hn : n ≤ 100000) (hs : PSrt l) (hk : ∀ x ∈ l, x.1.length ≤ 65535) :
    Calls Try.prog 38 #[.slice a n c] w fun e w' => ∃ (t : Tr) (a : Option Addr) (Q : List NP), e = .returned (.pointer a) ∧ StoreP NoB w w' Q ∧ TreeV Q t (.pointer a) ∧ TOk t ∧ Can t ∧ tl t = l := by
  have H := Lib.hid h
  have hl := Lib.hid h.len
  have hs := Lib.hid hs
  have hk := Lib.hid hk
  have h0 := Lib.hid (PLs.nil apT w)
  clear h
  go_enter Try.func38, Try.ntmps38
  go_wp2_with fail
  go_loopw [10, 3] (fun vi v3 wr => ∃ i : Nat, vi = .int .i64 (i : Nat) ∧ i ≤ n ∧ Hid (PLs apT w v3 (l.take i) wr)) (fun vi _ _ => (n - intOf vi).toNat)
  case atStart => exact ⟨0, rfl, by omega, h0⟩
  case round =>
    clear h0
    obtain ⟨i, rfl, hi, hP⟩ := hrel
    by_cases hlt : i < n
    · have hlt2 : (i : Int) < (n : Int) := by omega
      have hlt3 : i < l.length := by rw [hl.out]; exact hlt
      obtain ⟨p, a3, n3, c3, rfl, q1, q2, q3⟩ := prs_row H.out hlt
      have B := hP.out.below_
      have q1 := (B.cell (cell_lt q1)).trans q1
      have q2 := (B.cell (p := ⟨(p.add (i * 2)).block, (p.add (i * 2)).off + 1, none⟩) (cell_lt q2)).trans q2
      have hv := H.out.val (l.getD i ([], 0)) (mem_getD hlt3)
      have e1 : l.take i ++ [((l.getD i ([], 0)).1, (l.getD i ([], 0)).2)] = l.take (i + 1) := by rw [List.take_succ_eq_append_getElem hlt3, getD_of_lt]
      have e2 : (l.take i).length = i := by rw [List.length_take]; omega
      have hask := fun o1 o2 => hP.out.ask (y := (l.getD i ([], 0)).2) q3 hv 68 ((wr.alloc o1).alloc o2) (((Below.refl _ wr).alloc (Nat.le_refl _) _).alloc (by simp) _)
      rw [e1, e2] at hask
      generalize (l.getD i ([], 0)).2 = y at *
      obtain ⟨es, bo, ho, hfin⟩ := hask (.cells #[.slice a3 n3 c3, .int .u64 y] kpT) (.cells #[.slice a3 n3 c3, .int .u64 y] apT)
      have hfin := Lib.hid hfin
      have ho := Lib.hid ho
      have hnews := pair_news (wr.alloc (.cells #[.slice a3 n3 c3, .int .u64 y] kpT)) (.slice a3 n3 c3) y apT
      rw [World.size_alloc] at hnews
      have hnews := Lib.hid hnews
      have hb1 : Hid (i + 1 ≤ maxLen) := by show _ ≤ _; unfold maxLen; omega
      have hb2 : Hid ((i + 1) * 32 ≤ 140737488355328) := by show _ ≤ _; omega
      have h1 := Lib.hid (oneP (a := a3) (n := n3) (c := c3) (y := y))
      have hw9 : IntKind.i64.wrap (((i : Nat) : Int) + 1) = ((i + 1 : Nat) : Int) := by rw [show ((i : Nat) : Int) + 1 = ((i + 1 : Nat) : Int) by omega]; exact IntWalk.i64_in _ (by omega)
      clear q3 hv B e1 e2 hask
      go_wp2_with (at_builtin; go_loud (refine wpList_append_s rfl (.tmp 14) (.tmp 16) 68 rfl apT _ 2 32 Try.underlying68 apInfo rfl (by omega) u3 rfl i (flat es) bo ho.out ⟨wr.heap.size + 1, 0, none⟩ 1 1 [.slice a3 n3 c3, .int .u64 y] rfl rfl hnews.out h1.out hb1.out hb2.out ?_); intro v1 w1 bo1 HO HM HN)
      have hP2 := Lib.hid (hfin.out v1 w1 bo1 HO.out HM.out HN.out)
      go_roundw
      case rel => exact ⟨i + 1, (by first | rfl | go_num), by omega, hP2⟩
      case measure => (simp [intOf]) <;> omega
    · have hlt2 : ¬ (i : Int) < (n : Int) := by omega
      obtain rfl : i = n := by omega
      have hP2 := hP.out
      rw [List.take_of_length_le (by rw [hl.out]; exact Nat.le_refl _)] at hP2
      obtain ⟨a4, c4, e4, hq⟩ := hP2.prs
      have hBB := Lib.hid hP2.below_
      have hBld := Lib.hid (canon_build 1 (by omega) wr a4 l.length c4 l hq hs.out hk.out)
      obtain rfl := e4
      clear hP2 hq hP
      go_wp2_with (go_at_call 105; refine hBld.out.mono ?_; rintro e w2 ⟨t, a2, Q, rfl, q1, q2⟩; have q1 := Lib.hid q1; have q2 := Lib.hid q2)
      go_ret
      exact ⟨t, a2, Q, rfl, q1.out.rebase hBB.out, q2.out⟩
end Go.Proofs.Ytkonbldjmcccmaa
/- The document's Sort. -/
namespace Go.Proofs.Ytkonbldjmcccmaa
open Go.RowKit
theorem PLs.row {ty : Nat} {w wr : World} {v : Value} {l : PL} (h : PLs ty w v l wr) {i : Nat} (hi : i < l.length) : ∃ g cap a3 n3 c3, v = .slice (some ⟨g, 0, none⟩) l.length cap ∧ wr.cell? ⟨g, i * 2, none⟩ = some (.slice a3 n3 c3) ∧ wr.cell? ⟨g, i * 2 + 1, none⟩ = some (.int .u64 (l.getD i ([], 0)).2) ∧ Sl w a3 n3 c3 (l.getD i ([], 0)).1 ∧
    wr.frozen? ⟨g, i * 2, none⟩ = false ∧ wr.frozen? ⟨g, i * 2 + 1, none⟩ = false ∧ (0 ≤ (l.getD i ([], 0)).2 ∧ (l.getD i ([], 0)).2 < 18446744073709551616) := by
  obtain ⟨es, bo, h1, h2, h3, h4⟩ := h
  obtain ⟨h', ⟨⟨a3, n3, c3, q1, q2⟩, q3, q4, q5⟩⟩ := h2.at_ hi
  obtain ⟨g, cap, rfl, e1, z1, f1⟩ := h1.at_ (j := i * 2) (by omega)
  obtain ⟨g2, cap2, e2, _, z2, f2⟩ := h1.at_ (j := i * 2 + 1) (by omega)
  obtain rfl : g = g2 := by simpa using e2
  obtain ⟨y1, y2⟩ := flat_get es i h'
  rw [y1, q1] at z1
  rw [y2, q3] at z2
  rw [getD_of_lt hi]
  exact ⟨g, cap, a3, n3, c3, e1, z1, z2, q2, f1, f2, q4, q5⟩
theorem PLs.row' {ty : Nat} {w wr : World} {a0 : Option Addr} {n0 c0 : Nat} {l : PL} (h : PLs ty w (.slice a0 n0 c0) l wr) {i : Nat} (hi : i < l.length) : ∃ g a3 n3 c3, a0 = some ⟨g, 0, none⟩ ∧ wr.cell? ⟨g, i * 2, none⟩ = some (.slice a3 n3 c3) ∧ wr.cell? ⟨g, i * 2 + 1, none⟩ = some (.int .u64 (l.getD i ([], 0)).2) ∧ Sl w a3 n3 c3 (l.getD i ([], 0)).1 ∧
    wr.frozen? ⟨g, i * 2, none⟩ = false ∧ wr.frozen? ⟨g, i * 2 + 1, none⟩ = false ∧ (0 ≤ (l.getD i ([], 0)).2 ∧ (l.getD i ([], 0)).2 < 18446744073709551616) := by
  obtain ⟨g, cap, a3, n3, c3, e, r⟩ := h.row hi
  injection e with e
  exact ⟨g, a3, n3, c3, e, r⟩
theorem some_blk {g g' : Nat} (h : some (⟨g, 0, none⟩ : Addr) = some ⟨g', 0, none⟩) : g = g' := by
  injection h with h
  injection h
theorem PLs.put {ty : Nat} {w wr : World} {l : PL} {g n cap : Nat} (h : PLs ty w (.slice (some ⟨g, 0, none⟩) n cap) l wr) (i : Nat) {a3 : Option Addr} {n3 c3 : Nat} {x : List Nat} {y : Int} (hs : Sl w a3 n3 c3 x) (hv : 0 ≤ y ∧ y < 18446744073709551616) :
    PLs ty w (.slice (some ⟨g, 0, none⟩) n cap) (l.set i (x, y)) ((wr.setCell ⟨g, i * 2, none⟩ (.slice a3 n3 c3)).setCell ⟨g, i * 2 + 1, none⟩ (.int .u64 y)) := by
  obtain ⟨es, bo, h1, h2, h3, h4⟩ := h
  obtain rfl : bo = some g := by
    rcases h1 with ⟨e, _⟩ | ⟨g', cap', cur, e, e2, _⟩
    · injection e with e; cases e
    · injection e2 with e2; cases e2; exact e
  have hg : w.heap.size ≤ g := by
    rcases h3 with e | ⟨g', e, h⟩
    · cases e
    · cases e; exact h
  refine ⟨es.set i (.slice a3 n3 c3, y), some g, ?_, h2.set i ⟨⟨_, _, _, rfl, hs⟩, rfl, hv⟩, h3, (h4.setCell (p := ⟨g, i * 2, none⟩) hg _).setCell (p := ⟨g, i * 2 + 1, none⟩) hg _⟩
  rw [flat_set, List.length_set]
  exact (h1.set _ _).set _ _
theorem PLs.putVal {ty : Nat} {w wr : World} {l : PL} {g n cap : Nat} (h : PLs ty w (.slice (some ⟨g, 0, none⟩) n cap) l wr) {i : Nat} (hi : i < l.length) {y : Int} (hv : 0 ≤ y ∧ y < 18446744073709551616) :
    PLs ty w (.slice (some ⟨g, 0, none⟩) n cap) (l.set i ((l.getD i ([], 0)).1, y)) (wr.setCell ⟨g, i * 2 + 1, none⟩ (.int .u64 y)) := by
  obtain ⟨es, bo, h1, h2, h3, h4⟩ := h
  obtain rfl : bo = some g := by
    rcases h1 with ⟨e, _⟩ | ⟨g', cap', cur, e, e2, _⟩
    · injection e with e; cases e
    · injection e2 with e2; cases e2; exact e
  have hg : w.heap.size ≤ g := by
    rcases h3 with e | ⟨g', e, h⟩
    · cases e
    · cases e; exact h
  obtain ⟨h', ⟨⟨a3, n3, c3, q1, q2⟩, q3, q4⟩⟩ := h2.at_ hi
  have q2' : Sl w a3 n3 c3 (l.getD i ([], 0)).1 := by rw [getD_of_lt hi]; exact q2
  refine ⟨es.set i ((es[i]).1, y), some g, ?_, h2.set i ⟨⟨_, _, _, q1, q2'⟩, rfl, hv⟩, h3, h4.setCell (p := ⟨g, i * 2 + 1, none⟩) hg _⟩
  rw [flat_set, List.length_set]
  have e1 : (flat es).set (i * 2) (es[i]).1 = flat es := by
    obtain ⟨y1, _⟩ := flat_get es i h'
    apply List.ext_getElem?
    intro j
    rw [List.getElem?_set]
    split
    · rename_i e; subst e
      split
      · exact y1.symm
      · rename_i h; rw [flat_len] at h; omega
    · rfl
  rw [e1]
  exact h1.set _ _
theorem psrt_ins {l0 : PL} {x : List Nat × Int} {J : Nat} (h : PSrt l0) (hJ : J ≤ l0.length) (h1 : ∀ q, q < J → slt (l0.getD q ([], 0)).1 x.1) (h2 : J < l0.length → slt x.1 (l0.getD J ([], 0)).1) : PSrt (l0.take J ++ x :: l0.drop J) := by
  have hsp := h
  rw [← List.take_append_drop J l0, psrt_append] at hsp
  refine psrt_append.2 ⟨hsp.1, ?_, fun a ha b hb => ?_⟩
  · refine List.pairwise_cons.2 ⟨?_, hsp.2.1⟩
    intro c hc
    obtain ⟨y, hy, rfl⟩ := List.mem_map.1 hc
    obtain ⟨q, hq, rfl⟩ := List.getElem_of_mem hy
    rw [List.length_drop] at hq
    rw [List.getElem_drop]
    have hx := h2 (by omega)
    by_cases e : q = 0
    · subst e
      rw [getD_of_lt (by omega)] at hx
      simpa using hx
    · have := h.at_ (i := J) (j := J + q) (by omega) (by omega)
      rw [getD_of_lt (show J + q < l0.length by omega)] at this
      exact slt_trans hx this
  · obtain ⟨q, hq, rfl⟩ := List.getElem_of_mem ha
    rw [List.length_take] at hq
    rw [List.getElem_take]
    have ha := h1 q (by omega)
    rw [getD_of_lt (by omega)] at ha
    rcases List.mem_cons.1 hb with rfl | hb
    · exact ha
    · obtain ⟨p, hp, rfl⟩ := List.getElem_of_mem hb
      rw [List.length_drop] at hp
      rw [List.getElem_drop]
      have := h.at_ (i := q) (j := J + p) (by omega) (by omega)
      rw [getD_of_lt (show q < l0.length by omega), getD_of_lt (show J + p < l0.length by omega)] at this
      exact this
/-- what has been sorted of the first i -/
structure SrtI (l : PL) (i : Nat) (l0 : PL) : Prop where
  srt : PSrt l0
  len : l0.length ≤ i
  keys : ∀ y ∈ l0, ∃ z ∈ l, z.1 = y.1
theorem SrtI.ins {l : PL} {i : Nat} {l0 : PL} (h : SrtI l i l0) (hi : i < l.length) {J : Nat} (hJ : J ≤ l0.length) (h1 : ∀ q, q < J → slt (l0.getD q ([], 0)).1 (l.getD i ([], 0)).1) (h2 : J < l0.length → slt (l.getD i ([], 0)).1 (l0.getD J ([], 0)).1) : SrtI l (i + 1) (l0.take J ++ l.getD i ([], 0) :: l0.drop J) := by
  refine ⟨psrt_ins h.srt hJ h1 h2, ?_, fun y hy => ?_⟩
  · have := h.len
    rw [List.length_append, List.length_cons, List.length_take, List.length_drop]
    omega
  · rcases List.mem_append.1 hy with hy | hy
    · exact h.keys y (List.mem_of_mem_take hy)
    · rcases List.mem_cons.1 hy with rfl | hy
      · exact ⟨_, mem_getD hi, rfl⟩
      · exact h.keys y (List.mem_of_mem_drop hy)
theorem SrtI.set {l : PL} {i : Nat} {l0 : PL} (h : SrtI l i l0) (J : Nat) (hJ : J < l0.length) (y : Int) : SrtI l (i + 1) (l0.set J ((l0.getD J ([], 0)).1, y)) := by
  have e : (l0.set J ((l0.getD J ([], 0)).1, y)).map (·.1) = l0.map (·.1) := by
    rw [List.map_set, getD_of_lt hJ]
    apply List.ext_getElem?
    intro q
    rw [List.getElem?_set]
    split
    · rename_i e; subst e
      simp [hJ]
    · rfl
  refine ⟨by have := h.srt; unfold PSrt at this ⊢; rw [e]; exact this, by rw [List.length_set]; have := h.len; omega, fun x hx => ?_⟩
  have : x.1 ∈ l0.map (·.1) := by rw [← e]; exact List.mem_map_of_mem hx
  obtain ⟨z, hz, e2⟩ := List.mem_map.1 this
  rw [← e2]
  exact h.keys z hz
/-- while things are moved: the place k is free -/
def shiftL (l0 : PL) (k : Nat) (z : List Nat × Int) : PL := l0.take k ++ z :: l0.drop k
theorem shiftL_len (l0 : PL) (k : Nat) (z : List Nat × Int) : (shiftL l0 k z).length = l0.length + 1 := by
  unfold shiftL
  rw [List.length_append, List.length_cons, List.length_take, List.length_drop]
  omega
theorem shiftL_end (l0 : PL) (z : List Nat × Int) : l0 ++ [z] = shiftL l0 l0.length z := by simp [shiftL]
theorem shiftL_set (l0 : PL) (k : Nat) (z x : List Nat × Int) (h : k ≤ l0.length) : (shiftL l0 k z).set k x = shiftL l0 k x := by
  unfold shiftL
  have e : (l0.take k).length = k := by rw [List.length_take]; omega
  rw [List.set_append_right _ _ (by omega), e, Nat.sub_self]
  rfl
theorem shiftL_get (l0 : PL) (k : Nat) (z : List Nat × Int) (h : k < l0.length) : (shiftL l0 (k + 1) z).getD k ([], 0) = l0.getD k ([], 0) := by
  unfold shiftL
  rw [List.getD, List.getD, List.getElem?_append_left (by rw [List.length_take]; omega), List.getElem?_take, if_pos (by omega)]
theorem shiftL_step (l0 : PL) (k : Nat) (h : k < l0.length) : shiftL l0 (k + 1) (l0.getD k ([], 0)) = shiftL l0 k (l0.getD k ([], 0)) := by
  unfold shiftL
  rw [List.take_succ_eq_append_getElem h, getD_of_lt h, List.drop_eq_getElem_cons h, List.append_assoc]
  rfl
theorem quiet_cmp {w : World} {a b : Option Addr} {n c m d : Nat} {s t : List Nat} (h : Sl w a n c s) (k : Sl w b m d t) (q : Nat) : Calls Try.prog 64 #[.slice a n c, .slice b m d] (w.drewN q) fun e w' => e = .returned (.int .i64 (bcmp s t)) ∧ ∃ p, w' = (w.drewN q).drewN p :=
  ref_cmp (w.drewN q) a b n c m d s t (h.drewN q).at_ (k.drewN q).at_ h.len k.len (Nat.le_trans h.cap h.capm) (Nat.le_trans k.cap k.capm)
theorem quiet_same {w : World} {a b : Option Addr} {n c m d : Nat} {s t : List Nat} (h : Sl w a n c s) (k : Sl w b m d t) (q : Nat) : Calls Try.prog 47 #[.slice a n c, .slice b m d] (w.drewN q) fun e w' => e = .returned (.bool (decide (s = t))) ∧ ∃ p, w' = (w.drewN q).drewN p :=
  ref_same (w.drewN q) a b n c m d s t (h.drewN q).at_ (k.drewN q).at_ h.len k.len (Nat.le_trans h.cap h.capm) (Nat.le_trans k.cap k.capm)
def SortPost (l : PL) (w : World) (e : Ending) (w' : World) : Prop := ∃ v l0, e = .returned v ∧ PLs kpT w v l0 w' ∧ SrtI l l.length l0
set_option maxHeartbeats 4000000 in
set_option maxRecDepth 100000 in
theorem ref_sort (w : World) (a : Option Addr) (n c : Nat) (l : PL) (h : Prs w a n c l) (hn : n ≤ 100000) : Calls Try.prog 37 #[.slice a n c] w (SortPost l w) := by
  have H := Lib.hid h
  have hl := Lib.hid h.len
  have h0 := Lib.hid (PLs.nil kpT w)
  have hs0 : Hid (SrtI l 0 []) := ⟨List.Pairwise.nil, Nat.le_refl _, by simp⟩
  clear h
  go_enter Try.func37, Try.ntmps37
  go_wp2_with fail
  go_loopw [4, 3] (fun vi v3 wr => ∃ (i : Nat) (l0 : PL), vi = .int .i64 (i : Nat) ∧ i ≤ n ∧ Hid (PLs kpT w v3 l0 wr) ∧ Hid (SrtI l i l0)) (fun vi _ _ => (n - intOf vi).toNat)
  case atStart => exact ⟨0, [], rfl, by omega, h0, hs0⟩
  case round =>
    clear h0 hs0
    obtain ⟨i, l0, rfl, hi, hP, hS⟩ := hrel
    by_cases hlt : i < n
    · have hlt2 : (i : Int) < (n : Int) := by omega
      have hlt3 : i < l.length := by rw [hl.out]; exact hlt
      have hi0 : (0 : Int) ≤ (i : Int) := by omega
      obtain ⟨p, a3, n3, c3, rfl, q1, q2, q3⟩ := prs_row H.out hlt
      obtain ⟨n0, hn0⟩ : ∃ n0, n0 = l0.length := ⟨_, rfl⟩
      have HN := Lib.hid hn0
      have hn0i : n0 ≤ i := by rw [hn0]; exact hS.out.len
      obtain ⟨a0, c0, hu3, hpr⟩ := hP.out.prs
      rw [← hn0] at hu3
      subst hu3
      have hK : Hid (∀ wr', Below w.heap.size w wr' → wr'.cell? (p.add (i * 2)) = some (.slice a3 n3 c3) ∧ wr'.cell? ⟨(p.add (i * 2)).block, (p.add (i * 2)).off + 1, none⟩ = some (.int .u64 (l.getD i ([], 0)).2)) := fun wr' B => ⟨(B.cell (cell_lt q1)).trans q1, (B.cell (p := ⟨(p.add (i * 2)).block, (p.add (i * 2)).off + 1, none⟩) (cell_lt q2)).trans q2⟩
      have hSx := Lib.hid q3
      have hvx := Lib.hid (H.out.val (l.getD i ([], 0)) (mem_getD hlt3))
      obtain ⟨x, hx⟩ : ∃ x, x = l.getD i ([], 0) := ⟨_, rfl⟩
      have hIns : Hid (∀ J, J ≤ n0 → (∀ q, q < J → slt (l0.getD q ([], 0)).1 x.1) → (J < n0 → slt x.1 (l0.getD J ([], 0)).1) → SrtI l (i + 1) (shiftL l0 J x)) := fun J h1 h2 h3 => by
        rw [hx] at h2 h3 ⊢
        exact hS.out.ins hlt3 (by rw [← hn0]; exact h1) h2 (by rw [← hn0]; exact h3)
      have hSet : Hid (∀ J, J < n0 → SrtI l (i + 1) (l0.set J ((l0.getD J ([], 0)).1, x.2))) := fun J h1 => hS.out.set J (by rw [← hn0]; exact h1) _
      rw [← hx] at hK hSx hvx
      have hw9 : IntKind.i64.wrap (((i : Nat) : Int) + 1) = ((i + 1 : Nat) : Int) := by rw [show ((i : Nat) : Int) + 1 = ((i + 1 : Nat) : Int) by omega]; exact IntWalk.i64_in _ (by omega)
      obtain ⟨wo, rfl⟩ : ∃ wo : World, wo = wr := ⟨_, rfl⟩
      have hb1 : Hid (n0 + 1 ≤ maxLen) := by show _ ≤ _; unfold maxLen; omega
      have hb2 : Hid ((n0 + 1) * 32 ≤ 140737488355328) := by show _ ≤ _; omega
      have hn9 : n0 ≤ 100000 := by omega
      have hwl : IntKind.i64.wrap (((n0 + 1 : Nat) : Int) - 1) = (n0 : Nat) := by rw [show ((n0 + 1 : Nat) : Int) - 1 = (n0 : Nat) by omega]; exact IntWalk.i64_in _ (by omega)
      clear hn0 hpr q1 q2 q3 hx
      go_wp2_with fail
      go_loopw [5] (fun vj wr2 => ∃ j : Nat, vj = .int .i64 (j : Nat) ∧ j ≤ n0 ∧ Hid (∀ q, q < j → slt (l0.getD q ([], 0)).1 x.1) ∧ Hid (∃ k, wr2 = wo.drewN k)) (fun vj _ => (n0 - intOf vj).toNat)
      case atStart => exact ⟨0, rfl, by omega, fun q hq => absurd hq (by omega), 0, rfl⟩
      case round =>
        obtain ⟨j, rfl, hj, hA, hwd⟩ := hrel
        have hP2 : Hid (PLs kpT w (.slice a0 n0 c0) l0 wr) := by
          obtain ⟨k, rfl⟩ := hwd.out
          exact hP.out.below (below_drewN (Below.refl _ _) k)
        have j0 : (0 : Int) ≤ (j : Int) := by omega
        by_cases hjn : j < n0
        · have j1 : (j : Int) < (n0 : Int) := by omega
          obtain ⟨g, a4, n4, c4, rfl, z1, z2, z3, f1, f2, hv4⟩ := hP2.out.row' (i := j) (by rw [← HN.out]; exact hjn)
          have B := hP2.out.below_
          obtain ⟨q1, q2⟩ := hK.out wr B
          have hC : Hid (∀ q, Calls Try.prog 64 #[.slice a4 n4 c4, .slice a3 n3 c3] (wr.drewN q) fun e w' => e = .returned (.int .i64 (bcmp (l0.getD j ([], 0)).1 x.1)) ∧ ∃ p, w' = (wr.drewN q).drewN p) := fun q => quiet_cmp (z3.below B) (hSx.out.below B) q
          by_cases hx : slt (l0.getD j ([], 0)).1 x.1
          · have hA2 : Hid (∀ q, q < j + 1 → slt (l0.getD q ([], 0)).1 x.1) := fun q hq => by
              by_cases e : q = j
              · subst e; exact hx
              · exact hA.out q (by omega)
            have hx2 := bcmp_neg.2 hx
            have hw8 : IntKind.i64.wrap (((j : Nat) : Int) + 1) = ((j + 1 : Nat) : Int) := by rw [show ((j : Nat) : Int) + 1 = ((j + 1 : Nat) : Int) by omega]; exact IntWalk.i64_in _ (by omega)
            generalize bcmp (l0.getD j ([], 0)).1 x.1 = V' at *
            clear hx hA z2 z3 f1 f2 hv4 B q2
            go_wp2_with fail
            go_quiet ((go_at_call 64; exact Calls.quiet_of (hC.out _)))
            go_wp2_with fail
            go_roundw
            case rel => exact ⟨j + 1, (by first | rfl | go_num), by omega, hA2, by obtain ⟨k, rfl⟩ := hwd.out; exact ⟨k + nq, by simp⟩⟩
            case measure => (simp [intOf]) <;> omega
          · have hxs : bcmp (l0.getD j ([], 0)).1 x.1 = 0 ∧ (l0.getD j ([], 0)).1 = x.1 ∨ slt x.1 (l0.getD j ([], 0)).1 := by
              rcases bcmp_three (l0.getD j ([], 0)).1 x.1 with ⟨h, _⟩ | ⟨h, e⟩ | ⟨h, _⟩
              · exact absurd h hx
              · exact Or.inl ⟨e, h⟩
              · exact Or.inr h
            have hx2 : ¬ bcmp (l0.getD j ([], 0)).1 x.1 < 0 := fun q => hx (bcmp_neg.1 q)
            have hxd := Lib.hid hxs
            have hSm : Hid (∀ w4, Below wr.heap.size wr w4 → ∀ q, Calls Try.prog 47 #[.slice a4 n4 c4, .slice a3 n3 c3] (w4.drewN q) fun e w' => e = .returned (.bool (decide ((l0.getD j ([], 0)).1 = x.1))) ∧ ∃ p, w' = (w4.drewN q).drewN p) := fun w4 B4 q => quiet_same ((z3.below B).below B4) ((hSx.out.below B).below B4) q
            generalize bcmp (l0.getD j ([], 0)).1 x.1 = V' at *
            generalize hlv : (l0.getD j ([], 0)).2 = lv at *
            clear hx hxs z3 hv4 B hlv
            go_wp2_with fail
            go_quiet ((go_at_call 64; exact Calls.quiet_of (hC.out _)))
            have hP5 : Hid (PLs kpT w (.slice (some ⟨g, 0, none⟩) n0 c0) l0 (wr.drewN nq)) := hP2.out.below (below_drewN (Below.refl _ _) nq)
            have hSm2 := Lib.hid (hSm.out (wr.drewN nq) (below_drewN (Below.refl _ _) nq))
            have z1 : (wr.drewN nq).cell? ⟨g, j * 2, none⟩ = _ := z1
            have z2 : (wr.drewN nq).cell? ⟨g, j * 2 + 1, none⟩ = _ := z2
            have f2 : (wr.drewN nq).frozen? ⟨g, j * 2 + 1, none⟩ = _ := f2
            obtain ⟨q1, q2⟩ := hK.out (wr.drewN nq) hP5.out.below_
            generalize wr.drewN nq = w4 at *
            go_wp2_with fail
            by_cases hxe : (l0.getD j ([], 0)).1 = x.1
            · have hI2 := Lib.hid (hSet.out j hjn)
              rw [decide_eq_true hxe] at hSm2
              have hput := hP5.out.below (w' := w4) (Below.refl _ _)
              clear hxe
              go_quiet ((go_at_call 47; exact Calls.quiet_of (hSm2.out _)))
              have hP6 := (hP5.out.below (below_drewN (Below.refl _ _) nq)).putVal (i := j) (by rw [← HN.out]; exact hjn) hvx.out
              have hP6 := Lib.hid hP6
              have z1 : (w4.drewN nq).cell? ⟨g, j * 2, none⟩ = _ := z1
              have z2 : (w4.drewN nq).cell? ⟨g, j * 2 + 1, none⟩ = _ := z2
              have f2 : (w4.drewN nq).frozen? ⟨g, j * 2 + 1, none⟩ = _ := f2
              have q1 : (w4.drewN nq).cell? (p.add (i * 2)) = _ := q1
              have q2 : (w4.drewN nq).cell? ⟨(p.add (i * 2)).block, (p.add (i * 2)).off + 1, none⟩ = _ := q2
              generalize w4.drewN nq = w5 at *
              generalize x.2 = vv at *
              go_wp2_with fail
              go_roundw
              case rel => exact ⟨i + 1, _, rfl, by omega, hP6, hI2⟩
              case measure => (simp [intOf]) <;> omega
            · have hxg : slt x.1 (l0.getD j ([], 0)).1 := by
                rcases hxd.out with ⟨_, h⟩ | h
                · exact absurd h hxe
                · exact h
              have hI := Lib.hid (hIns.out j hj hA.out (fun _ => hxg))
              rw [decide_eq_false hxe] at hSm2
              clear hxe hxg
              go_quiet ((go_at_call 47; exact Calls.quiet_of (hSm2.out _)))
              have hP5 : Hid (PLs kpT w (.slice (some ⟨g, 0, none⟩) n0 c0) l0 (w4.drewN nq)) := hP5.out.below (below_drewN (Below.refl _ _) nq)
              clear z1 z2 f1 f2 q1 q2
              generalize w4.drewN nq = w5 at *
              have hask := hP5.out.ask (x := []) (y := 0) (sl_nil w) ⟨by omega, by omega⟩ 53 (w5.alloc (.cells #[.slice none 0 0, .int .u64 0] kpT)) ((Below.refl _ w5).alloc (Nat.le_refl _) _)
              rw [← HN.out] at hask
              obtain ⟨es, bo, ho, hfin⟩ := hask
              have hfin := Lib.hid hfin
              have ho := Lib.hid ho
              have hnews := Lib.hid (pair_news w5 (.slice none 0 0) 0 kpT)
              have h1 := Lib.hid (oneP (a := none) (n := 0) (c := 0) (y := 0))
              go_wp2_with (at_builtin; go_loud (refine wpList_append_s rfl (.tmp 59) (.tmp 61) 53 rfl kpT _ 2 32 Try.underlying53 kpInfo rfl (by omega) (.slice (some ⟨g, 0, none⟩) n0 c0) rfl n0 (flat es) bo ho.out ⟨w5.heap.size, 0, none⟩ 1 1 [.slice none 0 0, .int .u64 0] rfl rfl hnews.out h1.out hb1.out hb2.out ?_); intro v1 w1 bo1 HO HM HN1; obtain ⟨a1, c1, hv1, _⟩ := HO.out.len; subst hv1)
              have hP6 : Hid (PLs kpT w (.slice a1 (n0 + 1) c1) (shiftL l0 n0 ([], 0)) w1) := by
                have := hfin.out _ w1 bo1 HO.out HM.out HN1.out
                rw [shiftL_end, ← HN.out] at this
                exact this
              clear hfin ho hnews HO HM HN1
              go_loopw [6] (fun vk wr3 => ∃ (k : Nat) (z : List Nat × Int), vk = .int .i64 (k : Nat) ∧ j ≤ k ∧ k ≤ n0 ∧ Hid (PLs kpT w (.slice a1 (n0 + 1) c1) (shiftL l0 k z) wr3)) (fun vk _ => (intOf vk).toNat)
              case atStart => exact ⟨n0, _, rfl, hj, Nat.le_refl _, hP6⟩
              case round =>
                clear hP6 hP5
                obtain ⟨k, z, rfl, hk1, hk2, hP7⟩ := hrel
                by_cases hkj : j < k
                · have hkj2 : (j : Int) < (k : Int) := by omega
                  obtain ⟨k', rfl⟩ : ∃ k', k = k' + 1 := ⟨k - 1, by omega⟩
                  have hkl : k' < l0.length := by have := HN.out; omega
                  obtain ⟨g', a5, n5, c5, rfl, y1, y2, y3, f1, f2, hv5⟩ := hP7.out.row' (i := k') (by rw [shiftL_len]; omega)
                  obtain ⟨g2, a6, n6, c6, e6, y4, y5, y6, f4, f5, hv6⟩ := hP7.out.row' (i := k' + 1) (by rw [shiftL_len]; omega)
                  rw [shiftL_get _ _ _ hkl] at y2 y3 hv5
                  obtain rfl := some_blk e6
                  have hst := hP7.out.put (k' + 1) y3 hv5
                  rw [shiftL_set _ _ _ _ (by omega), show ((l0.getD k' ([], 0)).1, (l0.getD k' ([], 0)).2) = l0.getD k' ([], 0) from rfl, shiftL_step _ _ hkl] at hst
                  have hst := Lib.hid hst
                  have hw0 : IntKind.i64.wrap (((k' + 1 : Nat) : Int) - 1) = (k' : Nat) := by rw [show ((k' + 1 : Nat) : Int) - 1 = (k' : Nat) by omega]; exact IntWalk.i64_in _ (by omega)
                  have m0 : (0 : Int) ≤ ((k' + 1 : Nat) : Int) := by omega
                  have m1 : (0 : Int) ≤ (k' : Int) := by omega
                  have m2 : (k' : Int) < ((n0 + 1 : Nat) : Int) := by omega
                  have m3 : ((k' + 1 : Nat) : Int) < ((n0 + 1 : Nat) : Int) := by omega
                  generalize ((shiftL l0 (k' + 1) z).getD (k' + 1) ([], 0)).2 = v6 at *
                  obtain ⟨zz, hzz⟩ : ∃ zz, zz = l0.getD k' ([], 0) := ⟨_, rfl⟩
                  rw [← hzz] at hst y2
                  generalize zz.2 = vv at *
                  clear y3 hv5 y6 hv6 e6 hzz
                  go_wp2_with fail
                  go_roundw
                  case rel => exact ⟨k', zz, (by first | rfl | go_num), by omega, by omega, hst⟩
                  case measure => (simp [intOf]) <;> omega
                · have hkj2 : ¬ (j : Int) < (k : Int) := by omega
                  obtain rfl : j = k := by omega
                  obtain ⟨g', a6, n6, c6, rfl, y4, y5, y6, f4, f5, hv6⟩ := hP7.out.row' (i := j) (by rw [shiftL_len, ← HN.out]; omega)
                  obtain ⟨q1, q2⟩ := hK.out wr hP7.out.below_
                  have hst := hP7.out.put j hSx.out hvx.out
                  rw [shiftL_set _ _ _ _ (by rw [← HN.out]; omega), show (x.1, x.2) = x from rfl] at hst
                  have hst := Lib.hid hst
                  have m1 : (0 : Int) ≤ (j : Int) := by omega
                  have m2 : (j : Int) < ((n0 + 1 : Nat) : Int) := by omega
                  generalize x.2 = vv at *
                  generalize ((shiftL l0 j z).getD j ([], 0)).2 = v6 at *
                  clear y6 hv6
                  go_wp2_with fail
                  go_roundw
                  case rel => exact ⟨i + 1, shiftL l0 j x, rfl, by omega, hst, hI⟩
                  case measure => (simp [intOf]) <;> omega

        · have j1 : ¬ (j : Int) < (n0 : Int) := by omega
          obtain rfl : j = n0 := by omega
          have hI := Lib.hid (hIns.out j (Nat.le_refl _) hA.out (fun h => absurd h (by omega)))
          go_wp2_with fail
          go_quiet (fail)
          have hP5 : Hid (PLs kpT w (.slice a0 j c0) l0 (wr.drewN nq)) := hP2.out.below (below_drewN (Below.refl _ _) nq)
          generalize wr.drewN nq = w4 at *
          go_wp2_with fail
          go_quiet (fail)
          have hP5 : Hid (PLs kpT w (.slice a0 j c0) l0 (w4.drewN nq)) := hP5.out.below (below_drewN (Below.refl _ _) nq)
          generalize w4.drewN nq = w5 at *
          have hask := hP5.out.ask (x := []) (y := 0) (sl_nil w) ⟨by omega, by omega⟩ 53 (w5.alloc (.cells #[.slice none 0 0, .int .u64 0] kpT)) ((Below.refl _ w5).alloc (Nat.le_refl _) _)
          rw [← HN.out] at hask
          obtain ⟨es, bo, ho, hfin⟩ := hask
          have hfin := Lib.hid hfin
          have ho := Lib.hid ho
          have hnews := Lib.hid (pair_news w5 (.slice none 0 0) 0 kpT)
          have h1 := Lib.hid (oneP (a := none) (n := 0) (c := 0) (y := 0))
          go_wp2_with (at_builtin; go_loud (refine wpList_append_s rfl (.tmp 59) (.tmp 61) 53 rfl kpT _ 2 32 Try.underlying53 kpInfo rfl (by omega) (.slice a0 j c0) rfl j (flat es) bo ho.out ⟨w5.heap.size, 0, none⟩ 1 1 [.slice none 0 0, .int .u64 0] rfl rfl hnews.out h1.out hb1.out hb2.out ?_); intro v1 w1 bo1 HO HM HN1; obtain ⟨a1, c1, hv1, _⟩ := HO.out.len; subst hv1)
          have hP6 : Hid (PLs kpT w (.slice a1 (j + 1) c1) (shiftL l0 j ([], 0)) w1) := by
            have := hfin.out _ w1 bo1 HO.out HM.out HN1.out
            rw [shiftL_end, ← HN.out] at this
            exact this
          clear hfin ho hnews HO HM HN1
          go_loopw [6] (fun vk wr3 => ∃ (k : Nat) (z : List Nat × Int), vk = .int .i64 (k : Nat) ∧ j ≤ k ∧ k ≤ j ∧ Hid (PLs kpT w (.slice a1 (j + 1) c1) (shiftL l0 k z) wr3)) (fun vk _ => (intOf vk).toNat)
          case atStart => exact ⟨j, _, rfl, hj, Nat.le_refl _, hP6⟩
          case round =>
            clear hP6 hP5
            obtain ⟨k, z, rfl, hk1, hk2, hP7⟩ := hrel
            by_cases hkj : j < k
            · exact absurd hkj (by omega)
            · have hkj2 : ¬ (j : Int) < (k : Int) := by omega
              obtain rfl : j = k := by omega
              obtain ⟨g', a6, n6, c6, rfl, y4, y5, y6, f4, f5, hv6⟩ := hP7.out.row' (i := j) (by rw [shiftL_len, ← HN.out]; omega)
              obtain ⟨q1, q2⟩ := hK.out wr hP7.out.below_
              have hst := hP7.out.put j hSx.out hvx.out
              rw [shiftL_set _ _ _ _ (by rw [← HN.out]; omega), show (x.1, x.2) = x from rfl] at hst
              have hst := Lib.hid hst
              have m1 : (0 : Int) ≤ (j : Int) := by omega
              have m2 : (j : Int) < ((j + 1 : Nat) : Int) := by omega
              generalize x.2 = vv at *
              generalize ((shiftL l0 j z).getD j ([], 0)).2 = v6 at *
              clear y6 hv6
              go_wp2_with fail
              go_roundw
              case rel => exact ⟨i + 1, shiftL l0 j x, rfl, by omega, hst, hI⟩
              case measure => (simp [intOf]) <;> omega

    · have hlt2 : ¬ (i : Int) < (n : Int) := by omega
      obtain rfl : i = n := by omega
      have hE : Hid (SrtI l l.length l0) := by rw [hl.out]; exact hS.out
      go_wp2_with fail
      go_ret
      exact ⟨_, l0, rfl, hP.out, hE.out⟩
end Go.Proofs.Ytkonbldjmcccmaa
