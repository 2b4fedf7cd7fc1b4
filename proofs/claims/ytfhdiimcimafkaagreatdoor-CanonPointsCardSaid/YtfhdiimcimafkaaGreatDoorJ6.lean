/- The inner nodes of a canonical tree: what two of its keys share, each once, rising. No program; The document's fan: by how many bytes keys go on behind some bytes; The document's Points; law CanonPoints: the walk. -/
import Derived.Test.YtfhdiimcimafkaaGreatDoorJ5
import Derived.Test.YtfhdiimcimafkaaGreatDoorJ3
import Derived.Test.YtfhdiimcimafkaaGreatDoorJ4
import Derived.Deep.RegionLaw
import Derived.Deep.RegionHeld3
set_option linter.unusedVariables false
set_option linter.unusedSimpArgs false
/- The inner nodes of a canonical tree: what two of its keys share, each once, rising. No program. -/
namespace Go.Proofs.YtfhdiimcimafkaaGreatDoor
open Go.RowKit
/-- what two begin with -/
def cpre (a b : List Nat) : List Nat := a.take (lcp a b)
abbrev PT := List Nat × Nat × Bool
/-- an inner node -/
def ptI (key : List Nat) (val : Int) (has leaf : Bool) (m : Nat) : List PT := if leaf then [] else [(key, m, has)]
/-- the inner nodes of a node; of the kids of a row -/
def pts : Tr → List PT
  | .nil => []
  | .kid b t r => (pts t).map (fun x => (b :: x.1, x.2)) ++ pts r
  | .node bs _ has leaf ks => (if leaf then [] else [(bs, (chain ks).length, has)]) ++ (pts ks).map fun x => (bs ++ x.1, x.2)
theorem tv_pts : ∀ (t : Tr) (k : List Nat), tv ptI t k = (pts t).map fun x => (k ++ x.1, x.2)
  | .nil, k => rfl
  | .kid b t r, k => by
    simp only [tv, pts, List.map_append, List.map_map, tv_pts t, tv_pts r]
    congr 1
    exact List.map_congr_left fun x _ => by simp
  | .node bs v has leaf ks, k => by
    simp only [tv, pts, List.map_append, List.map_map, tv_pts ks, ptI]
    congr 1
    · cases leaf <;> simp
    · exact List.map_congr_left fun x _ => by simp
theorem tv_ptT : ∀ (t : Tr) (k : List Nat), tv ptT t k = (tv ptI t k).map fun x => (x.1, pcode (kindOf x.2.1) x.2.2)
  | .nil, k => rfl
  | .kid b t r, k => by simp only [tv, List.map_append, tv_ptT t, tv_ptT r]
  | .node bs v has leaf ks, k => by
    simp only [tv, List.map_append, tv_ptT ks]
    congr 1
    unfold ptT ptI
    cases leaf <;> simp
/-- what Points tells -/
theorem ptT_pts (t : Tr) : tv ptT t [] = (pts t).map fun x => (x.1, pcode (kindOf x.2.1) x.2.2) := by
  rw [tv_ptT, tv_pts, List.map_map]
  exact List.map_congr_left fun x _ => by simp
theorem cpre_cons (b : Nat) (s s' : List Nat) : cpre (b :: s) (b :: s') = b :: cpre s s' := by simp [cpre, lcp]
theorem cpre_ne {b c : Nat} (h : b ≠ c) (s s' : List Nat) : cpre (b :: s) (c :: s') = [] := by simp [cpre, lcp, h]
theorem cpre_app (p s t : List Nat) : cpre (p ++ s) (p ++ t) = p ++ cpre s t := by
  unfold cpre
  rw [lcp_pre, List.take_append, List.take_of_length_le (by omega), Nat.add_sub_cancel_left]
theorem cpre_nil_l (s : List Nat) : cpre [] s = [] := by simp [cpre]
theorem cpre_nil_r (s : List Nat) : cpre s [] = [] := by
  have : lcp s [] = 0 := by have := (lcp_le s []).2; simpa using this
  simp [cpre, this]
theorem cpre_comm (s t : List Nat) : cpre s t = cpre t s := by
  induction s generalizing t with
  | nil => rw [cpre_nil_l, cpre_nil_r]
  | cons b s ih =>
    cases t with
    | nil => rw [cpre_nil_l, cpre_nil_r]
    | cons c t =>
      by_cases h : b = c
      · subst h; rw [cpre_cons, cpre_cons, ih]
      · rw [cpre_ne h, cpre_ne (fun e => h e.symm)]
/-- the keys of a row begin with its bytes -/
theorem kid_first : ∀ {t : Tr}, IsK t → TOk t → ∀ p ∈ tl t, ∃ b s, p.1 = b :: s ∧ b ∈ (chain t).map (·.1)
  | .nil, _, _, p, h => by simp [tl] at h
  | .node .., hk, _, _, _ => hk.elim
  | .kid b t r, _, ⟨o1, o2, o3, o4, o5, o6⟩, p, h => by
    simp only [tl] at h
    rcases List.mem_append.1 h with h | h
    · obtain ⟨q, hq, rfl⟩ := List.mem_map.1 h
      exact ⟨b, q.1, rfl, by simp [chain]⟩
    · obtain ⟨d, s, e, hd⟩ := kid_first o4 o5 p h
      exact ⟨d, s, e, by simp only [chain, List.map_cons, List.mem_cons]; exact Or.inr hd⟩
theorem kid_has : ∀ {t : Tr}, IsK t → TOk t → Can t → ∀ b ∈ (chain t).map (·.1), ∃ p ∈ tl t, ∃ s, p.1 = b :: s
  | .nil, _, _, _, b, h => by simp [chain] at h
  | .node .., hk, _, _, _, _ => hk.elim
  | .kid c t r, _, ⟨o1, o2, o3, o4, o5, o6⟩, ⟨c1, c2⟩, b, h => by
    simp only [chain, List.map_cons, List.mem_cons] at h
    simp only [tl]
    rcases h with rfl | h
    · obtain ⟨q, hq⟩ := List.exists_mem_of_ne_nil _ (tl_ne t o2 o3 c1)
      exact ⟨([b] ++ q.1, q.2), List.mem_append_left _ (List.mem_map.2 ⟨q, hq, rfl⟩), q.1, rfl⟩
    · obtain ⟨p, hp, s, e⟩ := kid_has o4 o5 c2 b h
      exact ⟨p, List.mem_append_right _ hp, s, e⟩
theorem mem_pre {k : List Nat} {l : PL} {p : List Nat × Int} : p ∈ pre k l ↔ ∃ q ∈ l, p = (k ++ q.1, q.2) := by
  unfold pre
  rw [List.mem_map]
  constructor
  · rintro ⟨q, hq, rfl⟩; exact ⟨q, hq, rfl⟩
  · rintro ⟨q, hq, rfl⟩; exact ⟨q, hq, rfl⟩
/-- where inner nodes are -/
theorem pts_iff : ∀ (t : Tr), TOk t → Can t → (IsN t → ∀ x, (∃ y ∈ pts t, y.1 = x) ↔ ∃ p ∈ tl t, ∃ q ∈ tl t, p.1 ≠ q.1 ∧ cpre p.1 q.1 = x) ∧
    (IsK t → ∀ x, (∃ y ∈ pts t, y.1 = x) ↔ ∃ p ∈ tl t, ∃ q ∈ tl t, p.1 ≠ q.1 ∧ (∃ b s s', p.1 = b :: s ∧ q.1 = b :: s') ∧ cpre p.1 q.1 = x)
  | .nil, _, _ => ⟨fun h => h.elim, fun _ x => by simp [pts, tl]⟩
  | .kid b t r, ⟨o1, o2, o3, o4, o5, o6⟩, ⟨c1, c2⟩ => by
    refine ⟨fun h => h.elim, fun _ x => ?_⟩
    have ht := (pts_iff t o3 c1).1 o2
    have hr := (pts_iff r o5 c2).2 o4
    have hfr := tl_from r b o4 o5 o6
    simp only [pts, tl]
    constructor
    · rintro ⟨y, hy, rfl⟩
      rcases List.mem_append.1 hy with hy | hy
      · obtain ⟨z, hz, rfl⟩ := List.mem_map.1 hy
        obtain ⟨p, hp, q, hq, h1, h2⟩ := (ht z.1).1 ⟨z, hz, rfl⟩
        refine ⟨([b] ++ p.1, p.2), List.mem_append_left _ (mem_pre.2 ⟨p, hp, rfl⟩), ([b] ++ q.1, q.2), List.mem_append_left _ (mem_pre.2 ⟨q, hq, rfl⟩), by simpa using h1, ⟨b, p.1, q.1, rfl, rfl⟩, ?_⟩
        show cpre (b :: p.1) (b :: q.1) = _
        rw [cpre_cons, h2]
      · obtain ⟨p, hp, q, hq, h1, h2, h3⟩ := (hr y.1).1 ⟨y, hy, rfl⟩
        exact ⟨p, List.mem_append_right _ hp, q, List.mem_append_right _ hq, h1, h2, h3⟩
    · rintro ⟨p, hp, q, hq, h1, ⟨c, s, s', e1, e2⟩, h3⟩
      rcases List.mem_append.1 hp with hp | hp <;> rcases List.mem_append.1 hq with hq | hq
      · obtain ⟨p', hp', rfl⟩ := mem_pre.1 hp
        obtain ⟨q', hq', rfl⟩ := mem_pre.1 hq
        obtain ⟨y, hy, e⟩ := (ht (cpre p'.1 q'.1)).2 ⟨p', hp', q', hq', fun e => h1 (by simp [e]), rfl⟩
        refine ⟨(b :: y.1, y.2), List.mem_append_left _ (List.mem_map.2 ⟨y, hy, rfl⟩), ?_⟩
        rw [← h3]
        show b :: y.1 = cpre (b :: p'.1) (b :: q'.1)
        rw [cpre_cons, e]
      · obtain ⟨p', hp', rfl⟩ := mem_pre.1 hp
        obtain ⟨d, s2, e3, hd⟩ := hfr q hq
        have e1 : b :: p'.1 = c :: s := e1
        rw [e3] at e2
        have := (List.cons.inj e1).1
        have := (List.cons.inj e2).1
        omega
      · obtain ⟨q', hq', rfl⟩ := mem_pre.1 hq
        obtain ⟨d, s2, e3, hd⟩ := hfr p hp
        have e2 : b :: q'.1 = c :: s' := e2
        rw [e3] at e1
        have := (List.cons.inj e1).1
        have := (List.cons.inj e2).1
        omega
      · obtain ⟨y, hy, e⟩ := (hr x).2 ⟨p, hp, q, hq, h1, ⟨c, s, s', e1, e2⟩, h3⟩
        exact ⟨y, List.mem_append_right _ hy, e⟩
  | .node bs v has leaf ks, ⟨o1, o2, o3, o4, o5, o6, o7⟩, ⟨c1, c2⟩ => by
    refine ⟨fun _ x => ?_, fun h => h.elim⟩
    have hk := (pts_iff ks o7 c1).2 o6
    have hf := kid_first o6 o7
    have hh := kid_has o6 o7 c1
    simp only [pts, tl]
    constructor
    · rintro ⟨y, hy, rfl⟩
      rcases List.mem_append.1 hy with hy | hy
      · cases leaf with
        | true => simp at hy
        | false =>
          obtain rfl : y = (bs, (chain ks).length, has) := by simpa using hy
          have h2 := c2 rfl
          cases has with
          | true =>
            simp at h2
            obtain ⟨b, hb⟩ : ∃ b, b ∈ (chain ks).map (·.1) := by
              cases hc : chain ks with
              | nil => rw [hc] at h2; simp at h2
              | cons x r => exact ⟨x.1, by simp⟩
            obtain ⟨q, hq, s, e⟩ := hh b hb
            refine ⟨(bs, v), by simp, (bs ++ q.1, q.2), List.mem_append_right _ (mem_pre.2 ⟨q, hq, rfl⟩), by simp [e], ?_⟩
            show cpre bs (bs ++ q.1) = bs
            have := cpre_app bs [] q.1
            rw [List.append_nil, cpre_nil_l, List.append_nil] at this
            exact this
          | false =>
            simp at h2
            cases ks with
            | nil => simp [chain] at h2
            | node => exact o6.elim
            | kid b t r =>
              obtain ⟨q1, q2, q3, q4, q5, q6⟩ := o7
              have hr : ∃ c, c ∈ (chain r).map (·.1) := by
                cases hc : chain r with
                | nil => simp [chain, hc] at h2
                | cons x r => exact ⟨x.1, by simp⟩
              obtain ⟨c, hc⟩ := hr
              obtain ⟨p, hp, s, e⟩ := hh b (by simp [chain])
              obtain ⟨q, hq, s', e'⟩ := kid_has q4 q5 c1.2 c hc
              obtain ⟨d, s2, e3, hd⟩ := tl_from r b q4 q5 q6 q hq
              have hbc : b ≠ c := by
                rw [e'] at e3
                have := (List.cons.inj e3).1
                omega
              refine ⟨(bs ++ p.1, p.2), List.mem_append_right _ (mem_pre.2 ⟨p, hp, rfl⟩), (bs ++ q.1, q.2), List.mem_append_right _ (mem_pre.2 ⟨q, by simp only [tl]; exact List.mem_append_right _ hq, rfl⟩), ?_, ?_⟩
              · intro e4
                have e4 : bs ++ p.1 = bs ++ q.1 := e4
                have := List.append_cancel_left e4
                rw [e, e'] at this
                exact hbc (List.cons.inj this).1
              · show cpre (bs ++ p.1) (bs ++ q.1) = bs
                rw [cpre_app, e, e', cpre_ne hbc, List.append_nil]
      · obtain ⟨z, hz, rfl⟩ := List.mem_map.1 hy
        obtain ⟨p, hp, q, hq, h1, _, h3⟩ := (hk z.1).1 ⟨z, hz, rfl⟩
        refine ⟨(bs ++ p.1, p.2), List.mem_append_right _ (mem_pre.2 ⟨p, hp, rfl⟩), (bs ++ q.1, q.2), List.mem_append_right _ (mem_pre.2 ⟨q, hq, rfl⟩), fun e => h1 (List.append_cancel_left e), ?_⟩
        show cpre (bs ++ p.1) (bs ++ q.1) = bs ++ z.1
        rw [cpre_app, h3]
    · rintro ⟨p, hp, q, hq, h1, h3⟩
      -- the node itself
      have top : ∀ p' ∈ tl ks, ∃ y ∈ (if leaf then [] else [(bs, (chain ks).length, has)]) ++ (pts ks).map (fun x : PT => ((bs ++ x.1, x.2) : PT)), y.1 = bs := fun p' hp' => by
        cases leaf with
        | true =>
          have := (o5 rfl).2
          subst this
          simp [tl] at hp'
        | false => exact ⟨(bs, (chain ks).length, has), by simp, rfl⟩
      have hp0 : p.1 = bs ∧ has = true ∨ ∃ p' ∈ tl ks, p.1 = bs ++ p'.1 := by
        rcases List.mem_append.1 hp with hp | hp
        · cases has with
          | true => left; simp at hp; rw [hp]; exact ⟨rfl, rfl⟩
          | false => simp at hp
        · obtain ⟨p', hp', rfl⟩ := mem_pre.1 hp
          exact Or.inr ⟨p', hp', rfl⟩
      have hq0 : q.1 = bs ∧ has = true ∨ ∃ q' ∈ tl ks, q.1 = bs ++ q'.1 := by
        rcases List.mem_append.1 hq with hq | hq
        · cases has with
          | true => left; simp at hq; rw [hq]; exact ⟨rfl, rfl⟩
          | false => simp at hq
        · obtain ⟨q', hq', rfl⟩ := mem_pre.1 hq
          exact Or.inr ⟨q', hq', rfl⟩
      rcases hp0 with ⟨e1, _⟩ | ⟨p', hp', e1⟩ <;> rcases hq0 with ⟨e2, _⟩ | ⟨q', hq', e2⟩
      · exact absurd (e1.trans e2.symm) h1
      · obtain ⟨y, hy, e⟩ := top q' hq'
        refine ⟨y, hy, ?_⟩
        rw [e, ← h3, e1, e2]
        have := cpre_app bs [] q'.1
        rw [List.append_nil, cpre_nil_l, List.append_nil] at this
        exact this.symm
      · obtain ⟨y, hy, e⟩ := top p' hp'
        refine ⟨y, hy, ?_⟩
        rw [e, ← h3, e1, e2]
        have := cpre_app bs p'.1 []
        rw [List.append_nil, cpre_nil_r, List.append_nil] at this
        exact this.symm
      · obtain ⟨b, s, eb, _⟩ := hf p' hp'
        obtain ⟨c, s', ec, _⟩ := hf q' hq'
        by_cases hbc : b = c
        · subst hbc
          obtain ⟨y, hy, e⟩ := (hk (cpre p'.1 q'.1)).2 ⟨p', hp', q', hq', fun e => h1 (by rw [e1, e2, e]), ⟨b, s, s', eb, ec⟩, rfl⟩
          refine ⟨(bs ++ y.1, y.2), List.mem_append_right _ (List.mem_map.2 ⟨y, hy, rfl⟩), ?_⟩
          rw [← h3, e1, e2, cpre_app]
          show bs ++ y.1 = _
          rw [e]
        · obtain ⟨y, hy, e⟩ := top p' hp'
          refine ⟨y, hy, ?_⟩
          rw [e, ← h3, e1, e2, cpre_app, eb, ec, cpre_ne hbc, List.append_nil]
/-- by how many bytes keys go on behind some bytes; whether with none -/
def FanIs (l : PL) (x : List Nat) (m : Nat) (h : Bool) : Prop := ∃ U : List Nat, U.Nodup ∧ U.length = m ∧ (∀ b, b ∈ U ↔ ∃ p ∈ l, ∃ s, p.1 = x ++ b :: s) ∧ (h = true ↔ ∃ p ∈ l, p.1 = x)
theorem nodup_le : ∀ {l l' : List Nat}, l.Nodup → (∀ x ∈ l, x ∈ l') → l.length ≤ l'.length
  | [], _, _, _ => Nat.zero_le _
  | x :: l, l', h, hs => by
    obtain ⟨h1, h2⟩ := List.nodup_cons.1 h
    have hx := hs x (by simp)
    have := nodup_le (l := l) (l' := l'.erase x) h2 (fun y hy => (List.mem_erase_of_ne (fun (e : y = x) => h1 (by rw [← e]; exact hy))).2 (hs y (by simp [hy])))
    rw [List.length_erase_of_mem hx] at this
    have : 0 < l'.length := List.length_pos_of_mem hx
    simp only [List.length_cons]
    omega
theorem FanIs.uniq {l : PL} {x : List Nat} {m m' : Nat} {h h' : Bool} (a : FanIs l x m h) (b : FanIs l x m' h') : m = m' ∧ h = h' := by
  obtain ⟨U, u1, u2, u3, u4⟩ := a
  obtain ⟨V, v1, v2, v3, v4⟩ := b
  refine ⟨?_, ?_⟩
  · have h1 := nodup_le u1 (fun y hy => (v3 y).2 ((u3 y).1 hy))
    have h2 := nodup_le v1 (fun y hy => (u3 y).2 ((v3 y).1 hy))
    omega
  · cases h <;> cases h' <;> first | rfl | (exfalso; first | exact Bool.noConfusion (u4.2 (v4.1 rfl)) | exact Bool.noConfusion (v4.2 (u4.1 rfl)))
theorem nodup_lt : ∀ {l : List Nat}, l.Pairwise (· < ·) → l.Nodup := fun {l} h => List.nodup_iff_pairwise_ne.2 (h.imp fun e => Nat.ne_of_lt e)
theorem chain_srt {t : Tr} (hk : IsK t) (ho : TOk t) : ((chain t).map (·.1)).Pairwise (· < ·) := by
  have : TOk (ofL (chain t)) := by rw [ofL_chain t hk ho]; exact ho
  exact ((tok_ofL _).1 this).2
/-- each inner node's numbers are told by the keys -/
theorem pts_fan : ∀ (t : Tr), TOk t → Can t → ∀ y ∈ pts t, FanIs (tl t) y.1 y.2.1 y.2.2
  | .nil, _, _, y, h => by simp [pts] at h
  | .kid b t r, ⟨o1, o2, o3, o4, o5, o6⟩, ⟨c1, c2⟩, y, hy => by
    have hfr := tl_from r b o4 o5 o6
    simp only [pts] at hy
    rcases List.mem_append.1 hy with hy | hy
    · obtain ⟨z, hz, rfl⟩ := List.mem_map.1 hy
      obtain ⟨U, u1, u2, u3, u4⟩ := pts_fan t o3 c1 z hz
      refine ⟨U, u1, u2, fun c => ?_, ?_⟩
      · rw [u3 c]
        simp only [tl]
        constructor
        · rintro ⟨p, hp, s, e⟩
          exact ⟨([b] ++ p.1, p.2), List.mem_append_left _ (mem_pre.2 ⟨p, hp, rfl⟩), s, by simp [e]⟩
        · rintro ⟨p, hp, s, e⟩
          rcases List.mem_append.1 hp with hp | hp
          · obtain ⟨p', hp', rfl⟩ := mem_pre.1 hp
            exact ⟨p', hp', s, by simpa using e⟩
          · obtain ⟨d, s2, e3, hd⟩ := hfr p hp
            rw [e3] at e
            have := (List.cons.inj e).1
            omega
      · rw [u4]
        simp only [tl]
        constructor
        · rintro ⟨p, hp, e⟩
          exact ⟨([b] ++ p.1, p.2), List.mem_append_left _ (mem_pre.2 ⟨p, hp, rfl⟩), by simp [e]⟩
        · rintro ⟨p, hp, e⟩
          rcases List.mem_append.1 hp with hp | hp
          · obtain ⟨p', hp', rfl⟩ := mem_pre.1 hp
            exact ⟨p', hp', by simpa using e⟩
          · obtain ⟨d, s2, e3, hd⟩ := hfr p hp
            rw [e3] at e
            have := (List.cons.inj e).1
            omega
    · obtain ⟨U, u1, u2, u3, u4⟩ := pts_fan r o5 c2 y hy
      obtain ⟨p0, hp0, q0, hq0, _, ⟨c0, s0, s0', e0, e0'⟩, e1⟩ := ((pts_iff r o5 c2).2 o4 y.1).1 ⟨y, hy, rfl⟩
      obtain ⟨d0, s1, e2, hd0⟩ := hfr p0 hp0
      have hy1 : ∃ s, y.1 = d0 :: s := by
        rw [e2] at e0
        have e4 := (List.cons.inj e0).1
        rw [← e1, e2, e0', e4, cpre_cons]
        exact ⟨_, rfl⟩
      obtain ⟨sy, hsy⟩ := hy1
      refine ⟨U, u1, u2, fun c => ?_, ?_⟩
      · rw [u3 c]
        simp only [tl]
        constructor
        · rintro ⟨p, hp, s, e⟩
          exact ⟨p, List.mem_append_right _ hp, s, e⟩
        · rintro ⟨p, hp, s, e⟩
          rcases List.mem_append.1 hp with hp | hp
          · obtain ⟨p', hp', rfl⟩ := mem_pre.1 hp
            rw [hsy] at e
            have := (List.cons.inj e).1
            omega
          · exact ⟨p, hp, s, e⟩
      · rw [u4]
        simp only [tl]
        constructor
        · rintro ⟨p, hp, e⟩
          exact ⟨p, List.mem_append_right _ hp, e⟩
        · rintro ⟨p, hp, e⟩
          rcases List.mem_append.1 hp with hp | hp
          · obtain ⟨p', hp', rfl⟩ := mem_pre.1 hp
            rw [hsy] at e
            have := (List.cons.inj e).1
            omega
          · exact ⟨p, hp, e⟩
  | .node bs v has leaf ks, ⟨o1, o2, o3, o4, o5, o6, o7⟩, ⟨c1, c2⟩, y, hy => by
    have hf := kid_first o6 o7
    have hh := kid_has o6 o7 c1
    simp only [pts] at hy
    rcases List.mem_append.1 hy with hy | hy
    · cases leaf with
      | true => simp at hy
      | false =>
        obtain rfl : y = (bs, (chain ks).length, has) := by simpa using hy
        refine ⟨(chain ks).map (·.1), nodup_lt (chain_srt o6 o7), by simp, fun c => ?_, ?_⟩
        · simp only [tl]
          constructor
          · intro hc
            obtain ⟨p, hp, s, e⟩ := hh c hc
            exact ⟨(bs ++ p.1, p.2), List.mem_append_right _ (mem_pre.2 ⟨p, hp, rfl⟩), s, by simp [e]⟩
          · rintro ⟨p, hp, s, e⟩
            rcases List.mem_append.1 hp with hp | hp
            · cases has with
              | true => simp at hp; rw [hp] at e; simp at e
              | false => simp at hp
            · obtain ⟨p', hp', rfl⟩ := mem_pre.1 hp
              have e := List.append_cancel_left e
              obtain ⟨d, s2, e3, hd⟩ := hf p' hp'
              rw [e3] at e
              rw [← (List.cons.inj e).1]; exact hd
        · simp only [tl]
          constructor
          · intro e
            have e : has = true := e
            subst e
            exact ⟨(bs, v), by simp, rfl⟩
          · rintro ⟨p, hp, e⟩
            rcases List.mem_append.1 hp with hp | hp
            · cases has with
              | true => rfl
              | false => simp at hp
            · obtain ⟨p', hp', rfl⟩ := mem_pre.1 hp
              have e : bs ++ p'.1 = bs := e
              obtain ⟨d, s2, e3, hd⟩ := hf p' hp'
              rw [e3] at e; simp at e
    · obtain ⟨z, hz, rfl⟩ := List.mem_map.1 hy
      obtain ⟨U, u1, u2, u3, u4⟩ := pts_fan ks o7 c1 z hz
      obtain ⟨p0, hp0, q0, hq0, _, ⟨c0, s0, s0', e0, e0'⟩, e1⟩ := ((pts_iff ks o7 c1).2 o6 z.1).1 ⟨z, hz, rfl⟩
      have hz1 : ∃ d s, z.1 = d :: s := by rw [← e1, e0, e0', cpre_cons]; exact ⟨_, _, rfl⟩
      obtain ⟨d0, sz, hsz⟩ := hz1
      refine ⟨U, u1, u2, fun c => ?_, ?_⟩
      · rw [u3 c]
        simp only [tl]
        constructor
        · rintro ⟨p, hp, s, e⟩
          exact ⟨(bs ++ p.1, p.2), List.mem_append_right _ (mem_pre.2 ⟨p, hp, rfl⟩), s, by simp [e]⟩
        · rintro ⟨p, hp, s, e⟩
          rcases List.mem_append.1 hp with hp | hp
          · cases has with
            | true => simp at hp; rw [hp, hsz] at e; simp at e
            | false => simp at hp
          · obtain ⟨p', hp', rfl⟩ := mem_pre.1 hp
            have e : bs ++ p'.1 = bs ++ z.1 ++ c :: s := e
            rw [List.append_assoc] at e
            exact ⟨p', hp', s, List.append_cancel_left e⟩
      · rw [u4]
        simp only [tl]
        constructor
        · rintro ⟨p, hp, e⟩
          exact ⟨(bs ++ p.1, p.2), List.mem_append_right _ (mem_pre.2 ⟨p, hp, rfl⟩), by simp [e]⟩
        · rintro ⟨p, hp, e⟩
          rcases List.mem_append.1 hp with hp | hp
          · cases has with
            | true => simp at hp; rw [hp, hsz] at e; simp at e
            | false => simp at hp
          · obtain ⟨p', hp', rfl⟩ := mem_pre.1 hp
            exact ⟨p', hp', List.append_cancel_left e⟩
/-- the inner nodes rise -/
theorem pts_srt : ∀ (t : Tr), TOk t → Can t → ((pts t).map (·.1)).Pairwise slt
  | .nil, _, _ => by simp [pts]
  | .kid b t r, ⟨o1, o2, o3, o4, o5, o6⟩, ⟨c1, c2⟩ => by
    have hfr := tl_from r b o4 o5 o6
    have ht := pts_srt t o3 c1
    have hr := pts_srt r o5 c2
    simp only [pts, List.map_append, List.map_map]
    rw [List.pairwise_append]
    refine ⟨?_, hr, fun x hx z hz => ?_⟩
    · rw [List.pairwise_map] at ht ⊢
      exact ht.imp fun {x z} h => by
        show slt (b :: x.1) (b :: z.1)
        rw [slt_cc]; exact Or.inr ⟨rfl, h⟩
    · obtain ⟨x', _, rfl⟩ := List.mem_map.1 hx
      obtain ⟨z', hz', rfl⟩ := List.mem_map.1 hz
      obtain ⟨p0, hp0, q0, hq0, _, ⟨c0, s0, s0', e0, e0'⟩, e1⟩ := ((pts_iff r o5 c2).2 o4 z'.1).1 ⟨z', hz', rfl⟩
      obtain ⟨d0, s1, e2, hd0⟩ := hfr p0 hp0
      rw [e2] at e0
      have e4 := (List.cons.inj e0).1
      show slt (b :: x'.1) z'.1
      rw [← e1, e2, e0', e4, cpre_cons, slt_cc]
      exact Or.inl (by omega)
  | .node bs v has leaf ks, ⟨o1, o2, o3, o4, o5, o6, o7⟩, ⟨c1, c2⟩ => by
    have hk := pts_srt ks o7 c1
    have hk2 : ((pts ks).map fun x => bs ++ x.1).Pairwise slt := by
      rw [List.pairwise_map] at hk ⊢
      exact hk.imp fun {x z} h => by
        have : PSrt [((x.1 : List Nat), (0 : Int)), (z.1, 0)] := by unfold PSrt; simpa using h
        have := psrt_pre (p := bs).2 this
        unfold PSrt pre at this
        simpa using this
    simp only [pts, List.map_append, List.map_map]
    rw [List.pairwise_append]
    refine ⟨by cases leaf <;> simp, hk2, fun x hx z hz => ?_⟩
    cases leaf with
    | true => simp at hx
    | false =>
      obtain rfl : x = bs := by simpa using hx
      obtain ⟨z', hz', rfl⟩ := List.mem_map.1 hz
      obtain ⟨p0, hp0, q0, hq0, _, ⟨c0, s0, s0', e0, e0'⟩, e1⟩ := ((pts_iff ks o7 c1).2 o6 z'.1).1 ⟨z', hz', rfl⟩
      have hz1 : ∃ d s, z'.1 = d :: s := by rw [← e1, e0, e0', cpre_cons]; exact ⟨_, _, rfl⟩
      obtain ⟨d0, sz, hsz⟩ := hz1
      show slt x (x ++ z'.1)
      rw [hsz]
      have : PSrt [(([] : List Nat), (0 : Int)), (d0 :: sz, 0)] := by unfold PSrt; simp [slt]; rfl
      have := psrt_pre (p := x).2 this
      unfold PSrt pre at this
      simpa using this
theorem slt_ext : ∀ {l l' : List (List Nat)}, l.Pairwise slt → l'.Pairwise slt → (∀ x, x ∈ l ↔ x ∈ l') → l = l'
  | [], [], _, _, _ => rfl
  | [], y :: t', _, _, h => by have := (h y).2 (by simp); simp at this
  | x :: t, [], _, _, h => by have := (h x).1 (by simp); simp at this
  | x :: t, y :: t', h1, h2, h => by
    obtain ⟨a1, a2⟩ := List.pairwise_cons.1 h1
    obtain ⟨b1, b2⟩ := List.pairwise_cons.1 h2
    have hxy : x = y := by
      have hx := (h x).1 (by simp)
      have hy := (h y).2 (by simp)
      rcases List.mem_cons.1 hx with e | hx
      · exact e
      · rcases List.mem_cons.1 hy with e | hy
        · exact e.symm
        · exact absurd (slt_trans (b1 x hx) (a1 y hy)) (slt_irrefl _)
    subst hxy
    congr 1
    refine slt_ext a2 b2 fun z => ⟨fun hz => ?_, fun hz => ?_⟩
    · rcases List.mem_cons.1 ((h z).1 (by simp [hz])) with e | q
      · subst e; exact absurd (a1 z hz) (slt_irrefl _)
      · exact q
    · rcases List.mem_cons.1 ((h z).2 (by simp [hz])) with e | q
      · subst e; exact absurd (b1 z hz) (slt_irrefl _)
      · exact q
/-- points that stand where two keys part, rise, and are told by the keys, are the tree's -/
theorem pts_are {t : Tr} (hn : t = .nil ∨ IsN t) (ho : TOk t) (hc : Can t) {R : List PT} (hs : (R.map (·.1)).Pairwise slt) (hk : ∀ x, x ∈ R.map (·.1) ↔ ∃ p ∈ tl t, ∃ q ∈ tl t, p.1 ≠ q.1 ∧ cpre p.1 q.1 = x) (hf : ∀ y ∈ R, FanIs (tl t) y.1 y.2.1 y.2.2) : R = pts t := by
  have hkeys : R.map (·.1) = (pts t).map (·.1) := by
    refine slt_ext hs (pts_srt t ho hc) fun x => ?_
    rw [hk x]
    rcases hn with rfl | hn
    · simp [tl, pts]
    · rw [← (pts_iff t ho hc).1 hn x, List.mem_map]
  have hlen : R.length = (pts t).length := by have := congrArg List.length hkeys; simpa using this
  apply List.ext_getElem hlen
  intro i h1 h2
  have e1 : (R[i]).1 = ((pts t)[i]).1 := by
    have := congrArg (fun l : List (List Nat) => l[i]?) hkeys
    simp only [List.getElem?_map, List.getElem?_eq_getElem h1, List.getElem?_eq_getElem h2, Option.map_some, Option.some.injEq] at this
    exact this
  have f1 := hf _ (List.getElem_mem h1)
  have f2 := pts_fan t ho hc _ (List.getElem_mem h2)
  rw [e1] at f1
  obtain ⟨q1, q2⟩ := f1.uniq f2
  exact Prod.ext e1 (Prod.ext q1 q2)
end Go.Proofs.YtfhdiimcimafkaaGreatDoor
/- The document's fan: by how many bytes keys go on behind some bytes. -/
namespace Go.Proofs.YtfhdiimcimafkaaGreatDoor
open Go.RowKit
abbrev bbT : Nat := 111
/-- which bytes are used -/
def usedL (U : List Nat) : List Value := (List.range 256).map fun b => .bool (decide (b ∈ U))
theorem usedL_nil : usedL [] = List.replicate 256 (.bool false) := by
  unfold usedL
  rw [List.eq_replicate_iff]
  refine ⟨by simp, fun v hv => ?_⟩
  obtain ⟨b, _, rfl⟩ := List.mem_map.1 hv
  simp
theorem usedL_get (U : List Nat) {b : Nat} (h : b < 256) : (usedL U)[b]? = some (.bool (decide (b ∈ U))) := by
  unfold usedL
  rw [List.getElem?_map, List.getElem?_range h]; rfl
theorem usedL_set (U : List Nat) {b : Nat} (h : b < 256) : (usedL U).set b (.bool true) = usedL (U ++ [b]) := by
  apply List.ext_getElem?
  intro j
  rw [List.getElem?_set]
  by_cases hj : j < 256
  · rw [usedL_get _ hj, usedL_get _ hj]
    by_cases e : b = j
    · subst e
      have hl : b < (usedL U).length := by unfold usedL; simpa using h
      simp [hl]
    · have : ¬ j = b := fun q => e q.symm
      simp [e, this]
  · have hl : (usedL (U ++ [b]))[j]? = none := by rw [List.getElem?_eq_none]; unfold usedL; simp; omega
    have hl2 : (usedL U)[j]? = none := by rw [List.getElem?_eq_none]; unfold usedL; simp; omega
    rw [if_neg (by omega), hl, hl2]
/-- what has been seen of some pairs -/
structure FanI (l : PL) (x : List Nat) (U : List Nat) (h : Bool) : Prop where
  nd : U.Nodup
  mem : ∀ b, b ∈ U ↔ ∃ p ∈ l, ∃ s, p.1 = x ++ b :: s
  hs : h = true ↔ ∃ p ∈ l, p.1 = x
theorem FanI.nil (x : List Nat) : FanI [] x [] false := ⟨by simp, by simp, by simp⟩
theorem FanI.is {l : PL} {x U : List Nat} {h : Bool} (a : FanI l x U h) : FanIs l x U.length h := ⟨U, a.nd, rfl, a.mem, a.hs⟩
theorem FanI.no {l : PL} {x U : List Nat} {h : Bool} (a : FanI l x U h) {p : List Nat × Int} (hp : ¬ x <+: p.1) : FanI (l ++ [p]) x U h := by
  refine ⟨a.nd, fun b => ?_, ?_⟩
  · rw [a.mem b]
    constructor
    · rintro ⟨q, hq, r⟩; exact ⟨q, by simp [hq], r⟩
    · rintro ⟨q, hq, s, e⟩
      rcases List.mem_append.1 hq with hq | hq
      · exact ⟨q, hq, s, e⟩
      · obtain rfl := List.mem_singleton.1 hq
        exact absurd ⟨_, e.symm⟩ hp
  · rw [a.hs]
    constructor
    · rintro ⟨q, hq, r⟩; exact ⟨q, by simp [hq], r⟩
    · rintro ⟨q, hq, e⟩
      rcases List.mem_append.1 hq with hq | hq
      · exact ⟨q, hq, e⟩
      · obtain rfl := List.mem_singleton.1 hq
        exact absurd ⟨[], by rw [List.append_nil, e]⟩ hp
theorem FanI.eq {l : PL} {x U : List Nat} {h : Bool} (a : FanI l x U h) {p : List Nat × Int} (hp : p.1 = x) : FanI (l ++ [p]) x U true := by
  refine ⟨a.nd, fun b => ?_, ⟨fun _ => ⟨p, by simp, hp⟩, fun _ => rfl⟩⟩
  rw [a.mem b]
  constructor
  · rintro ⟨q, hq, r⟩; exact ⟨q, by simp [hq], r⟩
  · rintro ⟨q, hq, s, e⟩
    rcases List.mem_append.1 hq with hq | hq
    · exact ⟨q, hq, s, e⟩
    · obtain rfl := List.mem_singleton.1 hq
      rw [hp] at e; simp at e
theorem FanI.hsMore {l : PL} {x U : List Nat} {h : Bool} (a : FanI l x U h) {p : List Nat × Int} {b : Nat} {s : List Nat} (hp : p.1 = x ++ b :: s) : (h = true ↔ ∃ q ∈ l ++ [p], q.1 = x) := by
  rw [a.hs]
  constructor
  · rintro ⟨q, hq, r⟩; exact ⟨q, by simp [hq], r⟩
  · rintro ⟨q, hq, e⟩
    rcases List.mem_append.1 hq with hq | hq
    · exact ⟨q, hq, e⟩
    · obtain rfl := List.mem_singleton.1 hq
      rw [hp] at e; simp at e
theorem FanI.old {l : PL} {x U : List Nat} {h : Bool} (a : FanI l x U h) {p : List Nat × Int} {b : Nat} {s : List Nat} (hp : p.1 = x ++ b :: s) (hb : b ∈ U) : FanI (l ++ [p]) x U h := by
  refine ⟨a.nd, fun c => ?_, a.hsMore hp⟩
  constructor
  · intro hc
    obtain ⟨q, hq, r⟩ := (a.mem c).1 hc
    exact ⟨q, by simp [hq], r⟩
  · rintro ⟨q, hq, s', e⟩
    rcases List.mem_append.1 hq with hq | hq
    · exact (a.mem c).2 ⟨q, hq, s', e⟩
    · obtain rfl := List.mem_singleton.1 hq
      rw [hp] at e
      have := List.append_cancel_left e
      rw [← (List.cons.inj this).1]; exact hb
theorem FanI.new {l : PL} {x U : List Nat} {h : Bool} (a : FanI l x U h) {p : List Nat × Int} {b : Nat} {s : List Nat} (hp : p.1 = x ++ b :: s) (hb : b ∉ U) : FanI (l ++ [p]) x (U ++ [b]) h := by
  refine ⟨?_, fun c => ?_, a.hsMore hp⟩
  · rw [List.nodup_append]
    refine ⟨a.nd, by simp, fun y hy z hz => ?_⟩
    obtain rfl := List.mem_singleton.1 hz
    exact fun e => hb (e ▸ hy)
  · rw [List.mem_append]
    constructor
    · rintro (hc | hc)
      · obtain ⟨q, hq, r⟩ := (a.mem c).1 hc
        exact ⟨q, by simp [hq], r⟩
      · obtain rfl := List.mem_singleton.1 hc
        exact ⟨p, by simp, s, hp⟩
    · rintro ⟨q, hq, s', e⟩
      rcases List.mem_append.1 hq with hq | hq
      · exact Or.inl ((a.mem c).2 ⟨q, hq, s', e⟩)
      · obtain rfl := List.mem_singleton.1 hq
        rw [hp] at e
        have := List.append_cancel_left e
        exact Or.inr (by rw [← (List.cons.inj this).1]; simp)
theorem lcp_pref (k x : List Nat) : lcp k x = x.length ↔ x <+: k := by
  constructor
  · intro h
    have := lcp_take k x
    rw [h, List.take_length] at this
    rw [← this]
    exact List.take_prefix _ _
  · rintro ⟨s, rfl⟩
    have := lcp_pre x s []
    rw [List.append_nil] at this
    rw [this]
    have := (lcp_le s []).2
    simp at this
    omega
set_option maxHeartbeats 1000000 in
theorem ref_begs {w : World} {a b : Option Addr} {n c m d : Nat} {k x : List Nat} (h : Sl w a n c k) (h' : Sl w b m d x) : Calls Tryz.prog 66 #[.slice a n c, .slice b m d] w fun e w' => e = .returned (.bool (decide (x <+: k))) ∧ ∃ q, w' = w.drewN q := by
  have hC := Lib.hid (ref_common w a b n c m d k x h.at_ h'.at_ h.len h'.len (Nat.le_trans h.cap h.capm) (Nat.le_trans h'.cap h'.capm))
  obtain ⟨V, hV⟩ : ∃ V, V = lcp k x := ⟨_, rfl⟩
  rw [← hV] at hC
  have hm : m ≤ 9223372036854775807 := Nat.le_trans h'.cap h'.capm
  have hl := h'.len
  by_cases e : V = m
  · have e1 : decide (x <+: k) = true := decide_eq_true ((lcp_pref k x).1 (by rw [← hV, e, hl]))
    have e2 : ((V : Int) == (m : Int)) = true := by rw [beq_iff_eq, e]
    rw [e1]
    clear h h' hV hl e e1
    go_enter Tryz.func66, Tryz.ntmps66
    go_wp2_with (go_at_call 39; refine hC.out.mono ?_; rintro e w' ⟨rfl, q, rfl⟩)
    go_ret
    exact ⟨rfl, q, rfl⟩
  · have e1 : decide (x <+: k) = false := decide_eq_false (fun z => e (by rw [hV, (lcp_pref k x).2 z, hl]))
    have e2 : ((V : Int) == (m : Int)) = false := by rw [beq_eq_false_iff_ne]; omega
    rw [e1]
    clear h h' hV hl e e1
    go_enter Tryz.func66, Tryz.ntmps66
    go_wp2_with (go_at_call 39; refine hC.out.mono ?_; rintro e w' ⟨rfl, q, rfl⟩)
    go_ret
    exact ⟨rfl, q, rfl⟩
theorem zero_used : Tryz.zeroCells111 = (usedL []).toArray := by rw [usedL_nil]; kernel_rfl
def fanPost (l : PL) (x : List Nat) (w : World) (e : Ending) (w' : World) : Prop := ∃ (m : Nat) (h : Bool), e = .returned (.tuple #[.int .i64 (m : Nat), .bool h]) ∧ FanIs l x m h ∧ m ≤ 256 ∧ Below w.heap.size w w'
set_option maxHeartbeats 4000000 in
set_option maxRecDepth 100000 in
theorem ref_fan {w : World} {a b : Option Addr} {n c m d : Nat} {l : PL} {x : List Nat} (h : Prs w a n c l) (h' : Sl w b m d x) (hn : n ≤ 100000) : Calls Tryz.prog 40 #[.slice a n c, .slice b m d] w (fanPost l x w) := by
  have H := Lib.hid h
  have HX := Lib.hid h'
  have hl := Lib.hid h.len
  have hxl := Lib.hid h'.len
  have hm63 : m ≤ 9223372036854775807 := Nat.le_trans h'.cap h'.capm
  have hbx : Hid ((w.alloc (.cells Tryz.zeroCells111 bbT)).heap[w.heap.size]? = some (.cells (usedL []).toArray bbT (0, 0))) := by
    show _ = _
    rw [heap_alloc_new, zero_used]
  have hB0 : Hid (Below w.heap.size w (w.alloc (.cells Tryz.zeroCells111 bbT))) := (Below.refl _ w).alloc (Nat.le_refl _) _
  have hF0 := Lib.hid (FanI.nil x)
  clear h h'
  go_enter Tryz.func40, Tryz.ntmps40
  go_wp2_with fail
  change Code.wp _ _ _ _ (w.alloc (.cells Tryz.zeroCells111 bbT))
  generalize w.alloc (.cells Tryz.zeroCells111 bbT) = wz at *
  obtain ⟨ub, hub⟩ : ∃ ub, ub = w.heap.size := ⟨_, rfl⟩
  have Hub := Lib.hid (fun (_ : Unit) => hub)
  rw [← hub] at hbx ⊢
  clear hub
  go_loopw [7, 8, 9] (fun v7 v8 v9 wr => ∃ (i : Nat) (U : List Nat) (h : Bool) (k : Nat), v7 = .int .i64 (k : Nat) ∧ v8 = .bool h ∧ v9 = .int .i64 (i : Nat) ∧ i ≤ n ∧ Hid (k = U.length) ∧ Hid (FanI (l.take i) x U h) ∧ Hid (wr.heap[ub]? = some (.cells (usedL U).toArray bbT (0, 0))) ∧ Hid (Below w.heap.size w wr)) (fun _ _ v9 _ => (n - intOf v9).toNat)
  case atStart => exact ⟨0, [], false, 0, rfl, rfl, rfl, by omega, rfl, hF0, hbx, hB0⟩
  case round =>
    clear hF0 hbx hB0
    obtain ⟨i, U, h, k, rfl, rfl, rfl, hi, hk, hF, hbx, B⟩ := hrel
    have hU256 : Hid (U.length ≤ 256) := by
      have hs : ∀ y ∈ U, y ∈ List.range 256 := fun y hy => by
        obtain ⟨p, hp, s, e⟩ := (hF.out.mem y).1 hy
        obtain ⟨q, hq, rfl⟩ := List.getElem_of_mem (List.mem_of_mem_take hp)
        obtain ⟨pp, _, _, a3, n3, c3, _, _, q3⟩ := H.out.at_ q hq
        rw [getD_of_lt hq] at q3
        exact List.mem_range.2 (q3.at_.1 y (by rw [e]; simp))
      have := nodup_le hF.out.nd hs
      rwa [List.length_range] at this
    by_cases hlt : i < n
    · have l1 : (i : Int) < (n : Int) := by omega
      have l0 : (0 : Int) ≤ (i : Int) := by omega
      have hil : i < l.length := by rw [hl.out]; exact hlt
      obtain ⟨p, a3, n3, c3, rfl, q1, q2, q3⟩ := prs_row (H.out.below B.out) hlt
      have htk : l.take (i + 1) = l.take i ++ [l.getD i ([], 0)] := by rw [List.take_succ_eq_append_getElem hil, getD_of_lt hil]
      obtain ⟨pr, hpr⟩ : ∃ pr, pr = l.getD i ([], 0) := ⟨_, rfl⟩
      rw [← hpr] at q3 htk q2
      have hw9 : IntKind.i64.wrap (((i : Nat) : Int) + 1) = ((i + 1 : Nat) : Int) := by rw [show ((i : Nat) : Int) + 1 = ((i + 1 : Nat) : Int) by omega]; exact IntWalk.i64_in _ (by omega)
      have hBg := Lib.hid (ref_begs q3 (HX.out.below B.out))
      have hn3 := q3.len
      have hn63 : n3 ≤ 9223372036854775807 := Nat.le_trans q3.cap q3.capm
      have HQ3 := Lib.hid q3
      clear q2 hpr q3
      by_cases hpre : x <+: pr.1
      · rw [decide_eq_true hpre] at hBg
        obtain ⟨sfx, hsf⟩ := hpre
        cases sfx with
        | nil =>
          rw [List.append_nil] at hsf
          have e1 : ((n3 : Int) == (m : Int)) = true := by rw [beq_iff_eq, ← hn3, ← hxl.out, hsf]
          have hF2 : Hid (FanI (l.take (i + 1)) x U true) := by rw [htk]; exact hF.out.eq hsf.symm
          clear hF hsf htk hn3
          go_wp2_with (go_at_call 66; refine hBg.out.mono ?_; rintro e w2 ⟨rfl, q, rfl⟩)
          go_roundw
          case rel => exact ⟨i + 1, U, true, k, rfl, rfl, (by first | rfl | go_num), by omega, hk, hF2, hbx, below_drewN B.out _⟩
          case measure => (simp [intOf]) <;> omega
        | cons b s =>
          have hlen : n3 = m + 1 + s.length := by rw [← hn3, ← hxl.out, ← hsf]; simp; omega
          have e1 : ((n3 : Int) == (m : Int)) = false := by rw [beq_eq_false_iff_ne]; omega
          have m0 : (0 : Int) ≤ (m : Int) := by omega
          have m1 : (m : Int) < (n3 : Int) := by omega
          obtain ⟨pk, rfl, y1, y2⟩ := HQ3.out.at_.2 m (by rw [hn3]; omega)
          have hgb : pr.1.getD m 0 = b := by rw [← hsf, ← hxl.out, List.getD, List.getElem?_append_right (Nat.le_refl _), Nat.sub_self]; rfl
          rw [hgb] at y2
          have hb8 : b < 256 := HQ3.out.at_.1 b (by rw [← hsf]; simp)
          have b0 : (0 : Int) ≤ (b : Int) := by omega
          have b1 : (b : Int) < 256 := by omega
          have hcell : wr.cell? ⟨ub, b, none⟩ = some (.bool (decide (b ∈ U))) := by rw [cell_of_blk hbx.out, usedL_get U hb8]
          have hfz := frozen_of_blk hbx.out b
          by_cases hbu : b ∈ U
          · have hF2 : Hid (FanI (l.take (i + 1)) x U h) := by rw [htk]; exact hF.out.old hsf.symm hbu
            rw [decide_eq_true hbu] at hcell
            clear hF hsf htk hn3 hlen hgb hbu HQ3
            go_wp2_with (go_at_call 66; refine hBg.out.mono ?_; rintro e w2 ⟨rfl, q, rfl⟩)
            go_roundw
            case rel => exact ⟨i + 1, U, h, k, rfl, rfl, (by first | rfl | go_num), by omega, hk, hF2, hbx, below_drewN B.out _⟩
            case measure => (simp [intOf]) <;> omega
          · have hF2 : Hid (FanI (l.take (i + 1)) x (U ++ [b]) h) := by rw [htk]; exact hF.out.new hsf.symm hbu
            have hbx2 : Hid (∀ q, ((wr.drewN q).setCell ⟨ub, b, none⟩ (.bool true)).heap[ub]? = some (.cells (usedL (U ++ [b])).toArray bbT (0, 0))) := fun q => by
              have hb2 : (wr.drewN q).heap[ub]? = some (.cells (usedL U).toArray bbT (0, 0)) := hbx.out
              rw [setCell_list _ _ _ _ _ _ hb2, setRow_heap _ _ _ _ _ _ hb2, usedL_set U hb8]
            have hB2 : Hid (∀ q, Below w.heap.size w ((wr.drewN q).setCell ⟨ub, b, none⟩ (.bool true))) := fun q => (below_drewN B.out q).setCell (p := ⟨ub, b, none⟩) (Nat.le_of_eq (Hub.out ()).symm) _
            have hk2 : Hid (k + 1 = (U ++ [b]).length) := by show _ = _; rw [List.length_append, hk.out]; rfl
            have hwk : IntKind.i64.wrap (((k : Nat) : Int) + 1) = ((k + 1 : Nat) : Int) := by rw [show ((k : Nat) : Int) + 1 = ((k + 1 : Nat) : Int) by omega]; exact IntWalk.i64_in _ (by have := hk.out; have := hU256.out; omega)
            rw [decide_eq_false hbu] at hcell
            clear hF hsf htk hn3 hlen hgb hbu HQ3 hk
            go_wp2_with (go_at_call 66; refine hBg.out.mono ?_; rintro e w2 ⟨rfl, q, rfl⟩)
            go_roundw
            case rel => exact ⟨i + 1, U ++ [b], h, k + 1, (by first | rfl | go_num), rfl, (by first | rfl | go_num), by omega, hk2, hF2, hbx2.out _, hB2.out _⟩
            case measure => (simp [intOf]) <;> omega
      · rw [decide_eq_false hpre] at hBg
        have hF2 : Hid (FanI (l.take (i + 1)) x U h) := by rw [htk]; exact hF.out.no hpre
        clear hF hpre htk hn3
        go_wp2_with (go_at_call 66; refine hBg.out.mono ?_; rintro e w2 ⟨rfl, q, rfl⟩)
        go_roundw
        case rel => exact ⟨i + 1, U, h, k, rfl, rfl, (by first | rfl | go_num), by omega, hk, hF2, hbx, below_drewN B.out _⟩
        case measure => (simp [intOf]) <;> omega
    · have l1 : ¬ (i : Int) < (n : Int) := by omega
      obtain rfl : i = n := by omega
      have hfin : Hid (FanIs l x k h) := by
        have := hF.out.is
        rw [List.take_of_length_le (by rw [hl.out]; exact Nat.le_refl _), ← hk.out] at this
        exact this
      have hk256 : Hid (k ≤ 256) := by show _ ≤ _; rw [hk.out]; exact hU256.out
      clear hF hbx hk
      go_wp2_with fail
      go_ret2
      exact ⟨k, h, rfl, hfin.out, hk256.out, B.out⟩
end Go.Proofs.YtfhdiimcimafkaaGreatDoor
/- The document's Points. -/
namespace Go.Proofs.YtfhdiimcimafkaaGreatDoor
open Go.RowKit
abbrev rpT : TypeId := 41
theorem rpInfo : (Tryz.prog.info? rpT).map (fun i => (i.zero, i.size, i.bytes)) = some (some (.agg #[.slice none 0 0, .int .i64 0, .bool false]), 3, 40) := by kernel_rfl
/-- points as pairs: a key, and a number -/
def codes (R : List PT) : PL := R.map fun x => (x.1, pcode (kindOf x.2.1) x.2.2)
/-- points that were laid since w; their keys are of w -/
def PPs (w : World) (v : Value) (R : List PT) (wr : World) : Prop := ∃ es bo, OwnS 3 rpT wr v R.length (flatP es) bo ∧ Ents w es (codes R) ∧ (bo = none ∨ ∃ g, bo = some g ∧ w.heap.size ≤ g) ∧ Below w.heap.size w wr
theorem PPs.nil {w wr : World} (hb : Below w.heap.size w wr) : PPs w (.slice none 0 0) [] wr := ⟨[], none, OwnS.nil _ _ _, ents_nil w, Or.inl rfl, hb⟩
theorem PPs.below {w wr w' : World} {v : Value} {R : List PT} (h : PPs w v R wr) (hb : Below wr.heap.size wr w') : PPs w v R w' := by
  obtain ⟨es, bo, h1, h2, h3, h4⟩ := h
  exact ⟨es, bo, h1.below hb, h2, h3, h4.trans (hb.mono h4.size)⟩
theorem PPs.below_ {w wr : World} {v : Value} {R : List PT} (h : PPs w v R wr) : Below w.heap.size w wr := by
  obtain ⟨_, _, _, _, _, h⟩ := h; exact h
theorem PPs.ask {w wr : World} {v : Value} {R : List PT} (h : PPs w v R wr) {a3 : Option Addr} {n3 c3 : Nat} {x : List Nat} {m : Nat} {hb : Bool} (hs : Sl w a3 n3 c3 x) (hk : kindOf m ≤ 256) (w0 : World) (h0 : Below wr.heap.size wr w0) :
    ∃ es bo, OwnS 3 rpT w0 v R.length (flatP es) bo ∧ ∀ v1 w1 bo1, OwnS 3 rpT w1 v1 (R.length + 1) (flatP es ++ [.slice a3 n3 c3, .int .i64 (kindOf m : Nat), .bool hb]) bo1 → Mod (fun k => bo = some k) w0 w1 → NewOr w0 bo bo1 → PPs w v1 (R ++ [(x, m, hb)]) w1 := by
  obtain ⟨es, bo, h1, h2, h3, h4⟩ := h.below h0
  refine ⟨es, bo, h1, fun v1 w1 bo1 q1 q2 q3 => ⟨es ++ [(.slice a3 n3 c3, pcode (kindOf m) hb)], bo1, ?_, ?_, q3.since h3 h4.size, h4.trans (q2.sinceOf h3 h4.size)⟩⟩
  · rw [flatP_snoc, List.length_append]
    exact q1
  · unfold codes
    rw [List.map_append]
    exact h2.snoc ⟨⟨_, _, _, rfl, hs⟩, rfl, pcode_ok hk⟩
/-- the prefixes that the first i have with those ahead of them, and the i-th with the first j -/
structure AllI (l : PL) (i j : Nat) (A : PL) : Prop where
  len : A.length ≤ i * 1000 + j
  mem : ∀ x, x ∈ A.map (·.1) ↔ ∃ i' j', j' < i' ∧ (i' < i ∨ (i' = i ∧ j' < j)) ∧ x = cpre (l.getD i' ([], 0)).1 (l.getD j' ([], 0)).1
theorem AllI.nil (l : PL) : AllI l 0 0 [] := ⟨by simp, fun x => by simp⟩
set_option maxRecDepth 100000 in
theorem AllI.next {l : PL} {i : Nat} {A : PL} (h : AllI l i i A) (hi : i ≤ 1000) : AllI l (i + 1) 0 A := by
  refine ⟨by have := h.len; omega, fun x => ?_⟩
  rw [h.mem x]
  constructor
  · rintro ⟨i', j', h1, h2, h3⟩
    exact ⟨i', j', h1, Or.inl (by omega), h3⟩
  · rintro ⟨i', j', h1, h2, h3⟩
    refine ⟨i', j', h1, ?_, h3⟩
    rcases h2 with h2 | h2
    · by_cases e : i' = i
      · exact Or.inr ⟨e, by omega⟩
      · exact Or.inl (by omega)
    · omega
set_option maxRecDepth 100000 in
theorem AllI.more {l : PL} {i j : Nat} {A : PL} (h : AllI l i j A) (hj : j < i) (z : Int) : AllI l i (j + 1) (A ++ [(cpre (l.getD i ([], 0)).1 (l.getD j ([], 0)).1, z)]) := by
  refine ⟨by have := h.len; rw [List.length_append]; simp; omega, fun x => ?_⟩
  rw [List.map_append, List.mem_append, h.mem x]
  constructor
  · rintro (⟨i', j', h1, h2, h3⟩ | h)
    · refine ⟨i', j', h1, ?_, h3⟩
      rcases h2 with h2 | h2
      · exact Or.inl h2
      · exact Or.inr ⟨h2.1, by omega⟩
    · exact ⟨i, j, hj, Or.inr ⟨rfl, by omega⟩, by simpa using h⟩
  · rintro ⟨i', j', h1, h2, h3⟩
    rcases h2 with h2 | ⟨e, h2⟩
    · exact Or.inl ⟨i', j', h1, Or.inl h2, h3⟩
    · by_cases e2 : j' = j
      · subst e; subst e2
        exact Or.inr (by simp [h3])
      · exact Or.inl ⟨i', j', h1, Or.inr ⟨e, by omega⟩, h3⟩
/-- what Points leaves -/
def dptPost (l : PL) (w : World) (e : Ending) (w' : World) : Prop := ∃ (v : Value) (R : List PT) (wS : World), e = .returned v ∧ Below w.heap.size w wS ∧ PPs wS v R w' ∧ (R.map (·.1)).Pairwise slt ∧ (∀ x, x ∈ R.map (·.1) ↔ ∃ i' j', j' < i' ∧ i' < l.length ∧ x = cpre (l.getD i' ([], 0)).1 (l.getD j' ([], 0)).1) ∧ (∀ y ∈ R, FanIs l y.1 y.2.1 y.2.2) ∧ R.length ≤ 100000
set_option maxHeartbeats 8000000 in
set_option maxRecDepth 100000 in
theorem ref_points {w : World} {a : Option Addr} {n c : Nat} {l : PL} (h : Prs w a n c l) (hn : n ≤ 90) : Calls Tryz.prog 13 #[.slice a n c] w (dptPost l w) := by
  have H := Lib.hid h
  have hl := Lib.hid h.len
  have h0 := Lib.hid (PLs.nil kpT w)
  have hA0 := Lib.hid (AllI.nil l)
  clear h
  go_enter Tryz.func13, Tryz.ntmps13
  go_wp2_with fail
  go_loopw [4, 3] (fun v4 v3 wr => ∃ (i : Nat) (A : PL), v4 = .int .i64 (i : Nat) ∧ i ≤ n ∧ Hid (AllI l i 0 A) ∧ Hid (PLs kpT w v3 A wr)) (fun v4 _ _ => (n - intOf v4).toNat)
  case atStart => exact ⟨0, [], rfl, by omega, hA0, h0⟩
  case round =>
    clear h0 hA0
    obtain ⟨i, A0, rfl, hi, hA, hP⟩ := hrel
    by_cases hlt : i < n
    · have l1 : (i : Int) < (n : Int) := by omega
      have l0 : (0 : Int) ≤ (i : Int) := by omega
      have hw9 : IntKind.i64.wrap (((i : Nat) : Int) + 1) = ((i + 1 : Nat) : Int) := by rw [show ((i : Nat) : Int) + 1 = ((i + 1 : Nat) : Int) by omega]; exact IntWalk.i64_in _ (by omega)
      go_wp2_with fail
      go_loopw [5, 3] (fun v5 v3 wr => ∃ (j : Nat) (A : PL), v5 = .int .i64 (j : Nat) ∧ j ≤ i ∧ Hid (AllI l i j A) ∧ Hid (PLs kpT w v3 A wr)) (fun v5 _ _ => (i - intOf v5).toNat)
      case atStart => exact ⟨0, A0, rfl, by omega, hA, hP⟩
      case round =>
        clear hA hP
        obtain ⟨j, A, rfl, hj, hA, hP⟩ := hrel
        by_cases hji : j < i
        · have m1 : (j : Int) < (i : Int) := by omega
          have m0 : (0 : Int) ≤ (j : Int) := by omega
          have m2 : (j : Int) < (n : Int) := by omega
          have hwj : IntKind.i64.wrap (((j : Nat) : Int) + 1) = ((j + 1 : Nat) : Int) := by rw [show ((j : Nat) : Int) + 1 = ((j + 1 : Nat) : Int) by omega]; exact IntWalk.i64_in _ (by omega)
          have hB := hP.out.below_
          obtain ⟨p, a3, n3, c3, rfl, q1, q2, q3⟩ := prs_row H.out hlt
          obtain ⟨p', a4, n4, c4, hp', z1, z2, z3⟩ := prs_row H.out (i := j) (by omega)
          obtain rfl : p = p' := by simpa using hp'
          have y1 := (hB.cell (cell_lt q1)).trans q1
          have y4 := (hB.cell (cell_lt z1)).trans z1
          have hC : Hid (∀ k, Calls Tryz.prog 39 #[.slice a3 n3 c3, .slice a4 n4 c4] (wr.drewN k) fun e w' => e = .returned (.int .i64 (lcp (l.getD i ([], 0)).1 (l.getD j ([], 0)).1 : Nat)) ∧ ∃ p, w' = (wr.drewN k).drewN p) := fun k =>
            ref_common (wr.drewN k) a3 a4 n3 c3 n4 c4 _ _ ((q3.below hB).drewN k).at_ ((z3.below hB).drewN k).at_ q3.len z3.len (Nat.le_trans q3.cap q3.capm) (Nat.le_trans z3.cap z3.capm)
          have hmr := hA.out.more hji 0
          obtain ⟨M, hM⟩ : ∃ M, M = lcp (l.getD i ([], 0)).1 (l.getD j ([], 0)).1 := ⟨_, rfl⟩
          have hMn : M ≤ n3 := by have := (lcp_le (l.getD i ([], 0)).1 (l.getD j ([], 0)).1).1; rw [← hM, q3.len] at this; exact this
          have hsl : Sl w a3 M c3 (cpre (l.getD i ([], 0)).1 (l.getD j ([], 0)).1) := by
            have := q3.to_ hMn
            rw [cutA_zero] at this
            unfold cpre
            rw [← hM]; exact this
          rw [← hM] at hC
          have hMc : M ≤ c3 := Nat.le_trans hMn q3.cap
          have hcut : ∀ w, (Instr.slice 38 (.slice a3 n3 c3) none (some (.int .i64 (M : Nat))) none).run Tryz.prog w = .ok (.slice a3 M c3) w := fun w => by rw [run_to8 w a3 n3 c3 M hMc, cutA_zero]
          have hMr := Lib.hid hmr
          generalize cpre (l.getD i ([], 0)).1 (l.getD j ([], 0)).1 = x at *
          have hlA : A.length ≤ 90000 := by have := hA.out.len; have : i * 1000 ≤ 90 * 1000 := Nat.mul_le_mul_right _ (by omega); omega
          have g0 : (0 : Int) ≤ (M : Int) := by omega
          have g1 : (M : Int) ≤ (c3 : Int) := by omega
          have hask := fun q => hP.out.ask hsl (y := 0) (by omega) 22 ((wr.drewN q).alloc (.cells #[.slice a3 M c3, .int .u64 0] kpT)) ((below_drewN (Below.refl _ wr) q).alloc (by simp) _)
          clear q2 z2 hp' z3 q3 hM hMn hsl hmr hB hA
          go_wp2_with fail
          go_quiet ((go_at_call 39; exact Calls.quiet_of (hC.out _)))
          obtain ⟨es, bo, ho, hfin⟩ := hask nq
          have y1 : (wr.drewN nq).cell? (p.add (i * 2)) = some (.slice a3 n3 c3) := y1
          have y4 : (wr.drewN nq).cell? (p.add (j * 2)) = some (.slice a4 n4 c4) := y4
          have hnw : Hid (∀ j u, ([.slice a3 M c3, .int .u64 0] : List Value)[j]? = some u → ((wr.drewN nq).alloc (.cells #[.slice a3 M c3, .int .u64 0] kpT)).cell? ((⟨(wr.drewN nq).heap.size, 0, none⟩ : Addr).add j) = some u) := pair_news (wr.drewN nq) (.slice a3 M c3) 0 kpT
          have ho := Lib.hid ho
          have hfin := Lib.hid hfin
          have h1 := Lib.hid (oneP (a := a3) (n := M) (c := c3) (y := 0))
          have hb1 : Hid (A.length + 1 ≤ maxLen) := by show _ ≤ _; unfold maxLen; omega
          have hb2 : Hid ((A.length + 1) * 32 ≤ 140737488355328) := by show _ ≤ _; omega
          generalize wr.drewN nq = W at *
          clear hask hC
          go_wp2_with (at_builtin; go_loud (refine wpList_append_s rfl (.tmp 33) (.tmp 42) 22 rfl kpT _ 2 32 Tryz.underlying22 kpInfo rfl (by omega) u3 rfl A.length (flat es) bo ho.out ⟨W.heap.size, 0, none⟩ 1 1 [.slice a3 M c3, .int .u64 0] rfl rfl hnw.out h1.out hb1.out hb2.out ?_); intro v1 w1 bo1 HO HM HN)
          have hP2 := Lib.hid (hfin.out v1 w1 bo1 HO.out HM.out HN.out)
          go_roundw
          case rel => exact ⟨j + 1, _, (by first | rfl | go_num), by omega, hMr, hP2⟩
          case measure => (simp [intOf]) <;> omega
        · have m1 : ¬ (j : Int) < (i : Int) := by omega
          obtain rfl : j = i := by omega
          have hA2 := Lib.hid (hA.out.next (by omega))
          go_wp2_with fail
          go_roundw
          case rel => exact ⟨j + 1, A, (by first | rfl | go_num), by omega, hA2, hP⟩
          case measure => (simp [intOf]) <;> omega
    · have l1 : ¬ (i : Int) < (n : Int) := by omega
      obtain rfl : i = n := by omega
      obtain ⟨aA, cA, hvA, hpA⟩ := hP.out.prs
      subst hvA
      have hlA : A0.length ≤ 100000 := by have := hA.out.len; have : i * 1000 ≤ 90 * 1000 := Nat.mul_le_mul_right _ hn; omega
      have hSo := Lib.hid (ref_sort wr aA A0.length cA A0 hpA hlA)
      have hBr := Lib.hid hP.out.below_
      clear hpA hP
      go_wp2_with (go_at_call 9; refine hSo.out.mono ?_; rintro e wS ⟨vS, l0, rfl, hPS, hSI⟩
                   obtain ⟨aS, cS, hvS, hpS⟩ := hPS.prs
                   subst hvS
                   have hBS := Lib.hid (hBr.out.trans (hPS.below_.mono hBr.out.size))
                   have HPS := Lib.hid hpS
                   have HSI := Lib.hid hSI
                   clear hPS hSI hpS)
      obtain ⟨N0, hN0⟩ : ∃ N0, N0 = l0.length := ⟨_, rfl⟩
      rw [← hN0]
      have HN0 := Lib.hid hN0
      have hNb : N0 ≤ 100000 := by have := HSI.out.len; omega
      have hL0 : Hid (PPs wS (.slice none 0 0) [] wS) := PPs.nil (Below.refl _ _)
      clear hN0 hSo hBr
      go_loopw [8, 7] (fun v8 v7 wr => ∃ (q : Nat) (R : List PT), v8 = .int .i64 (q : Nat) ∧ q ≤ N0 ∧ Hid (R.map (·.1) = (l0.take q).map (·.1)) ∧ Hid (∀ y ∈ R, FanIs l y.1 y.2.1 y.2.2) ∧ Hid (PPs wS v7 R wr)) (fun v8 _ _ => (N0 - intOf v8).toNat)
      case atStart => exact ⟨0, [], rfl, by omega, rfl, (fun y hy => by simp at hy), hL0⟩
      case round =>
        clear hL0
        obtain ⟨q, R, rfl, hq, hR, hFn, hPP⟩ := hrel
        have hBw := Lib.hid (hBS.out.trans (hPP.out.below_.mono hBS.out.size))
        by_cases hqn : q < N0
        · have m1 : (q : Int) < (N0 : Int) := by omega
          have m0 : (0 : Int) ≤ (q : Int) := by omega
          have hql : q < l0.length := by rw [← HN0.out]; exact hqn
          have hwq : IntKind.i64.wrap (((q : Nat) : Int) + 1) = ((q + 1 : Nat) : Int) := by rw [show ((q : Nat) : Int) + 1 = ((q + 1 : Nat) : Int) by omega]; exact IntWalk.i64_in _ (by omega)
          obtain ⟨p, a3, n3, c3, rfl, q1, q2, q3⟩ := prs_row HPS.out hql
          have hKc : Hid (∀ X, Below wr.heap.size wr X → X.cell? (p.add (q * 2)) = some (.slice a3 n3 c3)) := fun X hX => by
            have hB := hPP.out.below_.trans (hX.mono hPP.out.below_.size)
            exact (hB.cell (cell_lt q1)).trans q1
          have hFan := Lib.hid (ref_fan (H.out.below hBw.out) (q3.below hPP.out.below_) (Nat.le_trans hn (by omega)))
          have hR2 : Hid (∀ (m : Nat) (h : Bool), (R ++ [((l0.getD q ([], 0)).1, m, h)]).map (fun y : PT => y.1) = (l0.take (q + 1)).map (·.1)) := fun m h => by
            rw [List.map_append, hR.out, List.take_succ_eq_append_getElem hql, List.map_append, getD_of_lt hql]; rfl
          have hRl : Hid (R.length ≤ 100000) := by
            have := congrArg List.length hR.out
            rw [List.length_map, List.length_map, List.length_take] at this
            show _ ≤ _
            omega
          have HQ3 := Lib.hid q3
          generalize (l0.getD q ([], 0)).1 = x at *
          have y1 := hKc.out wr (Below.refl _ _)
          clear q1 q2 q3
          go_upto_region 16 with (go_at_call 40; refine hFan.out.mono ?_; rintro e w2 ⟨mm, hh, rfl, hF1, hF2, hF3⟩
                                  have B2 := Lib.hid hF3
                                  have HF1 := Lib.hid hF1
                                  have HF2 := Lib.hid hF2
                                  clear hF1 hF2 hF3)
          have y2 := hKc.out w2 B2.out
          have hk256 : kindOf mm ≤ 256 := by have := kindOf_cases mm; omega
          obtain ⟨es, bo, ho, hfin⟩ := hPP.out.ask (m := mm) (hb := hh) HQ3.out hk256 ((w2.alloc (.cells #[.slice a3 n3 c3, .int .i64 (kindOf mm : Nat), .bool hh] rpT)).drew) ((B2.out.alloc B2.out.size _).drew)
          have hKind : Hid (∀ wr, Calls Tryz.prog 41 #[.int .i64 (mm : Nat)] wr fun e w' => e = .returned (.int .i64 (kindOf mm : Nat)) ∧ wr = w') := fun wr => by
            have := refKind_any (mm : Nat) wr
            rwa [kindZ_nat _ HF2.out] at this
          have hFn2 : Hid (∀ y ∈ R ++ [(x, mm, hh)], FanIs l y.1 y.2.1 y.2.2) := fun y hy => by
            rcases List.mem_append.1 hy with hy | hy
            · exact hFn.out y hy
            · obtain rfl := List.mem_singleton.1 hy; exact HF1.out
          have hR3 := Lib.hid (hR2.out mm hh)
          have ho := Lib.hid ho
          have hfin := Lib.hid hfin
          obtain ⟨kd, hkd⟩ : ∃ kd, kd = kindOf mm := ⟨_, rfl⟩
          rw [← hkd] at hKind ho hfin
          have hnw : Hid (∀ j u, ([.slice a3 n3 c3, .int .i64 (kd : Nat), .bool hh] : List Value)[j]? = some u → (w2.alloc (.cells #[.slice a3 n3 c3, .int .i64 (kd : Nat), .bool hh] rpT)).drew.cell? ((⟨w2.heap.size, 0, none⟩ : Addr).add j) = some u) := point_news w2 (.slice a3 n3 c3) kd hh rpT
          have h1 := Lib.hid (oneP3 (a := a3) (n := n3) (c := c3) (k := kd) (hb := hh))
          have hb1 : Hid (R.length + 1 ≤ maxLen) := by have := hRl.out; show _ ≤ _; unfold maxLen; omega
          have hb2 : Hid ((R.length + 1) * 40 ≤ 140737488355328) := by have := hRl.out; show _ ≤ _; omega
          clear hkd hk256 hFan hR2 hRl hPP hR hFn
          go_region_law (first
            | (have g9 := gK; refine step_append_s rfl (.tmp 62) (.tmp 72) 35 rfl rpT _ 3 40 Tryz.underlying35 rpInfo rfl (by omega) _ rfl R.length (flatP es) bo ho.out ⟨w2.heap.size, 0, none⟩ 1 1 [.slice a3 n3 c3, .int .i64 (kd : Nat), .bool hh] rfl rfl hnw.out h1.out hb1.out hb2.out ?_; intro v5 w5 bo5 HO HM HN)
            | (go_simp; go_at_call 41; refine (hKind.out _).mono ?_; rintro e wk ⟨rfl, rfl⟩; have gK : Hid True := trivial))
          all_goals (
            have hP5 := Lib.hid (hfin.out _ _ _ HO.out HM.out HN.out)
            (try simp only [Exit.then, Exit.inBlock])
            go_wp2_with fail
            go_roundw
            case rel => exact ⟨q + 1, _, (by first | rfl | go_num), by omega, hR3, hFn2, hP5⟩
            case measure => (simp [intOf]) <;> omega)
        · have m1 : ¬ (q : Int) < (N0 : Int) := by omega
          obtain rfl : q = N0 := by omega
          have hRk : R.map (fun y : PT => y.1) = l0.map (fun y : List Nat × Int => y.1) := by rw [hR.out, HN0.out, List.take_of_length_le (Nat.le_refl _)]
          have hA9 := hA.out
          have hfinal : Hid ((R.map (·.1)).Pairwise slt ∧ (∀ x, x ∈ R.map (·.1) ↔ ∃ i' j', j' < i' ∧ i' < l.length ∧ x = cpre (l.getD i' ([], 0)).1 (l.getD j' ([], 0)).1) ∧ R.length ≤ 100000) := by
            refine ⟨by rw [hRk]; exact HSI.out.srt, fun x => ?_, ?_⟩
            · rw [hRk]
              have e : x ∈ l0.map (·.1) ↔ x ∈ A0.map (·.1) := by
                constructor
                · intro hx
                  obtain ⟨y, hy, rfl⟩ := List.mem_map.1 hx
                  obtain ⟨z, hz, e⟩ := HSI.out.keys y hy
                  rw [← e]; exact List.mem_map_of_mem hz
                · intro hx
                  obtain ⟨y, hy, rfl⟩ := List.mem_map.1 hx
                  obtain ⟨j, hj, rfl⟩ := List.getElem_of_mem hy
                  obtain ⟨z, hz, e⟩ := HSI.out.all j hj
                  rw [getD_of_lt hj] at e
                  rw [← e]; exact List.mem_map_of_mem hz
              rw [e, hA9.mem x]
              constructor
              · rintro ⟨i', j', h1, h2, h3⟩
                exact ⟨i', j', h1, by rw [hl.out]; omega, h3⟩
              · rintro ⟨i', j', h1, h2, h3⟩
                exact ⟨i', j', h1, Or.inl (by rw [← hl.out]; exact h2), h3⟩
            · have := congrArg List.length hRk
              rw [List.length_map, List.length_map, ← HN0.out] at this
              omega
          clear hRk hA9 hR
          go_wp2_with fail
          go_ret
          exact ⟨_, R, wS, rfl, hBS.out, hPP.out, hfinal.out.1, hfinal.out.2.1, hFn.out, hfinal.out.2.2⟩
end Go.Proofs.YtfhdiimcimafkaaGreatDoor
/- law CanonPoints: the walk. -/
namespace Go.Proofs.YtfhdiimcimafkaaGreatDoor
open Go.RowKit
theorem PL2.prs {ty : Nat} {wB w wr : World} {v : Value} {l : PL} (h : PL2 ty wB w v l wr) (hB : Below wB.heap.size wB w) : ∃ a c, v = .slice a l.length c ∧ Prs wr a l.length c l := by
  obtain ⟨es, bo, ho, he, hbo, hb⟩ := h
  exact prs_of_own ho (he.below (hB.trans (hb.mono hB.size)))
/-- a point's cells -/
theorem pts_row {ty : Nat} {w : World} {a : Option Addr} {n c : Nat} {es : EL} {bo : Option Nat} {l : PL} (ho : OwnS 3 ty w (.slice a n c) n (flatP es) bo) (he : Ents w es l) (hl : l.length = n) {i : Nat} (hi : i < n) :
    ∃ g a3 n3 c3, a = some ⟨g, 0, none⟩ ∧ w.cell? ⟨g, i * 3, none⟩ = some (.slice a3 n3 c3) ∧ w.cell? ⟨g, i * 3 + 1, none⟩ = some (.int .i64 ((l.getD i ([], 0)).2 / 2)) ∧ w.cell? ⟨g, i * 3 + 2, none⟩ = some (.bool (decide ((l.getD i ([], 0)).2 % 2 = 1))) ∧ Sl w a3 n3 c3 (l.getD i ([], 0)).1 := by
  obtain ⟨h', ⟨⟨a3, n3, c3, q1, q2⟩, q3, _⟩⟩ := he.at_ (i := i) (by omega)
  obtain ⟨g, cap, e0, e1, z1, _⟩ := ho.at_ (j := i * 3) (by omega)
  obtain ⟨g2, cap2, e2, _, z2, _⟩ := ho.at_ (j := i * 3 + 1) (by omega)
  obtain ⟨g3, cap3, e3, _, z3, _⟩ := ho.at_ (j := i * 3 + 2) (by omega)
  subst e0
  obtain rfl : g = g2 := by simpa using e2
  obtain rfl : g = g3 := by simpa using e3
  obtain ⟨f1, f2, f3⟩ := flatP_get es i h'
  rw [f1, q1] at z1
  rw [f2, q3] at z2
  rw [f3, q3] at z3
  have ea : a = some ⟨g, 0, none⟩ := by injection e1
  rw [getD_of_lt (show i < l.length by omega)]
  exact ⟨g, a3, n3, c3, ea, z1, z2, z3, q2⟩
/-- both tell the same points -/
theorem pts_both {t : Tr} {l : PL} {R : List PT} (hn : t = .nil ∨ IsN t) (ho : TOk t) (hc : Can t) (he : tl t = l) (hs : PSrt l) (h1 : (R.map (·.1)).Pairwise slt) (h2 : ∀ x, x ∈ R.map (·.1) ↔ ∃ i' j', j' < i' ∧ i' < l.length ∧ x = cpre (l.getD i' ([], 0)).1 (l.getD j' ([], 0)).1) (h3 : ∀ y ∈ R, FanIs l y.1 y.2.1 y.2.2) : codes R = tv ptT t [] := by
  have hR : R = pts t := by
    refine pts_are hn ho hc h1 (fun x => ?_) (by rw [he]; exact h3)
    rw [h2 x, he]
    constructor
    · rintro ⟨i, j, hj, hi, rfl⟩
      refine ⟨l.getD i ([], 0), mem_getD hi, l.getD j ([], 0), mem_getD (by omega), fun e => ?_, rfl⟩
      have := hs.at_ hj hi
      rw [e] at this
      exact slt_irrefl _ this
    · rintro ⟨p, hp, q, hq, hpq, rfl⟩
      obtain ⟨i, hi, rfl⟩ := List.getElem_of_mem hp
      obtain ⟨j, hj, rfl⟩ := List.getElem_of_mem hq
      rcases Nat.lt_trichotomy i j with e | e | e
      · exact ⟨j, i, e, hj, by rw [getD_of_lt hi, getD_of_lt hj, cpre_comm]⟩
      · subst e; exact absurd rfl hpq
      · exact ⟨i, j, e, hi, by rw [getD_of_lt hi, getD_of_lt hj]⟩
  rw [hR, ptT_pts]; rfl
set_option maxHeartbeats 8000000 in
set_option maxRecDepth 100000 in
theorem law_points (w : World) (a : Option Addr) (n c : Nat) (l : PL) (h : Prs w a n c l) (hP : PTab w) :
    Calls Tryz.prog 3 #[.slice a n c] w (belowPost (.bool true) w) := by
  have hAl : Hid (∀ X, Below w.heap.size w X → Calls Tryz.prog 8 #[] X (belowPost (.bool true) X)) := fun X hX => alive13 X (hP.below hX)
  have hfar := Lib.hid (far_13 w a n c l h 60 (by omega))
  cases hfc : (decide (60 < n) || farL 300 l) with
  | true =>
    rw [hfc] at hfar
    clear h hP hfc
    go_enter Tryz.func3, Tryz.ntmps3
    go_wp2_with (first
      | (go_at_call 8; refine (hAl.out _ B1.out).mono ?_; rintro e w2 ⟨rfl, z⟩; have B2 := Lib.hid (B1.out.trans (z.mono B1.out.size)); clear z)
      | (go_at_call 7; refine hfar.out.mono ?_; rintro e w1 ⟨rfl, z⟩; have B1 := Lib.hid z; clear z))
    go_ret
    exact ⟨rfl, B2.out⟩
  | false =>
    rw [hfc] at hfar
    obtain ⟨hn, hk⟩ := far_c hfc
    have hso : Hid (∀ X, Below w.heap.size w X → Calls Tryz.prog 9 #[.slice a n c] X fun e w1 => ∃ a1 m c1 l0, e = .returned (.slice a1 m c1) ∧ Prs w1 a1 m c1 l0 ∧ PSrt l0 ∧ m ≤ 60 ∧ (∀ x ∈ l0, x.1.length ≤ 300) ∧ Below X.heap.size X w1) := fun X hX => by
      refine (ref_sort X a n c l (h.below hX) (by omega)).mono ?_
      rintro e w1 ⟨v, l0, rfl, q1, q2⟩
      obtain ⟨a1, c1, rfl, q3⟩ := q1.prs
      have hl := h.len
      have hlen := q2.len
      exact ⟨a1, l0.length, c1, l0, rfl, q3, q2.srt, by omega, q2.shortC hk, q1.below_⟩
    clear h hP hfc hn hk
    go_enter Tryz.func3, Tryz.ntmps3
    go_wp2_with (first
      | (have g0 := hPt; go_at_call 13; refine (ref_points (hprs.out.below (B26.out)) (by have := hl0.out; omega)).mono ?_; rintro e w7 ⟨v7, R, wS, rfl, r1, r2, r3, r4, r5, r6⟩
         have hcd := hboth.out R r3 r4 r5
         have B67 := Lib.hid (r1.trans (r2.below_.mono r1.size))
         have hRN : R.length = (tv ptT t []).length := by rw [← hcd]; unfold codes; rw [List.length_map]
         obtain ⟨es7, bo7, ho7, he7, _, hb7⟩ := r2
         rw [hcd] at he7
         rw [hRN] at ho7 r6
         obtain ⟨a7, c7, hv7, _⟩ := ho7.len
         subst hv7
         have hOw := Lib.hid ho7
         have hEn := Lib.hid (he7.below hb7)
         have hRl := Lib.hid r6
         clear r1 r3 r4 r5 r6 hcd hRN ho7 he7 hb7)
      | (have g0 := hQ; go_at_call 12; refine (pts_any hQ.out hTV.out hTO.out (by have := hTb.out; omega) (by have := hTb.out; rw [pt_len]; omega)).mono ?_; rintro e w6 ⟨a6, c6, rfl, q1, q2⟩
         have hPt := Lib.hid q1
         have B6 := Lib.hid (B5.out.trans (q2.mono B5.out.size))
         have B26 := Lib.hid (B25.out.trans (q2.mono B25.out.size))
         clear q1 q2)
      | (have g0 := hBd; go_at_call 10; refine hBd.out.mono ?_; rintro e w5 ⟨t, v5, Q, rfl, q1, q2, q3, q4, q5⟩
         have B25 := Lib.hid (B23.out.trans (q1.below_.mono B23.out.size))
         have B5 := Lib.hid (B2.out.trans (B25.out.mono B2.out.size))
         have hQ := Lib.hid (q1.below (Below.refl _ _))
         have hTV := Lib.hid q2
         have hTO := Lib.hid q3
         have hTb : Hid (tway t ≤ 300 ∧ inn t ≤ 60) := ⟨way_key t 300 q3 q4 (by rw [q5]; exact hkey.out), by
           rcases treeV_nz q2 with e | e
           · rw [e]; exact Nat.zero_le _
           · have := ((can_bnd t q3 q4).1 e).1; rw [q5] at this; have := hl0.out; omega⟩
         have hboth : Hid (∀ R : List PT, (R.map (fun y => y.1)).Pairwise slt → (∀ x, x ∈ R.map (fun y => y.1) ↔ ∃ i' j', j' < i' ∧ i' < l0.length ∧ x = cpre (l0.getD i' ([], 0)).1 (l0.getD j' ([], 0)).1) → (∀ y ∈ R, FanIs l0 y.1 y.2.1 y.2.2) → codes R = tv ptT t []) := fun R r1 r2 r3 => pts_both (treeV_nz q2) q3 q4 q5 hsrt.out r1 r2 r3
         clear q1 q2 q3 q4 q5 hBd)
      | (have g0 := B2; go_at_call 11; refine hPr.out.mono ?_; rintro e w3 ⟨v3, rfl, q⟩; obtain ⟨a3, c3, rfl, hp3⟩ := q.prs (Below.refl _ _)
         have B23 := Lib.hid q.below_
         have hBd := Lib.hid (canon_build 1 (by omega) w3 a3 l0.length c3 l0 hp3 hsrt.out (fun x hx => by have := hkey.out x hx; omega))
         clear hp3 q)
      | (have g0 := B1; go_at_call 9; refine (hso.out _ B1.out).mono ?_; rintro e w2 ⟨a2, m, c2, l0, rfl, q1, q2, q3, q4, q5⟩
         have B2 := Lib.hid (B1.out.trans (q5.mono B1.out.size))
         have hprs := Lib.hid q1
         have hsrt := Lib.hid q2
         have hkey := Lib.hid q4
         have hl0 : Hid (l0.length = m ∧ m ≤ 60) := ⟨q1.len, q3⟩
         have hPr := Lib.hid (law_pairs w2 w2 (Below.refl _ _) a2 m c2 l0 q1 (by omega))
         clear q1 q2 q3 q4 q5)
      | (go_at_call 7; refine hfar.out.mono ?_; rintro e w1 ⟨rfl, z⟩; have B1 := Lib.hid z; clear z))
    have hT6 := hPt.out
    obtain ⟨T, hT⟩ : ∃ T, T = tv ptT t [] := ⟨_, rfl⟩
    rw [← hT] at hOw hEn hRl hT6 ⊢
    obtain ⟨N0, hN0⟩ : ∃ N0, N0 = T.length := ⟨_, rfl⟩
    rw [← hN0] at hOw hRl hT6 ⊢
    obtain ⟨es6, bo6, ho6, he6, hl6⟩ := hT6
    have hTl := Lib.hid hl6
    have hOw6 := Lib.hid (ho6.below B67.out)
    have hEn6 := Lib.hid (he6.below B67.out)
    have hN9 : N0 ≤ 100000 := hRl.out
    have hB7 := Lib.hid (B6.out.trans (B67.out.mono B6.out.size))
    clear ho6 he6 hl6 hT hN0 hPt hboth hTb hTO hTV hQ B67 B6 B26 B25 B5 B23 B2 hprs hsrt hkey hl0 hPr hso hRl hfar B1
    go_wp2_with fail
    go_loopw [30] (fun v30 wr => ∃ i : Nat, v30 = .int .i64 (i : Nat) ∧ i ≤ N0 ∧ Hid (∃ k, wr = w7.drewN k)) (fun v30 _ => (N0 - intOf v30).toNat)
    case atStart => exact ⟨0, rfl, by omega, 0, rfl⟩
    case round =>
      obtain ⟨i, rfl, hi, hw⟩ := hrel
      by_cases hlt : i < N0
      · have l1 : (i : Int) < (N0 : Int) := by omega
        have l0' : (0 : Int) ≤ (i : Int) := by omega
        have hw9 : IntKind.i64.wrap (((i : Nat) : Int) + 1) = ((i + 1 : Nat) : Int) := by rw [show ((i : Nat) : Int) + 1 = ((i + 1 : Nat) : Int) by omega]; exact IntWalk.i64_in _ (by omega)
        obtain ⟨g, x3, n3, c3', rfl, y1, y2, y3, y4⟩ := pts_row hOw6.out hEn6.out hTl.out hlt
        obtain ⟨g', x3', n3', c3'', rfl, z1, z2, z3, z4⟩ := pts_row hOw.out hEn.out hTl.out hlt
        have hwB : Hid (Below w7.heap.size w7 wr) := by obtain ⟨k, rfl⟩ := hw.out; exact below_drewN (Below.refl _ _) k
        have hcell : ∀ p v, w7.cell? p = some v → wr.cell? p = some v := fun p v e => (hwB.out.cell (cell_lt e)).trans e
        have y1 := hcell _ _ y1
        have y2 := hcell _ _ y2
        have y3 := hcell _ _ y3
        have z1 := hcell _ _ z1
        have z2 := hcell _ _ z2
        have z3 := hcell _ _ z3
        have hSm : Hid (∀ k, Calls Tryz.prog 14 #[.slice x3 n3 c3', .slice x3' n3' c3''] (wr.drewN k) fun e w' => e = .returned (.bool true) ∧ ∃ p, w' = (wr.drewN k).drewN p) := fun k => by
          have := quiet_same (y4.below hwB.out) (z4.below hwB.out) k
          rwa [decide_eq_true rfl] at this
        generalize (T.getD i ([], 0)).2 / 2 = kd at *
        generalize decide ((T.getD i ([], 0)).2 % 2 = 1) = hb at *
        clear y4 z4 hcell
        go_wp2_with fail
        go_quiet ((go_at_call 14; exact Calls.quiet_of (hSm.out _)))
        go_wp2_with fail
        go_roundw
        case rel => exact ⟨i + 1, (by first | rfl | go_num), by omega, by obtain ⟨k, rfl⟩ := hw.out; exact ⟨k + nq, by simp⟩⟩
        case measure => (simp [intOf]) <;> omega
      · have l1 : ¬ (i : Int) < (N0 : Int) := by omega
        have hwB : Hid (Below w.heap.size w wr) := by obtain ⟨k, rfl⟩ := hw.out; exact below_drewN hB7.out k
        go_wp2_with (go_at_call 8; refine (hAl.out _ hwB.out).mono ?_; rintro e w9 ⟨rfl, z⟩; have B9 := Lib.hid (hwB.out.trans (z.mono hwB.out.size)); clear z)
        go_ret
        exact ⟨rfl, B9.out⟩
end Go.Proofs.YtfhdiimcimafkaaGreatDoor
