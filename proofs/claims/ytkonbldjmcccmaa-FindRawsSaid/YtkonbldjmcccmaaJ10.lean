/- The way to a node: bytes that are put behind one another, in a row that is shared; A tree's bytes. No program; What a tree's node answers in every later world; its head; Any canonical tree's node laid; canon.each: what a callback holds, while a tree is gone through; canon.each, walked, for each of its callbacks; canon.each at any tree, for each of its callbacks; canon.List and canon.Count. -/
import Derived.Test.YtkonbldjmcccmaaJ9
import Derived.Test.YtkonbldjmcccmaaJ6
set_option linter.unusedVariables false
set_option linter.unusedSimpArgs false
/- The way to a node: bytes that are put behind one another, in a row that is shared. -/
namespace Go.Proofs.Ytkonbldjmcccmaa
open Go.RowKit
theorem bV_app' (a b : List Nat) : bV (a ++ b) = bV a ++ bV b := by simp [bV]
/-- a way: its bytes, its row, and how many the row holds -/
def WayAt (w : World) (v : Value) (k : List Nat) (bo : Option Nat) (cap : Nat) : Prop :=
  (v = .slice none 0 0 ∧ k = [] ∧ bo = none ∧ cap = 0) ∨
  (∃ g cur, bo = some g ∧ v = .slice (some ⟨g, 0, none⟩) k.length cap ∧ w.heap[g]? = some (.cells cur u8T (0, 0)) ∧ k.length ≤ cap ∧ cap ≤ maxLen ∧ cur.size = cap ∧ cur.toList.take k.length = bV k)
section
variable {w w' : World} {v v' : Value} {k k' : List Nat} {bo bo' : Option Nat} {cap cap' : Nat}
theorem WayAt.nil (w : World) : WayAt w (.slice none 0 0) [] none 0 := Or.inl ⟨rfl, rfl, rfl, rfl⟩
theorem WayAt.own (h : WayAt w v k bo cap) : OwnS 1 u8T w v k.length (bV k) bo := by
  rcases h with ⟨rfl, rfl, rfl, rfl⟩ | ⟨g, cur, rfl, rfl, h1, h2, h3, h4, h5⟩
  · exact OwnS.nil _ _ _
  · exact Or.inr ⟨g, cap, cur, rfl, rfl, h1, h2, h3, by omega, by rw [Nat.mul_one]; exact h5, by simp [bV]⟩
theorem WayAt.len (h : WayAt w v k bo cap) : ∃ a, v = .slice a k.length cap := by
  rcases h with ⟨rfl, rfl, rfl, rfl⟩ | ⟨g, cur, rfl, rfl, _⟩
  · exact ⟨_, rfl⟩
  · exact ⟨_, rfl⟩
theorem WayAt.lt (h : WayAt w v k bo cap) {g : Nat} (e : bo = some g) : g < w.heap.size := by
  rcases h with ⟨_, _, rfl, _⟩ | ⟨g', cur, rfl, _, h1, _⟩
  · cases e
  · cases e; exact (Array.getElem?_eq_some_iff.1 h1).1
theorem WayAt.keep (h : WayAt w v k bo cap) (hk : ∀ g, bo = some g → w'.heap[g]? = w.heap[g]?) : WayAt w' v k bo cap := by
  rcases h with h | ⟨g, cur, rfl, hv, h1, r⟩
  · exact Or.inl h
  · exact Or.inr ⟨g, cur, rfl, hv, (hk g rfl).trans h1, r⟩
theorem WayAt.below (h : WayAt w v k bo cap) (hb : Below w.heap.size w w') : WayAt w' v k bo cap := h.keep fun g e => hb.block g (h.lt e)
theorem WayAt.mod {S : Nat → Prop} (h : WayAt w v k bo cap) (hm : Mod S w w') (hS : ∀ g, bo = some g → ¬ S g) : WayAt w' v k bo cap := h.keep fun g e => hm.same g (h.lt e) (hS g e)
theorem WayAt.sl (h : WayAt w v k bo cap) (h8 : ∀ x ∈ k, x < 256) : ∃ a, v = .slice a k.length cap ∧ Sl w a k.length cap k := by
  obtain ⟨a, c, e, hs⟩ := sl_of_own h.own h8
  obtain ⟨a', e'⟩ := h.len
  rw [e'] at e
  injection e with e1 e2 e3
  subst e1; subst e3
  exact ⟨_, e', hs⟩
/-- how a longer way stands to the one that it goes on from -/
def Goes (w : World) (bo bo' : Option Nat) (cap cap' : Nat) : Prop := (bo' = bo ∧ cap' = cap ∧ bo ≠ none) ∨ bo' = none ∨ ∃ g, bo' = some g ∧ w.heap.size ≤ g
/-- the shorter way is still there while the longer one is, and what is no row of the longer one stays -/
theorem WayAt.back {x : List Nat} {v2 : Value} {bo2 : Option Nat} {cap2 : Nat} {w2 : World} {F : Nat → Prop} (h : WayAt w v k bo cap) (hg : Goes w bo bo2 cap cap2) (h2 : WayAt w2 v2 (k ++ x) bo2 cap2) (hm : Mod (fun j => bo2 = some j ∨ F j) w w2) (hF : ∀ g, bo = some g → ¬ F g) : WayAt w2 v k bo cap := by
  rcases hg with ⟨rfl, rfl, hne⟩ | hn
  · rcases h with ⟨_, _, e, _⟩ | ⟨g, cur, rfl, hv, h1, h3, h4, h5, h6⟩
    · exact absurd e hne
    · rcases h2 with ⟨_, _, e, _⟩ | ⟨g', cur', e, _, q1, q2, q3, q4, q5⟩
      · cases e
      · cases e
        refine Or.inr ⟨g, cur', rfl, hv, q1, h3, h4, q4, ?_⟩
        have := congrArg (List.take k.length) q5
        rw [List.take_take, List.length_append, Nat.min_eq_left (by omega)] at this
        rw [this]
        simp [bV]
  · refine h.mod hm fun g e q => ?_
    have hl := h.lt e
    rcases q with q | q
    · rcases hn with hn | ⟨g', hn, hg'⟩
      · rw [hn] at q; cases q
      · rw [hn] at q; cases q; omega
    · exact hF g e q
end
/-- append to a way -/
theorem run_append_way {P : Program} (w : World) (t ty : TypeId) (i : TypeInfo) (ht : P.underlying t = some (.slice u8T)) (hi : P.info? u8T = some i) (hz : i.zero = some (.int .u8 0)) (hsize : i.size = 1) (hby : i.bytes = 1)
    {v : Value} {k : List Nat} {bo : Option Nat} {cap : Nat} (h : WayAt w v k bo cap) (a : Addr) (c : Nat) (news : List Nat) (hnews : ∀ j u, (bV news)[j]? = some u → w.cell? (a.add j) = some u) (hk : k.length ≤ 1000000) (hn : news.length ≤ 1000000) :
    ∃ v' w' bo' cap', (Builtin.append_ #[t, t] ty #[v, .slice (some a) news.length c]).run P w = .ok v' w' ∧ WayAt w' v' (k ++ news) bo' cap' ∧ Goes w bo bo' cap cap' ∧ Mod (fun j => bo = some j) w w' ∧ WayAt w' v k bo cap := by
  have hl : (bV news).length = news.length := by simp [bV]
  have hone := bV_one news
  have fresh : ∀ v' w', w'.ownsRow w.heap.size u8T 1 v' (k.length + news.length) (bV k ++ bV news) → ∃ bo' cap', WayAt w' v' (k ++ news) bo' cap' ∧ (bo' = none ∨ ∃ g, bo' = some g ∧ w.heap.size ≤ g) := by
    intro v' w' ho
    have hlen : (bV k ++ bV news).length = k.length + news.length := by simp [bV]
    rcases ho.2 with ⟨rfl, h0⟩ | ⟨g, cap', cur, rfl, hb, hg, h2, h3, h4, h5⟩
    · have hk0 : k = [] := List.eq_nil_of_length_eq_zero (by omega)
      have hn0 : news = [] := List.eq_nil_of_length_eq_zero (by omega)
      subst hk0; subst hn0
      exact ⟨none, 0, Or.inl ⟨rfl, rfl, rfl, rfl⟩, Or.inl rfl⟩
    · refine ⟨some g, cap', Or.inr ⟨g, cur, rfl, by rw [List.length_append], hg, by rw [List.length_append]; exact h2, h3, by omega, ?_⟩, Or.inr ⟨g, rfl, hb⟩⟩
      rw [List.length_append, bV_app', ← h5, Nat.mul_one]
  rcases h with ⟨rfl, rfl, rfl, rfl⟩ | ⟨g, cur, rfl, rfl, hg, hnc, hcm, hcs, htake⟩
  · obtain ⟨v', w', hr, h2, h3, _⟩ := run_append_own (P := P) w w.heap.size t ty u8T i (.int .u8 0) 1 1 ht hi hz hsize hby rfl (by omega) (.slice none 0 0) 0 [] (World.ownsRow_nil w _ u8T 1) a news.length c (bV news) (by rw [hl]; omega) hnews hone (by unfold maxLen; omega) (by omega) (Nat.le_refl _)
    obtain ⟨bo', cap', q1, q2⟩ := fresh v' w' (by simpa [bV] using h2)
    exact ⟨v', w', bo', cap', hr, q1, Or.inr q2, ⟨h3.os, h3.tape, h3.output, h3.size, fun k hk _ => h3.block k hk (by simp [Value.ownBlock])⟩, WayAt.nil _⟩
  · by_cases hroom : k.length + news.length ≤ cap
    · have hr := run_append_room (P := P) w t ty u8T i ht hi g k.length cap cur hg a news.length c (bV news) (by rw [hsize, hl]; omega) hnews hone hroom (by rw [hsize]; omega)
      obtain ⟨cur', hcur⟩ : ∃ cur' : Array Value, cur' = (cur.toList.take (k.length * i.size) ++ bV news ++ cur.toList.drop (k.length * i.size + (bV news).length)).toArray := ⟨_, rfl⟩
      rw [← hcur] at hr
      rw [hsize, Nat.mul_one] at hcur
      have hcl : cur.toList.length = cap := by simpa using hcs
      have hsz : cur'.size = cap := by rw [hcur]; simp [hl]; omega
      have hg' : (w.setRow g cur').heap[g]? = some (.cells cur' u8T (0, 0)) := setRow_heap w g cur cur' u8T (0, 0) hg
      have hM : Mod (fun j => some g = some j) w (w.setRow g cur') := (Mod.refl _ w).setRow g _ (fun _ => rfl)
      refine ⟨_, _, some g, cap, hr, Or.inr ⟨g, cur', rfl, by rw [List.length_append], hg', by rw [List.length_append]; exact hroom, hcm, hsz, ?_⟩, Or.inl ⟨rfl, rfl, by simp⟩, hM, Or.inr ⟨g, cur', rfl, rfl, hg', hnc, hcm, hsz, ?_⟩⟩
      · rw [hcur, List.length_append, bV_app']
        simp only [List.toList_toArray]
        rw [htake]
        have e : (bV k ++ bV news).length = k.length + news.length := by simp [bV]
        rw [← e]
        exact List.take_left
      · rw [hcur]
        simp only [List.toList_toArray, List.append_assoc]
        rw [htake]
        have e : (bV k).length = k.length := by simp [bV]
        conv => lhs; rw [← e]
        exact List.take_left
    · have holds : ∀ j u, (bV k)[j]? = some u → w.cell? ((⟨g, 0, none⟩ : Addr).add j) = some u := by
        intro j u hj
        have hjl : j < k.length := by
          by_cases h : j < k.length
          · exact h
          · rw [List.getElem?_eq_none (by simp [bV]; omega)] at hj; simp at hj
        rw [add0, cell_of_row w g j cur _ (0, 0) hg, ← hj, ← take_get htake hjl]
        simp
      obtain ⟨v', w', hr, h2, h3⟩ := run_append_arg_grows (P := P) w t ty u8T i (.int .u8 0) 1 1 ht hi hz hsize hby rfl (by omega) ⟨g, 0, none⟩ k.length cap (bV k) (by simp [bV]) holds a news.length c (bV news) (by rw [hl]; omega) hnews (by omega) (by unfold maxLen; omega) (by omega)
      obtain ⟨bo', cap', q1, q2⟩ := fresh v' w' h2
      have hB : Below w.heap.size w w' := ⟨h3.os, h3.tape, h3.output, h3.size, fun k hk => h3.block k hk (by simp)⟩
      exact ⟨v', w', bo', cap', hr, q1, Or.inr q2, ⟨h3.os, h3.tape, h3.output, h3.size, fun k hk _ => h3.block k hk (by simp)⟩, (show WayAt w (.slice (some ⟨g, 0, none⟩) k.length cap) k (some g) cap from Or.inr ⟨g, cur, rfl, rfl, hg, hnc, hcm, hcs, htake⟩).below hB⟩
end Go.Proofs.Ytkonbldjmcccmaa
/- A tree's bytes. No program. -/
namespace Go.Proofs.Ytkonbldjmcccmaa
/-- a node's head -/
def headN (has leaf : Bool) (m : Nat) : Nat := if leaf then 0 else (if has then 16 else 0) + (if m ≤ 4 then 1 else if m ≤ 16 then 2 else if m ≤ 48 then 3 else 4)
/-- a tree's bytes; of a row: each byte and what stands below it -/
def layT : Tr → List Nat
  | .nil => []
  | .kid b t r => b :: (layT t ++ layT r)
  | .node bs v has leaf ks => headN has leaf (chain ks).length :: (numL bs.length ++ (bs ++ ((if has then numL v.toNat else []) ++ (if leaf then [] else ((chain ks).length - 1) :: layT ks))))
theorem headN_lt (has leaf : Bool) (m : Nat) : headN has leaf m < 256 := by
  unfold headN
  cases has <;> cases leaf <;> simp <;> (repeat (split <;> try omega)) <;> omega
theorem chain_le : ∀ (r : Tr), IsK r → TOk r → ∀ b, From b r → b + (chain r).length ≤ 255 ∨ chain r = []
  | .nil, _, _, _, _ => Or.inr rfl
  | .node .., h, _, _, _ => h.elim
  | .kid c t r, _, ⟨h1, h2, h3, h4, h5, h6⟩, b, hb => by
    left
    have hb : b < c := hb
    rcases chain_le r h4 h5 c h6 with h | h
    · simp only [chain, List.length_cons]; omega
    · simp only [chain, h, List.length_cons, List.length_nil]; omega
theorem chain256 {r : Tr} (h1 : IsK r) (h2 : TOk r) : (chain r).length ≤ 256 := by
  cases r with
  | nil => simp [chain]
  | node => exact h1.elim
  | kid c t r =>
    obtain ⟨k1, k2, k3, k4, k5, k6⟩ := h2
    rcases chain_le r k4 k5 c k6 with h | h
    · simp only [chain, List.length_cons]; omega
    · simp [chain, h]
theorem layT_byte : ∀ (t : Tr), TOk t → ∀ x ∈ layT t, x < 256
  | .nil, _, x, h => by simp [layT] at h
  | .kid b t r, ⟨h1, h2, h3, h4, h5, h6⟩, x, h => by
    simp only [layT, List.mem_cons, List.mem_append] at h
    rcases h with rfl | h | h
    · exact h1
    · exact layT_byte t h3 x h
    · exact layT_byte r h5 x h
  | .node bs v has leaf ks, ⟨h1, h2, h3, h4, h5, h6, h7⟩, x, h => by
    simp only [layT, List.mem_cons, List.mem_append] at h
    rcases h with rfl | h | h | h | h
    · exact headN_lt _ _ _
    · exact numL_byte _ x h
    · exact h1 x h
    · cases has
      · simp at h
      · exact numL_byte _ x (by simpa using h)
    · cases leaf
      · simp only [Bool.false_eq_true, if_false, List.mem_cons] at h
        rcases h with rfl | h
        · have := chain256 h6 h7; omega
        · exact layT_byte ks h7 x h
      · simp at h
end Go.Proofs.Ytkonbldjmcccmaa
/- What a tree's node answers in every later world; its head. -/
namespace Go.Proofs.Ytkonbldjmcccmaa
open Go.RowKit
structure NodeW (w : World) (n : Nat) (bs : List Nat) (val : Int) (has leaf : Bool) (m : Nat) (kk : KV) : Prop where
  part : ∀ X, Below w.heap.size w X → Calls Try.prog 32 #[.pointer (some ⟨n, 0, none⟩)] X (partAt bs X)
  val : ∀ X, Below w.heap.size w X → Calls Try.prog 17 #[.pointer (some ⟨n, 0, none⟩)] X fun e w' => e = .returned (.tuple #[.int .u64 val, .bool has]) ∧ X = w'
  kind : ∀ X, Below w.heap.size w X → Calls Try.prog 29 #[.pointer (some ⟨n, 0, none⟩)] X fun e w' => e = .returned (.int .i64 ((if leaf then 1 else kindOf m : Nat) : Int)) ∧ X = w'
  len : ∀ X, Below w.heap.size w X → Calls Try.prog 30 #[.pointer (some ⟨n, 0, none⟩)] X fun e w' => e = .returned (.int .i64 (m : Nat)) ∧ X = w'
  next : ∀ X f, Below w.heap.size w X → (0 : Int) ≤ f → f ≤ 256 → Calls Try.prog 18 #[.pointer (some ⟨n, 0, none⟩), .int .i64 f] X fun e w' => e = .returned (stepV (knxt kk f)) ∧ Below X.heap.size X w'
  prev : ∀ X f, Below w.heap.size w X → (-1 : Int) ≤ f → f ≤ 256 → Calls Try.prog 19 #[.pointer (some ⟨n, 0, none⟩), .int .i64 f] X fun e w' => e = .returned (stepV (kprv kk f)) ∧ Below X.heap.size X w'
  kid : ∀ X b, Below w.heap.size w X → b < 256 → Calls Try.prog 20 #[.pointer (some ⟨n, 0, none⟩), .int .u8 (b : Nat)] X fun e w' => e = .returned ((kget kk b).getD (.pointer none)) ∧ Below X.heap.size X w'
theorem NodeW.below {w w' : World} {n : Nat} {bs : List Nat} {val : Int} {has leaf : Bool} {m : Nat} {kk : KV} (h : NodeW w n bs val has leaf m kk) (hb : Below w.heap.size w w') : NodeW w' n bs val has leaf m kk where
  part := fun X q => h.part X (hb.trans (q.mono hb.size))
  val := fun X q => h.val X (hb.trans (q.mono hb.size))
  kind := fun X q => h.kind X (hb.trans (q.mono hb.size))
  len := fun X q => h.len X (hb.trans (q.mono hb.size))
  next := fun X f q => h.next X f (hb.trans (q.mono hb.size))
  prev := fun X f q => h.prev X f (hb.trans (q.mono hb.size))
  kid := fun X b q => h.kid X b (hb.trans (q.mono hb.size))
theorem nodew_of {w0 w : World} {Q : List NP} {bs : List Nat} {val : Int} {has leaf : Bool} {ks : Tr} {v : Option Addr} (hQ : StoreP NoB w0 w Q) (hT : TreeIn Q 0 (.node bs val has leaf ks) (.pointer v) []) (hO : TOk (.node bs val has leaf ks)) :
    ∃ n kk, v = some ⟨n, 0, none⟩ ∧ NodeW w n bs val has leaf (chain ks).length kk ∧ Kids Q kk ks ks [] kk ∧ knxt kk 0 = kk.head? ∧ (leaf = true → kk = []) := by
  obtain ⟨i, p, _, h1, h2, h3, h4, h5, h6, h7⟩ := hT
  obtain rfl : v = some ⟨p.n, 0, none⟩ := by simpa using h2
  obtain ⟨o1, o2, o3, o4, o5, o6, o7⟩ := hO
  have hlen : (p.kk.getD []).length = (chain ks).length := by
    have e := ofL_chain ks o6 o7
    have := TreeIn.keys (L := chain ks) (by rw [e]; exact h7)
    have := congrArg List.length this
    simpa using this
  obtain ⟨k1, k2⟩ := kids_start h7 rfl o6 o7
  have hleaf : leaf = true → p.kk.getD [] = [] := fun e => by
    subst e
    cases hk : p.kk with
    | none => rfl
    | some l => rw [hk] at h6; cases h6
  refine ⟨p.n, p.kk.getD [], rfl, ⟨fun X hb => ?_, fun X hb => ?_, fun X hb => ?_, fun X hb => ?_, fun X f hb f0 f1 => ?_, fun X f hb f0 f1 => ?_, fun X b hb b1 => ?_⟩, k1, k2, hleaf⟩
  all_goals obtain ⟨pv, bo, kp, Sk, hd⟩ := (hQ.below hb).is h1
  all_goals have hf := (hQ.below hb).fit h1
  · have := nd_part_at hd hf.1 hf.2; rw [h3] at this; exact this
  · have := nd_val hd; rw [h4, h5] at this
    cases has
    · rw [o4 rfl]; exact this
    · exact this
  · have := nd_kind hd
    cases hk : p.kk with
    | none => rw [hk] at this h6; subst h6; exact this
    | some l => rw [hk] at this h6 hlen; subst h6; rw [← hlen]; exact this
  · have := nd_len hd; unfold klen at this; rw [hlen] at this; exact this
  · exact (nd_next hd f (by omega) (by omega)).mono fun e w' ⟨e1, n, e2⟩ => ⟨e1, by rw [e2]; exact below_drewN (Below.refl _ _) n⟩
  · exact (nd_prev hd f (by omega) (by omega)).mono fun e w' ⟨e1, n, e2⟩ => ⟨e1, by rw [e2]; exact below_drewN (Below.refl _ _) n⟩
  · exact (nd_kid hd b b1).mono fun e w' ⟨e1, n, e2⟩ => ⟨e1, by rw [e2]; exact below_drewN (Below.refl _ _) n⟩
theorem kids_rest {Q : List NP} {kk : KV} {ks r : Tr} {A lr : KV} {b : Nat} {x : Value} (hnext : Kids Q kk ks r (A ++ [(b, x)]) lr) : ∀ p ∈ lr, b < p.1 ∧ p.1 < 256 := fun q hq => by
  have h1 := hnext.lt (b, x) (by simp) q hq
  refine ⟨h1, ?_⟩
  have := row_from (b := 0) hnext.tree hnext.isK hnext.ok
  cases hr : r with
  | nil => have e : lr = [] := by have := hnext.tree; rw [hr] at this; exact this
           rw [e] at hq; simp at hq
  | node => have := hnext.isK; rw [hr] at this; exact this.elim
  | kid c t2 r2 =>
    by_cases hc : 0 < c
    · exact (this (by rw [hr]; exact hc) q hq).2
    · have ht := hnext.tree
      have ho := hnext.ok
      rw [hr] at ht ho
      obtain ⟨x2, l2, e2, _, h3⟩ := ht
      rw [e2] at hq
      rcases List.mem_cons.1 hq with rfl | hq
      · exact ho.1
      · exact (row_from h3 ho.2.2.2.1 ho.2.2.2.2.1 ho.2.2.2.2.2 q hq).2
theorem kindOf_cases (m : Nat) : kindOf m = 4 ∨ kindOf m = 16 ∨ kindOf m = 48 ∨ kindOf m = 256 := by
  unfold kindOf
  split
  · simp
  · split
    · simp
    · split <;> simp
theorem headN_kind (has : Bool) (m : Nat) : headN has false m = (if has then 16 else 0) + (if kindOf m = 4 then 1 else if kindOf m = 16 then 2 else if kindOf m = 48 then 3 else 4) := by
  unfold headN kindOf
  by_cases h1 : m ≤ 4
  · simp [h1]
  · by_cases h2 : m ≤ 16
    · simp [h1, h2]
    · by_cases h3 : m ≤ 48
      · simp [h1, h2, h3]
      · simp [h1, h2, h3]
set_option maxHeartbeats 1000000 in
theorem head_any {w X : World} {n : Nat} {bs : List Nat} {val : Int} {has leaf : Bool} {m : Nat} {kk : KV} (h : NodeW w n bs val has leaf m kk) (hb : Below w.heap.size w X) : Calls Try.prog 177 #[.pointer (some ⟨n, 0, none⟩)] X fun e w' => e = .returned (.int .u8 (headN has leaf m : Nat)) ∧ X = w' := by
  have hV := Lib.hid (h.val X hb)
  have hK := h.kind X hb
  clear h hb
  cases leaf with
  | true =>
    have hK := Lib.hid hK
    cases has
    all_goals go_enter Try.func177, Try.ntmps177
    all_goals go_wp2_with (first
      | (go_at_call 17; refine hV.out.mono ?_; rintro e w' ⟨rfl, rfl⟩)
      | (go_at_call 29; refine hK.out.mono ?_; rintro e w' ⟨rfl, rfl⟩))
    all_goals go_ret
    all_goals exact ⟨rfl, rfl⟩
  | false =>
    rw [headN_kind]
    rw [if_neg (by simp : ¬ (false = true))] at hK
    rcases kindOf_cases m with e | e | e | e
    all_goals rw [e] at hK ⊢
    all_goals clear e
    all_goals have hK := Lib.hid hK
    all_goals cases has
    all_goals go_enter Try.func177, Try.ntmps177
    all_goals go_wp2_with (first
      | (go_at_call 17; refine hV.out.mono ?_; rintro e w' ⟨rfl, rfl⟩)
      | (go_at_call 29; refine hK.out.mono ?_; rintro e w' ⟨rfl, rfl⟩))
    all_goals go_ret
    all_goals exact ⟨rfl, rfl⟩
end Go.Proofs.Ytkonbldjmcccmaa
/- Any canonical tree's node laid. -/
namespace Go.Proofs.Ytkonbldjmcccmaa
open Go.RowKit
/-- bytes that are under way -/
structure LayI (bo0 : Option Nat) (X : World) (zs : List Nat) (v : Value) (M : Nat) (bo : Option Nat) (wr : World) : Prop where
  own : OwnS 1 u8T wr v M (bV zs) bo
  len : M = zs.length
  mod : Mod (fun j => bo0 = some j) X wr
  new : NewOr X bo0 bo
theorem own_m {w : World} {v : Value} {M : Nat} {zs : List Nat} {bo : Option Nat} (h : OwnS 1 u8T w v M (bV zs) bo) : M = zs.length := by
  have e : (bV zs).length = zs.length := by simp [bV]
  rcases h with ⟨_, h0, h1, _⟩ | ⟨g, cap, cur, _, _, _, _, _, _, _, h1⟩
  · rw [h0, ← e, h1]; rfl
  · omega
theorem newOr_lo {X : World} {bo bo' : Option Nat} {lo : Nat} (n : NewOr X bo bo') (hb : ∀ g, bo = some g → lo ≤ g) (hs : lo ≤ X.heap.size) : ∀ g, bo' = some g → lo ≤ g := fun g e => by
  rcases n with e2 | ⟨g', e2, hg⟩
  · rw [e2] at e; exact hb g e
  · rw [e2] at e; cases e; omega
section
variable {bo0 bo bo' : Option Nat} {X wr X2 w5 : World} {zs ys : List Nat} {v v' : Value} {M m : Nat}
theorem LayI.start (h : OwnS 1 u8T X v zs.length (bV zs) bo) : LayI bo X zs v zs.length bo X := ⟨h, rfl, Mod.refl _ _, Or.inl rfl⟩
theorem LayI.app (h : LayI bo0 X zs v M bo wr) (hb : Below wr.heap.size wr X2) (hO : OwnS 1 u8T w5 v' (M + m) (bV zs ++ bV ys) bo') (hM : Mod (fun j => bo = some j) X2 w5) (hN : NewOr X2 bo bo') : LayI bo0 X (zs ++ ys) v' (M + m) bo' w5 := by
  obtain ⟨q1, q2⟩ := mod_step h.mod h.new hb hM hN
  rw [← bV_app] at hO
  exact ⟨hO, own_m hO, q1, q2⟩
theorem LayI.put (h : LayI bo0 X zs v M bo wr) (hb : Below wr.heap.size wr X2) {n : Nat} {e : Ending} (q : numPost bo X2 zs n e w5) : ∃ v' M' bo', e = .returned v' ∧ LayI bo0 X (zs ++ numL n) v' M' bo' w5 := by
  obtain ⟨v', M', bo', rfl, e1, o, hM, hN⟩ := q
  obtain ⟨q1, q2⟩ := mod_step h.mod h.new hb hM hN
  exact ⟨v', M', bo', rfl, o, own_m o, q1, q2⟩
theorem LayI.lay (h : LayI bo0 X zs v M bo wr) (hb : Below wr.heap.size wr X2) {e : Ending} (q : layPost bo X2 (zs ++ ys) e w5) : ∃ v' M' bo', e = .returned v' ∧ LayI bo0 X (zs ++ ys) v' M' bo' w5 := by
  obtain ⟨v', M', bo', rfl, o, hM, hN⟩ := q
  obtain ⟨q1, q2⟩ := mod_step h.mod h.new hb hM hN
  exact ⟨v', M', bo', rfl, o, own_m o, q1, q2⟩
theorem LayI.below (h : LayI bo0 X zs v M bo wr) (hb : Below wr.heap.size wr X2) : LayI bo0 X zs v M bo X2 :=
  ⟨h.own.below hb, h.len, ⟨hb.os.trans h.mod.os, hb.tape.trans h.mod.tape, hb.output.trans h.mod.output, Nat.le_trans h.mod.size hb.size, fun j hj hne => by rw [hb.block j (Nat.lt_of_lt_of_le hj h.mod.size)]; exact h.mod.same j hj hne⟩, h.new⟩
theorem LayI.len' (h : LayI bo0 X zs v M bo wr) : OwnS 1 u8T wr v zs.length (bV zs) bo := by rw [← h.len]; exact h.own
theorem LayI.lo (h : LayI bo0 X zs v M bo wr) {w : World} (hb : Below w.heap.size w X) (hbo : ∀ g, bo0 = some g → w.heap.size ≤ g) : Below w.heap.size w wr ∧ ∀ g, bo = some g → w.heap.size ≤ g :=
  ⟨hb.trans (mod_lo h.mod hbo hb.size), newOr_lo h.new hbo hb.size⟩
theorem LayI.done (h : LayI bo0 X zs v M bo wr) : layPost bo0 X zs (.returned v) wr := ⟨v, M, bo, rfl, h.own, h.mod, h.new⟩
end
def LayAsk (N : Nat) : Prop := ∀ (t : Tr) {w0 w X : World} {Q : List NP} {v : Option Addr}, tdep t ≤ N → StoreP NoB w0 w Q → TreeIn Q 0 t (.pointer v) [] → IsN t → TOk t → Can t → Below w.heap.size w X → ∀ {s : Value} {xs : List Nat} {bo : Option Nat}, OwnS 1 u8T X s xs.length (bV xs) bo → (∀ g, bo = some g → w.heap.size ≤ g) → xs.length + (layT t).length ≤ 800000 → Calls Try.prog 126 #[s, .pointer v] X (layPost bo X (xs ++ layT t))
set_option maxHeartbeats 4000000 in
set_option maxRecDepth 100000 in
theorem lay_leafy (N : Nat) (IH : LayAsk N) {w0 w X : World} {Q : List NP} (hQ : StoreP NoB w0 w Q) {n : Nat} {bs : List Nat} {y m : Nat} {kk : KV} {ks : Tr} (h : NodeW w n bs (y : Nat) true true m kk) (hKs : Kids Q kk ks ks [] kk) (hk0 : knxt kk 0 = kk.head?) (hdp : tdep ks ≤ N) (hcn : Can ks) (hm1 : true = false → 1 ≤ m) (hm2 : m ≤ 256) (hb : Below w.heap.size w X) (hy : y < 18446744073709551616) {v : Value} {xs : List Nat} {bo : Option Nat} (hO : OwnS 1 u8T X v xs.length (bV xs) bo) (hbo : ∀ g, bo = some g → w.heap.size ≤ g) {T : List Nat}
    (hT : T = xs ++ [headN true true m] ++ numL bs.length ++ bs ++ (if true then numL y else []) ++ (if true then [] else (m - 1) :: layT ks)) (htot : T.length ≤ 800000) :
    Calls Try.prog 126 #[v, .pointer (some ⟨n, 0, none⟩)] X (layPost bo X T) := by
  have hPart := Lib.hid (h.part X hb)
  have hH := Lib.hid (fun X hb => head_any (X := X) h hb)
  have hVl := Lib.hid h.val
  have hKd := Lib.hid h.kind
  have hLn := Lib.hid h.len
  have hNx := Lib.hid h.next
  have hI0 := Lib.hid (LayI.start hO)
  have Hb := Lib.hid hb
  have Hbo := Lib.hid hbo
  have HQ := Lib.hid hQ
  have hlt : Hid (∀ g, bo = some g → g < X.heap.size) := fun g e => by rw [e] at hO; exact hO.lt
  have htl : Hid (xs.length + 1 + (numL bs.length).length + bs.length + (if true then numL y else []).length + (if true then [] else (m - 1) :: layT ks).length ≤ 800000) := by
    have := congrArg List.length hT
    simp only [List.length_append, List.length_cons, List.length_nil] at this
    show _ ≤ _
    (try simp only [List.length_append, List.length_cons, List.length_nil])
    omega
  obtain ⟨hd, hhd⟩ : ∃ hd, hd = headN true true m := ⟨_, rfl⟩
  rw [← hhd] at hT hH
  have hone : Hid (∀ b : Nat, ∀ u ∈ (bV [b]), u.oneCell' = true) := fun b => bV_one [b]
  have hxl : Hid (xs.length ≤ 1000000) := by show _ ≤ _; have := htl.out; omega
  have h1m : Hid (1 ≤ 1000000) := by show _ ≤ _; omega
  have hlm : Hid (bs.length ≤ 1000000) := by show _ ≤ _; have := htl.out; omega
  have hbone := Lib.hid (bV_one bs)
  have hbl : Hid ((bV bs).length = bs.length) := by show _ = _; simp [bV]
  have hw : IntKind.u64.wrap ((bs.length : Nat) : Int) = (bs.length : Nat) := wrap_u64 (by have := htl.out; omega)
  have hT2 : Hid (xs ++ [hd] ++ numL bs.length ++ bs ++ numL y = T) := by show _ = _; rw [hT]; simp
  clear h hb hO hbo hT hhd hQ htot hm1
  go_enter Try.func126, Try.ntmps126
  go_wp2_with (first
    | (go_at_call 124; have hg := hNum2; refine hNum2.out.mono ?_; rintro e w5 q
       obtain ⟨v5, M5, bo5, rfl, i5⟩ := I4.out.put (Below.refl _ _) q
       have I5 := Lib.hid i5
       have B5 := Lib.hid (i5.lo Hb.out Hbo.out).1
       obtain ⟨a5, c5, hv5, _⟩ := i5.own.len
       subst hv5
       clear q i5)
    | (at_builtin; have hg := hnews3; go_loud (refine append_b1 rfl (.tmp 20) (.tmp 21) rfl _ rfl M3 _ bo3 I3.out.own ⟨X.heap.size, 0, none⟩ bs.length bs.length (bV bs) rfl hbl.out hnews3.out hbone.out hM3.out hlm.out ?_); intro v4 w4 bo4 HO HM HN
       have i4 := I3.out.app (Below.refl _ w3) HO.out HM.out HN.out
       obtain ⟨a4, c4, hv4, _⟩ := i4.own.len
       subst hv4
       have I4 := Lib.hid i4
       have B4 := Lib.hid (i4.lo Hb.out Hbo.out).1
       have hVal := Lib.hid (hVl.out w4 B4.out)
       have hNum2 := Lib.hid (ser_num i4.len' (by have := htl.out; simp only [List.length_append, List.length_cons, List.length_nil] at *; omega) y hy)
       clear HO HM HN i4)
    | (at_builtin; go_loud (refine append_b1 rfl (.tmp 12) (.tmp 15) rfl v rfl xs.length (bV xs) bo hob1.out ⟨w1.heap.size, 0, none⟩ 1 1 (bV [hd]) rfl rfl hnews1.out (hone.out _) hxl.out h1m.out ?_); intro v2 w2 bo2 HO HM HN
       have i2 := hI0.out.app A1.out HO.out HM.out HN.out
       have I2 := Lib.hid i2
       have S2 := Lib.hid (sl_mod SA.out HM.out (fun p e q => by cases e; exact absurd (hlt.out _ q) (Nat.lt_irrefl _)))
       have hne2 : Hid (bo2 ≠ some X.heap.size) := newOr_lt HN.out hlt.out SA1.out
       have hNum := Lib.hid (ser_num i2.len' (by have := htl.out; simp only [List.length_append, List.length_cons, List.length_nil] at *; omega) bs.length (by have := htl.out; omega))
       obtain ⟨a2, c2, hv2, _⟩ := HO.out.len
       subst hv2
       clear HO HM HN i2)
    | (go_at_call 124; refine hNum.out.mono ?_; rintro e w3 q
       have q2 := q
       obtain ⟨v3, M3, bo3, rfl, i3⟩ := I2.out.put (Below.refl _ _) q
       obtain ⟨_, _, _, e3, _, o3, m3, _⟩ := q2
       have S3 := sl_mod S2.out m3 (fun p e q => by cases e; exact hne2.out q)
       have hnews3 := Lib.hid (sl_news S3 (Below.refl _ w3))
       have I3 := Lib.hid i3
       have hM3 : Hid (M3 ≤ 1000000) := (by show _ ≤ _; have := i3.len; have := htl.out; simp only [List.length_append, List.length_cons, List.length_nil] at *; omega)
       obtain ⟨a3, c3, hv3, _⟩ := i3.own.len
       subst hv3
       clear e3 o3 m3 q S3 i3)
    | (go_at_call 32; refine hPart.out.mono ?_; rintro e w1 ⟨rfl, s1, b1⟩
       have A1 : Hid (Below X.heap.size X (w1.alloc (.cells #[.int .u8 (hd : Nat)] 5))) := b1.trans (((Below.refl _ w1).alloc (Nat.le_refl _) _).mono b1.size)
       have hob1 := Lib.hid (hI0.out.own.below A1.out)
       have hnews1 := Lib.hid (news_alloc w1 [.int .u8 (hd : Nat)] 5)
       have SA := Lib.hid (s1.below ((Below.refl _ w1).alloc (Nat.le_refl _) (.cells #[.int .u8 (hd : Nat)] 5)))
       have SA1 : Hid (X.heap.size < (w1.alloc (.cells #[.int .u8 (hd : Nat)] 5)).heap.size) := by show _ < _; rw [World.size_alloc]; have := b1.size; omega
       have hHead := Lib.hid (hH.out w1 (Hb.out.trans (b1.mono Hb.out.size)))
       clear s1 b1)
    | (go_at_call 177; refine hHead.out.mono ?_; rintro e w' ⟨rfl, rfl⟩)
    | (go_at_call 17; refine hVal.out.mono ?_; rintro e w' ⟨rfl, rfl⟩)
    | (go_at_call 29; refine (hKd.out w5 B5.out).mono ?_; rintro e w' ⟨rfl, rfl⟩))
  go_ret
  have := I5.out.done
  rw [hT2.out] at this
  exact this

set_option maxHeartbeats 4000000 in
set_option maxRecDepth 100000 in
theorem lay_val (N : Nat) (IH : LayAsk N) {w0 w X : World} {Q : List NP} (hQ : StoreP NoB w0 w Q) {n : Nat} {bs : List Nat} {y m : Nat} {kk : KV} {ks : Tr} (h : NodeW w n bs (y : Nat) true false m kk) (hKs : Kids Q kk ks ks [] kk) (hk0 : knxt kk 0 = kk.head?) (hdp : tdep ks ≤ N) (hcn : Can ks) (hm1 : false = false → 1 ≤ m) (hm2 : m ≤ 256) (hb : Below w.heap.size w X) (hy : y < 18446744073709551616) {v : Value} {xs : List Nat} {bo : Option Nat} (hO : OwnS 1 u8T X v xs.length (bV xs) bo) (hbo : ∀ g, bo = some g → w.heap.size ≤ g) {T : List Nat}
    (hT : T = xs ++ [headN true false m] ++ numL bs.length ++ bs ++ (if true then numL y else []) ++ (if false then [] else (m - 1) :: layT ks)) (htot : T.length ≤ 800000) :
    Calls Try.prog 126 #[v, .pointer (some ⟨n, 0, none⟩)] X (layPost bo X T) := by
  have hPart := Lib.hid (h.part X hb)
  have hH := Lib.hid (fun X hb => head_any (X := X) h hb)
  have hVl := Lib.hid h.val
  have hKd := Lib.hid h.kind
  have hLn := Lib.hid h.len
  have hNx := Lib.hid h.next
  have hI0 := Lib.hid (LayI.start hO)
  have Hb := Lib.hid hb
  have Hbo := Lib.hid hbo
  have HQ := Lib.hid hQ
  have hlt : Hid (∀ g, bo = some g → g < X.heap.size) := fun g e => by rw [e] at hO; exact hO.lt
  have htl : Hid (xs.length + 1 + (numL bs.length).length + bs.length + (if true then numL y else []).length + (if false then [] else (m - 1) :: layT ks).length ≤ 800000) := by
    have := congrArg List.length hT
    simp only [List.length_append, List.length_cons, List.length_nil] at this
    show _ ≤ _
    (try simp only [List.length_append, List.length_cons, List.length_nil])
    omega
  obtain ⟨hd, hhd⟩ : ∃ hd, hd = headN true false m := ⟨_, rfl⟩
  rw [← hhd] at hT hH
  have hone : Hid (∀ b : Nat, ∀ u ∈ (bV [b]), u.oneCell' = true) := fun b => bV_one [b]
  have hxl : Hid (xs.length ≤ 1000000) := by show _ ≤ _; have := htl.out; omega
  have h1m : Hid (1 ≤ 1000000) := by show _ ≤ _; omega
  have hlm : Hid (bs.length ≤ 1000000) := by show _ ≤ _; have := htl.out; omega
  have hbone := Lib.hid (bV_one bs)
  have hbl : Hid ((bV bs).length = bs.length) := by show _ = _; simp [bV]
  have hw : IntKind.u64.wrap ((bs.length : Nat) : Int) = (bs.length : Nat) := wrap_u64 (by have := htl.out; omega)
  have hmm := hm1 rfl
  obtain ⟨kd, hkd⟩ : ∃ kd, kd = kindOf m := ⟨_, rfl⟩
  have hkne : ¬ ((kd : Nat) : Int) = 1 := by have := kindOf_cases m; omega
  rw [if_neg (by simp : ¬ (false = true)), ← hkd] at hKd
  obtain ⟨m1, hme⟩ : ∃ m1, m1 = m - 1 := ⟨_, rfl⟩
  have hw1 : IntKind.i64.wrap ((m : Int) - 1) = (m1 : Nat) := by rw [show (m : Int) - 1 = ((m1 : Nat) : Int) by omega]; exact IntWalk.i64_in _ (by omega)
  have hw2 : IntKind.u8.wrap (m1 : Int) = (m1 : Nat) := wrap_u8 (by omega)
  have hn0 : Hid (∀ X, Below w.heap.size w X → Calls Try.prog 18 #[.pointer (some ⟨n, 0, none⟩), .int .i64 0] X fun e w' => e = .returned (.tuple #[.int .u8 (hdB kk : Nat), hdK kk]) ∧ Below X.heap.size X w') := fun X hX => by
    have := h.next X 0 hX (by omega) (by omega)
    rw [hk0, stepV_head] at this
    exact this
  have hT2 : Hid (xs ++ [hd] ++ numL bs.length ++ bs ++ (if true then numL y else []) ++ [m1] ++ layT ks = T) := by show _ = _; rw [hT, hme]; simp
  have hKs0 := Lib.hid hKs
  have hcn0 := Lib.hid hcn
  have HT := Lib.hid htot
  clear hkd hme hKs hcn hk0
  clear h hb hO hbo hT hhd hQ htot hm1
  go_enter Try.func126, Try.ntmps126
  go_wp2_with (first
    | (go_at_call 18; refine (hn0.out _ B6.out).mono ?_; rintro e w7 ⟨rfl, z1⟩; have I7 := Lib.hid (I6.out.below z1); clear z1)
    | (at_builtin; have hg := hLenD
       have hob := Lib.hid (I5.out.own.below ((Below.refl _ w5).alloc (Nat.le_refl _) (.cells #[.int .u8 (m1 : Nat)] 5)))
       have hnews := Lib.hid (news_alloc w5 [.int .u8 (m1 : Nat)] 5)
       have hM : Hid (M5 ≤ 1000000) := (by show _ ≤ _; have := I5.out.len; have := htl.out; simp only [List.length_append, List.length_cons, List.length_nil, if_true, if_false, Bool.false_eq_true] at *; omega)
       go_loud (refine append_b1 rfl (.tmp 36) (.tmp 41) rfl _ rfl M5 _ bo5 hob.out ⟨w5.heap.size, 0, none⟩ 1 1 (bV [m1]) rfl rfl hnews.out (hone.out _) hM.out h1m.out ?_); intro v6 w6 bo6 HO HM HN
       have I6 := Lib.hid (I5.out.app ((Below.refl _ w5).alloc (Nat.le_refl _) _) HO.out HM.out HN.out)
       have B6 := Lib.hid (I6.out.lo Hb.out Hbo.out).1
       clear HO HM HN hob hnews hM)
    | (go_at_call 30; refine (hLn.out w5 B5.out).mono ?_; rintro e w' ⟨rfl, rfl⟩; have hLenD : Hid True := trivial)
    | (go_at_call 124; have hg := hNum2; refine hNum2.out.mono ?_; rintro e w5 q
       obtain ⟨v5, M5, bo5, rfl, i5⟩ := I4.out.put (Below.refl _ _) q
       have I5 := Lib.hid i5
       have B5 := Lib.hid (i5.lo Hb.out Hbo.out).1
       obtain ⟨a5, c5, hv5, _⟩ := i5.own.len
       subst hv5
       clear q i5)
    | (at_builtin; have hg := hnews3; go_loud (refine append_b1 rfl (.tmp 20) (.tmp 21) rfl _ rfl M3 _ bo3 I3.out.own ⟨X.heap.size, 0, none⟩ bs.length bs.length (bV bs) rfl hbl.out hnews3.out hbone.out hM3.out hlm.out ?_); intro v4 w4 bo4 HO HM HN
       have i4 := I3.out.app (Below.refl _ w3) HO.out HM.out HN.out
       obtain ⟨a4, c4, hv4, _⟩ := i4.own.len
       subst hv4
       have I4 := Lib.hid i4
       have B4 := Lib.hid (i4.lo Hb.out Hbo.out).1
       have hVal := Lib.hid (hVl.out w4 B4.out)
       have hNum2 := Lib.hid (ser_num i4.len' (by have := htl.out; simp only [List.length_append, List.length_cons, List.length_nil] at *; omega) y hy)
       clear HO HM HN i4)
    | (at_builtin; go_loud (refine append_b1 rfl (.tmp 12) (.tmp 15) rfl v rfl xs.length (bV xs) bo hob1.out ⟨w1.heap.size, 0, none⟩ 1 1 (bV [hd]) rfl rfl hnews1.out (hone.out _) hxl.out h1m.out ?_); intro v2 w2 bo2 HO HM HN
       have i2 := hI0.out.app A1.out HO.out HM.out HN.out
       have I2 := Lib.hid i2
       have S2 := Lib.hid (sl_mod SA.out HM.out (fun p e q => by cases e; exact absurd (hlt.out _ q) (Nat.lt_irrefl _)))
       have hne2 : Hid (bo2 ≠ some X.heap.size) := newOr_lt HN.out hlt.out SA1.out
       have hNum := Lib.hid (ser_num i2.len' (by have := htl.out; simp only [List.length_append, List.length_cons, List.length_nil] at *; omega) bs.length (by have := htl.out; omega))
       obtain ⟨a2, c2, hv2, _⟩ := HO.out.len
       subst hv2
       clear HO HM HN i2)
    | (go_at_call 124; refine hNum.out.mono ?_; rintro e w3 q
       have q2 := q
       obtain ⟨v3, M3, bo3, rfl, i3⟩ := I2.out.put (Below.refl _ _) q
       obtain ⟨_, _, _, e3, _, o3, m3, _⟩ := q2
       have S3 := sl_mod S2.out m3 (fun p e q => by cases e; exact hne2.out q)
       have hnews3 := Lib.hid (sl_news S3 (Below.refl _ w3))
       have I3 := Lib.hid i3
       have hM3 : Hid (M3 ≤ 1000000) := (by show _ ≤ _; have := i3.len; have := htl.out; simp only [List.length_append, List.length_cons, List.length_nil] at *; omega)
       obtain ⟨a3, c3, hv3, _⟩ := i3.own.len
       subst hv3
       clear e3 o3 m3 q S3 i3)
    | (go_at_call 32; refine hPart.out.mono ?_; rintro e w1 ⟨rfl, s1, b1⟩
       have A1 : Hid (Below X.heap.size X (w1.alloc (.cells #[.int .u8 (hd : Nat)] 5))) := b1.trans (((Below.refl _ w1).alloc (Nat.le_refl _) _).mono b1.size)
       have hob1 := Lib.hid (hI0.out.own.below A1.out)
       have hnews1 := Lib.hid (news_alloc w1 [.int .u8 (hd : Nat)] 5)
       have SA := Lib.hid (s1.below ((Below.refl _ w1).alloc (Nat.le_refl _) (.cells #[.int .u8 (hd : Nat)] 5)))
       have SA1 : Hid (X.heap.size < (w1.alloc (.cells #[.int .u8 (hd : Nat)] 5)).heap.size) := by show _ < _; rw [World.size_alloc]; have := b1.size; omega
       have hHead := Lib.hid (hH.out w1 (Hb.out.trans (b1.mono Hb.out.size)))
       clear s1 b1)
    | (go_at_call 177; refine hHead.out.mono ?_; rintro e w' ⟨rfl, rfl⟩)
    | (go_at_call 17; refine hVal.out.mono ?_; rintro e w' ⟨rfl, rfl⟩)
    | (go_at_call 29; refine (hKd.out w5 B5.out).mono ?_; rintro e w' ⟨rfl, rfl⟩))
  have I7' : Hid (LayI bo X (xs ++ [hd] ++ numL bs.length ++ bs ++ (if true then numL y else []) ++ [m1]) v6 (M5 + 1) bo6 w7) := I7.out
  clear I7 I6 B6 hob1 hnews1 A1 SA SA1 S2 hne2 hnews3 hNum hVal hHead I2 I3 I5 B5
  go_loopw [0, 8, 9] (fun v0 v8 v9 wr => ∃ (zs : List Nat) (M : Nat) (bo' : Option Nat) (r : Tr) (A lr : KV), v8 = .int .u8 (hdB lr : Nat) ∧ v9 = hdK lr ∧ Hid (LayI bo X zs v0 M bo' wr) ∧ Hid (Kids Q kk ks r A lr) ∧ Hid (zs ++ layT r = T) ∧ Hid (Can r) ∧ Hid (tdep r ≤ N)) (fun _ v8 v9 _ => match v9 with | .pointer none => 0 | _ => 256 - (intOf v8).toNat)
  case atStart => exact ⟨_, _, _, ks, [], kk, rfl, rfl, I7', hKs0, hT2, hcn0, hdp⟩
  case round =>
    clear I7' hKs0 hT2 hcn0 hn0
    obtain ⟨zs, M, bo', r, A, lr, rfl, rfl, hI, hKd, hzs, hcr, hdr⟩ := hrel
    by_cases hl : lr = []
    · subst hl
      obtain rfl := hKd.out.done
      rw [show hdK ([] : KV) = .pointer none from rfl]
      go_wp2_with fail
      go_ret
      have := hI.out.done
      rw [← hzs.out, show layT .nil = [] from rfl, List.append_nil]
      exact this
    · obtain ⟨b, t, r', x, lr', rfl, rfl, hb1, hx1, hb256, ⟨k, rfl⟩, hTV, hIN, hOk, hnext, hkn⟩ := hKd.out.next hl
      rw [hb1, hx1]
      have hzs2 : Hid (zs ++ [b] ++ layT t ++ layT r' = T) := by show _ = _; rw [← hzs.out]; simp [layT]
      have hzl : Hid (zs.length + 1 + (layT t).length ≤ 800000) := by
        have := congrArg List.length hzs2.out
        have := HT.out
        simp only [List.length_append, List.length_cons, List.length_nil] at *
        show _ ≤ _
        omega
      have hM : Hid (M ≤ 1000000) := by show _ ≤ _; have := hzl.out; have := hI.out.len; omega
      have hcr' := hcr.out
      have hdr' := hdr.out
      simp only [Can] at hcr'
      simp only [tdep] at hdr'
      have hTI : TreeIn Q 0 t (.pointer (some ⟨k, 0, none⟩)) [] := by
        rcases hTV with ⟨_, e⟩ | ⟨_, e⟩
        · cases e
        · exact e
      have hLayC : Hid (∀ w8 v8 M8 bo8, LayI bo X (zs ++ [b]) v8 M8 bo8 w8 → Calls Try.prog 126 #[v8, .pointer (some ⟨k, 0, none⟩)] w8 (layPost bo8 w8 (zs ++ [b] ++ layT t))) := fun w8 v8 M8 bo8 i8 => by
        have lo := i8.lo Hb.out Hbo.out
        exact IH t (by omega) HQ.out hTI hIN hOk hcr'.1 lo.1 i8.len' lo.2 (by have := hzl.out; simp only [List.length_append, List.length_cons, List.length_nil]; omega)
      have hN2 : Hid (∀ wr', Below w.heap.size w wr' → Calls Try.prog 18 #[.pointer (some ⟨n, 0, none⟩), .int .i64 ((b + 1 : Nat) : Int)] wr' fun e w' => e = .returned (.tuple #[.int .u8 (hdB lr' : Nat), hdK lr']) ∧ Below wr'.heap.size wr' w') := fun wr' hb' => by
        have := hNx.out wr' ((b + 1 : Nat) : Int) hb' (by omega) (by omega)
        rw [show (((b + 1 : Nat) : Int)) = (b : Int) + 1 by omega, hkn, stepV_head] at this
        exact this
      have hK2 := Lib.hid hnext
      have hwb : IntKind.i64.wrap ((b : Int) + 1) = ((b + 1 : Nat) : Int) := by rw [show (b : Int) + 1 = ((b + 1 : Nat) : Int) by omega]; exact IntWalk.i64_in _ (by omega)
      have hwc : IntKind.i64.wrap (b : Int) = (b : Int) := IntWalk.i64_in _ (by omega)
      have hms : Hid (∀ p ∈ lr', b < p.1 ∧ p.1 < 256) := kids_rest hnext
      have hob := Lib.hid (hI.out.own.below ((Below.refl _ wr).alloc (Nat.le_refl _) (.cells #[.int .u8 (b : Nat)] 5)))
      have hnews := Lib.hid (news_alloc wr [.int .u8 (b : Nat)] 5)
      have hcr2 := Lib.hid hcr'.2
      have hdr2 : Hid (tdep r' ≤ N) := by show _ ≤ _; omega
      clear hTV hTI hIN hOk hnext hkn hKd hl hb1 hx1 hcr' hdr' hcr hdr hzs
      go_wp2_with (first
        | (at_builtin; go_loud (refine append_b1 rfl (.tmp 58) (.tmp 60) rfl _ rfl M _ bo' hob.out ⟨wr.heap.size, 0, none⟩ 1 1 (bV [b]) rfl rfl hnews.out (hone.out _) hM.out h1m.out ?_); intro v8 w8 bo8 HO HM HN
           have I8 := Lib.hid (hI.out.app ((Below.refl _ wr).alloc (Nat.le_refl _) _) HO.out HM.out HN.out)
           clear HO HM HN)
        | (go_at_call 126; refine (hLayC.out _ _ _ _ I8.out).mono ?_; rintro e w9 q
           obtain ⟨v9, M9, bo9, rfl, i9⟩ := I8.out.lay (Below.refl _ _) q
           have I9 := Lib.hid i9
           have B9 := Lib.hid (i9.lo Hb.out Hbo.out).1
           clear q i9)
        | (go_at_call 18; refine (hN2.out _ B9.out).mono ?_; rintro e w3 ⟨rfl, z1⟩; have I10 := Lib.hid (I9.out.below z1); clear z1))
      go_roundw
      case rel => exact ⟨_, _, _, r', A ++ [(b, .pointer (some ⟨k, 0, none⟩))], lr', rfl, rfl, I10, hK2, hzs2, hcr2, hdr2⟩
      case measure =>
        cases lr' with
        | nil => simp [hdK, hdB, intOf]; omega
        | cons y l => have := hms.out y (by simp); simp [hdK, hdB, intOf]; split <;> omega

set_option maxHeartbeats 4000000 in
set_option maxRecDepth 100000 in
theorem lay_no (N : Nat) (IH : LayAsk N) {w0 w X : World} {Q : List NP} (hQ : StoreP NoB w0 w Q) {n : Nat} {bs : List Nat} {y m : Nat} {kk : KV} {ks : Tr} (h : NodeW w n bs (y : Nat) false false m kk) (hKs : Kids Q kk ks ks [] kk) (hk0 : knxt kk 0 = kk.head?) (hdp : tdep ks ≤ N) (hcn : Can ks) (hm1 : false = false → 1 ≤ m) (hm2 : m ≤ 256) (hb : Below w.heap.size w X) (hy : y < 18446744073709551616) {v : Value} {xs : List Nat} {bo : Option Nat} (hO : OwnS 1 u8T X v xs.length (bV xs) bo) (hbo : ∀ g, bo = some g → w.heap.size ≤ g) {T : List Nat}
    (hT : T = xs ++ [headN false false m] ++ numL bs.length ++ bs ++ (if false then numL y else []) ++ (if false then [] else (m - 1) :: layT ks)) (htot : T.length ≤ 800000) :
    Calls Try.prog 126 #[v, .pointer (some ⟨n, 0, none⟩)] X (layPost bo X T) := by
  have hPart := Lib.hid (h.part X hb)
  have hH := Lib.hid (fun X hb => head_any (X := X) h hb)
  have hVl := Lib.hid h.val
  have hKd := Lib.hid h.kind
  have hLn := Lib.hid h.len
  have hNx := Lib.hid h.next
  have hI0 := Lib.hid (LayI.start hO)
  have Hb := Lib.hid hb
  have Hbo := Lib.hid hbo
  have HQ := Lib.hid hQ
  have hlt : Hid (∀ g, bo = some g → g < X.heap.size) := fun g e => by rw [e] at hO; exact hO.lt
  have htl : Hid (xs.length + 1 + (numL bs.length).length + bs.length + (if false then numL y else []).length + (if false then [] else (m - 1) :: layT ks).length ≤ 800000) := by
    have := congrArg List.length hT
    simp only [List.length_append, List.length_cons, List.length_nil] at this
    show _ ≤ _
    (try simp only [List.length_append, List.length_cons, List.length_nil])
    omega
  obtain ⟨hd, hhd⟩ : ∃ hd, hd = headN false false m := ⟨_, rfl⟩
  rw [← hhd] at hT hH
  have hone : Hid (∀ b : Nat, ∀ u ∈ (bV [b]), u.oneCell' = true) := fun b => bV_one [b]
  have hxl : Hid (xs.length ≤ 1000000) := by show _ ≤ _; have := htl.out; omega
  have h1m : Hid (1 ≤ 1000000) := by show _ ≤ _; omega
  have hlm : Hid (bs.length ≤ 1000000) := by show _ ≤ _; have := htl.out; omega
  have hbone := Lib.hid (bV_one bs)
  have hbl : Hid ((bV bs).length = bs.length) := by show _ = _; simp [bV]
  have hw : IntKind.u64.wrap ((bs.length : Nat) : Int) = (bs.length : Nat) := wrap_u64 (by have := htl.out; omega)
  have hmm := hm1 rfl
  obtain ⟨kd, hkd⟩ : ∃ kd, kd = kindOf m := ⟨_, rfl⟩
  have hkne : ¬ ((kd : Nat) : Int) = 1 := by have := kindOf_cases m; omega
  rw [if_neg (by simp : ¬ (false = true)), ← hkd] at hKd
  obtain ⟨m1, hme⟩ : ∃ m1, m1 = m - 1 := ⟨_, rfl⟩
  have hw1 : IntKind.i64.wrap ((m : Int) - 1) = (m1 : Nat) := by rw [show (m : Int) - 1 = ((m1 : Nat) : Int) by omega]; exact IntWalk.i64_in _ (by omega)
  have hw2 : IntKind.u8.wrap (m1 : Int) = (m1 : Nat) := wrap_u8 (by omega)
  have hn0 : Hid (∀ X, Below w.heap.size w X → Calls Try.prog 18 #[.pointer (some ⟨n, 0, none⟩), .int .i64 0] X fun e w' => e = .returned (.tuple #[.int .u8 (hdB kk : Nat), hdK kk]) ∧ Below X.heap.size X w') := fun X hX => by
    have := h.next X 0 hX (by omega) (by omega)
    rw [hk0, stepV_head] at this
    exact this
  have hT2 : Hid (xs ++ [hd] ++ numL bs.length ++ bs ++ (if false then numL y else []) ++ [m1] ++ layT ks = T) := by show _ = _; rw [hT, hme]; simp
  have hKs0 := Lib.hid hKs
  have hcn0 := Lib.hid hcn
  have HT := Lib.hid htot
  clear hkd hme hKs hcn hk0
  clear h hb hO hbo hT hhd hQ htot hm1
  go_enter Try.func126, Try.ntmps126
  go_wp2_with (first
    | (go_at_call 18; refine (hn0.out _ B6.out).mono ?_; rintro e w7 ⟨rfl, z1⟩; have I7 := Lib.hid (I6.out.below z1); clear z1)
    | (at_builtin; have hg := hLenD
       have hob := Lib.hid (I5.out.own.below ((Below.refl _ w5).alloc (Nat.le_refl _) (.cells #[.int .u8 (m1 : Nat)] 5)))
       have hnews := Lib.hid (news_alloc w5 [.int .u8 (m1 : Nat)] 5)
       have hM : Hid (M5 ≤ 1000000) := (by show _ ≤ _; have := I5.out.len; have := htl.out; simp only [List.length_append, List.length_cons, List.length_nil, if_true, if_false, Bool.false_eq_true] at *; omega)
       go_loud (refine append_b1 rfl (.tmp 36) (.tmp 41) rfl _ rfl M5 _ bo5 hob.out ⟨w5.heap.size, 0, none⟩ 1 1 (bV [m1]) rfl rfl hnews.out (hone.out _) hM.out h1m.out ?_); intro v6 w6 bo6 HO HM HN
       have I6 := Lib.hid (I5.out.app ((Below.refl _ w5).alloc (Nat.le_refl _) _) HO.out HM.out HN.out)
       have B6 := Lib.hid (I6.out.lo Hb.out Hbo.out).1
       clear HO HM HN hob hnews hM)
    | (go_at_call 30; refine (hLn.out w5 B5.out).mono ?_; rintro e w' ⟨rfl, rfl⟩; have hLenD : Hid True := trivial)
    | (at_builtin; have hg := hnews3; go_loud (refine append_b1 rfl (.tmp 20) (.tmp 21) rfl _ rfl M3 _ bo3 I3.out.own ⟨X.heap.size, 0, none⟩ bs.length bs.length (bV bs) rfl hbl.out hnews3.out hbone.out hM3.out hlm.out ?_); intro v4 w4 bo4 HO HM HN
       have i4 := I3.out.app (Below.refl _ w3) HO.out HM.out HN.out
       obtain ⟨a4, c4, hv4, _⟩ := i4.own.len
       subst hv4
       have w5e : ∃ w5, w5 = w4 := ⟨_, rfl⟩
       obtain ⟨w5, hw5⟩ := w5e
       have M5e : ∃ M5, M5 = M3 + bs.length := ⟨_, rfl⟩
       obtain ⟨M5, hM5⟩ := M5e
       obtain ⟨bo5, hbo5⟩ : ∃ bo5, bo5 = bo4 := ⟨_, rfl⟩
       rw [← hM5, ← hbo5, ← hw5] at i4
       rw [← hM5, ← hw5]
       have i5 : LayI bo X (xs ++ [hd] ++ numL bs.length ++ bs ++ []) (.slice a4 M5 c4) M5 bo5 w5 := (by rw [List.append_nil]; exact i4)
       have I5 := Lib.hid i5
       have B5 := Lib.hid (i5.lo Hb.out Hbo.out).1
       have hVal := Lib.hid (hVl.out w5 B5.out)
       clear hw5 hM5 hbo5 i5
       clear HO HM HN i4)
    | (at_builtin; go_loud (refine append_b1 rfl (.tmp 12) (.tmp 15) rfl v rfl xs.length (bV xs) bo hob1.out ⟨w1.heap.size, 0, none⟩ 1 1 (bV [hd]) rfl rfl hnews1.out (hone.out _) hxl.out h1m.out ?_); intro v2 w2 bo2 HO HM HN
       have i2 := hI0.out.app A1.out HO.out HM.out HN.out
       have I2 := Lib.hid i2
       have S2 := Lib.hid (sl_mod SA.out HM.out (fun p e q => by cases e; exact absurd (hlt.out _ q) (Nat.lt_irrefl _)))
       have hne2 : Hid (bo2 ≠ some X.heap.size) := newOr_lt HN.out hlt.out SA1.out
       have hNum := Lib.hid (ser_num i2.len' (by have := htl.out; simp only [List.length_append, List.length_cons, List.length_nil] at *; omega) bs.length (by have := htl.out; omega))
       obtain ⟨a2, c2, hv2, _⟩ := HO.out.len
       subst hv2
       clear HO HM HN i2)
    | (go_at_call 124; refine hNum.out.mono ?_; rintro e w3 q
       have q2 := q
       obtain ⟨v3, M3, bo3, rfl, i3⟩ := I2.out.put (Below.refl _ _) q
       obtain ⟨_, _, _, e3, _, o3, m3, _⟩ := q2
       have S3 := sl_mod S2.out m3 (fun p e q => by cases e; exact hne2.out q)
       have hnews3 := Lib.hid (sl_news S3 (Below.refl _ w3))
       have I3 := Lib.hid i3
       have hM3 : Hid (M3 ≤ 1000000) := (by show _ ≤ _; have := i3.len; have := htl.out; simp only [List.length_append, List.length_cons, List.length_nil] at *; omega)
       obtain ⟨a3, c3, hv3, _⟩ := i3.own.len
       subst hv3
       clear e3 o3 m3 q S3 i3)
    | (go_at_call 32; refine hPart.out.mono ?_; rintro e w1 ⟨rfl, s1, b1⟩
       have A1 : Hid (Below X.heap.size X (w1.alloc (.cells #[.int .u8 (hd : Nat)] 5))) := b1.trans (((Below.refl _ w1).alloc (Nat.le_refl _) _).mono b1.size)
       have hob1 := Lib.hid (hI0.out.own.below A1.out)
       have hnews1 := Lib.hid (news_alloc w1 [.int .u8 (hd : Nat)] 5)
       have SA := Lib.hid (s1.below ((Below.refl _ w1).alloc (Nat.le_refl _) (.cells #[.int .u8 (hd : Nat)] 5)))
       have SA1 : Hid (X.heap.size < (w1.alloc (.cells #[.int .u8 (hd : Nat)] 5)).heap.size) := by show _ < _; rw [World.size_alloc]; have := b1.size; omega
       have hHead := Lib.hid (hH.out w1 (Hb.out.trans (b1.mono Hb.out.size)))
       clear s1 b1)
    | (go_at_call 177; refine hHead.out.mono ?_; rintro e w' ⟨rfl, rfl⟩)
    | (go_at_call 17; refine hVal.out.mono ?_; rintro e w' ⟨rfl, rfl⟩)
    | (go_at_call 29; refine (hKd.out w5 B5.out).mono ?_; rintro e w' ⟨rfl, rfl⟩))
  have I7' : Hid (LayI bo X (xs ++ [hd] ++ numL bs.length ++ bs ++ (if false then numL y else []) ++ [m1]) v6 (M5 + 1) bo6 w7) := I7.out
  clear I7 I6 B6 hob1 hnews1 A1 SA SA1 S2 hne2 hnews3 hNum hVal hHead I2 I3 I5 B5
  go_loopw [0, 8, 9] (fun v0 v8 v9 wr => ∃ (zs : List Nat) (M : Nat) (bo' : Option Nat) (r : Tr) (A lr : KV), v8 = .int .u8 (hdB lr : Nat) ∧ v9 = hdK lr ∧ Hid (LayI bo X zs v0 M bo' wr) ∧ Hid (Kids Q kk ks r A lr) ∧ Hid (zs ++ layT r = T) ∧ Hid (Can r) ∧ Hid (tdep r ≤ N)) (fun _ v8 v9 _ => match v9 with | .pointer none => 0 | _ => 256 - (intOf v8).toNat)
  case atStart => exact ⟨_, _, _, ks, [], kk, rfl, rfl, I7', hKs0, hT2, hcn0, hdp⟩
  case round =>
    clear I7' hKs0 hT2 hcn0 hn0
    obtain ⟨zs, M, bo', r, A, lr, rfl, rfl, hI, hKd, hzs, hcr, hdr⟩ := hrel
    by_cases hl : lr = []
    · subst hl
      obtain rfl := hKd.out.done
      rw [show hdK ([] : KV) = .pointer none from rfl]
      go_wp2_with fail
      go_ret
      have := hI.out.done
      rw [← hzs.out, show layT .nil = [] from rfl, List.append_nil]
      exact this
    · obtain ⟨b, t, r', x, lr', rfl, rfl, hb1, hx1, hb256, ⟨k, rfl⟩, hTV, hIN, hOk, hnext, hkn⟩ := hKd.out.next hl
      rw [hb1, hx1]
      have hzs2 : Hid (zs ++ [b] ++ layT t ++ layT r' = T) := by show _ = _; rw [← hzs.out]; simp [layT]
      have hzl : Hid (zs.length + 1 + (layT t).length ≤ 800000) := by
        have := congrArg List.length hzs2.out
        have := HT.out
        simp only [List.length_append, List.length_cons, List.length_nil] at *
        show _ ≤ _
        omega
      have hM : Hid (M ≤ 1000000) := by show _ ≤ _; have := hzl.out; have := hI.out.len; omega
      have hcr' := hcr.out
      have hdr' := hdr.out
      simp only [Can] at hcr'
      simp only [tdep] at hdr'
      have hTI : TreeIn Q 0 t (.pointer (some ⟨k, 0, none⟩)) [] := by
        rcases hTV with ⟨_, e⟩ | ⟨_, e⟩
        · cases e
        · exact e
      have hLayC : Hid (∀ w8 v8 M8 bo8, LayI bo X (zs ++ [b]) v8 M8 bo8 w8 → Calls Try.prog 126 #[v8, .pointer (some ⟨k, 0, none⟩)] w8 (layPost bo8 w8 (zs ++ [b] ++ layT t))) := fun w8 v8 M8 bo8 i8 => by
        have lo := i8.lo Hb.out Hbo.out
        exact IH t (by omega) HQ.out hTI hIN hOk hcr'.1 lo.1 i8.len' lo.2 (by have := hzl.out; simp only [List.length_append, List.length_cons, List.length_nil]; omega)
      have hN2 : Hid (∀ wr', Below w.heap.size w wr' → Calls Try.prog 18 #[.pointer (some ⟨n, 0, none⟩), .int .i64 ((b + 1 : Nat) : Int)] wr' fun e w' => e = .returned (.tuple #[.int .u8 (hdB lr' : Nat), hdK lr']) ∧ Below wr'.heap.size wr' w') := fun wr' hb' => by
        have := hNx.out wr' ((b + 1 : Nat) : Int) hb' (by omega) (by omega)
        rw [show (((b + 1 : Nat) : Int)) = (b : Int) + 1 by omega, hkn, stepV_head] at this
        exact this
      have hK2 := Lib.hid hnext
      have hwb : IntKind.i64.wrap ((b : Int) + 1) = ((b + 1 : Nat) : Int) := by rw [show (b : Int) + 1 = ((b + 1 : Nat) : Int) by omega]; exact IntWalk.i64_in _ (by omega)
      have hwc : IntKind.i64.wrap (b : Int) = (b : Int) := IntWalk.i64_in _ (by omega)
      have hms : Hid (∀ p ∈ lr', b < p.1 ∧ p.1 < 256) := kids_rest hnext
      have hob := Lib.hid (hI.out.own.below ((Below.refl _ wr).alloc (Nat.le_refl _) (.cells #[.int .u8 (b : Nat)] 5)))
      have hnews := Lib.hid (news_alloc wr [.int .u8 (b : Nat)] 5)
      have hcr2 := Lib.hid hcr'.2
      have hdr2 : Hid (tdep r' ≤ N) := by show _ ≤ _; omega
      clear hTV hTI hIN hOk hnext hkn hKd hl hb1 hx1 hcr' hdr' hcr hdr hzs
      go_wp2_with (first
        | (at_builtin; go_loud (refine append_b1 rfl (.tmp 58) (.tmp 60) rfl _ rfl M _ bo' hob.out ⟨wr.heap.size, 0, none⟩ 1 1 (bV [b]) rfl rfl hnews.out (hone.out _) hM.out h1m.out ?_); intro v8 w8 bo8 HO HM HN
           have I8 := Lib.hid (hI.out.app ((Below.refl _ wr).alloc (Nat.le_refl _) _) HO.out HM.out HN.out)
           clear HO HM HN)
        | (go_at_call 126; refine (hLayC.out _ _ _ _ I8.out).mono ?_; rintro e w9 q
           obtain ⟨v9, M9, bo9, rfl, i9⟩ := I8.out.lay (Below.refl _ _) q
           have I9 := Lib.hid i9
           have B9 := Lib.hid (i9.lo Hb.out Hbo.out).1
           clear q i9)
        | (go_at_call 18; refine (hN2.out _ B9.out).mono ?_; rintro e w3 ⟨rfl, z1⟩; have I10 := Lib.hid (I9.out.below z1); clear z1))
      go_roundw
      case rel => exact ⟨_, _, _, r', A ++ [(b, .pointer (some ⟨k, 0, none⟩))], lr', rfl, rfl, I10, hK2, hzs2, hcr2, hdr2⟩
      case measure =>
        cases lr' with
        | nil => simp [hdK, hdB, intOf]; omega
        | cons y l => have := hms.out y (by simp); simp [hdK, hdB, intOf]; split <;> omega
end Go.Proofs.Ytkonbldjmcccmaa
/- canon.each: what a callback holds, while a tree is gone through. -/
namespace Go.Proofs.Ytkonbldjmcccmaa
open Go.RowKit
/-- how long a way down may be -/
def tway : Tr → Nat
  | .nil => 0
  | .kid _ t r => max (1 + tway t) (tway r)
  | .node bs _ _ _ ks => bs.length + tway ks
theorem tway_lay : ∀ t : Tr, TOk t → tway t ≤ (layT t).length
  | .nil, _ => Nat.le_refl _
  | .kid b t r, ⟨h1, h2, h3, h4, h5, h6⟩ => by
    have h1 := tway_lay t h3
    have h2 := tway_lay r h5
    simp only [tway, layT, List.length_cons, List.length_append]
    omega
  | .node bs v has leaf ks, ⟨h1, h2, h3, h4, h5, h6, h7⟩ => by
    have q := tway_lay ks h7
    simp only [tway, layT, List.length_cons, List.length_append]
    cases leaf with
    | true =>
      rw [(h5 rfl).2]
      simp only [tway]
      omega
    | false =>
      simp only [Bool.false_eq_true, if_false, List.length_cons]
      omega
/-- what a callback holds: blocks F, and what it was told -/
structure CbT (S : (Nat → Prop) → PL → World → Prop) (lo : Nat) : Prop where
  keep : ∀ F L w w', S F L w → (∀ j, F j → w'.heap[j]? = w.heap[j]?) → S F L w'
  low : ∀ F L w, S F L w → ∀ j, F j → lo ≤ j
  high : ∀ F L w, S F L w → ∀ j, F j → j < w.heap.size
/-- what is written, and what is held behind it -/
def Ext (bo : Option Nat) (F : Nat → Prop) (X X' : World) (F' : Nat → Prop) : Prop := Mod (fun j => bo = some j ∨ F j) X X' ∧ ∀ j, F' j → F j ∨ X.heap.size ≤ j
theorem Ext.trans {bo : Option Nat} {F F' F'' : Nat → Prop} {X X' X'' : World} (h : Ext bo F X X' F') (k : Ext bo F' X' X'' F'') : Ext bo F X X'' F'' := by
  refine ⟨h.1.then k.1 fun i hi q => ?_, fun j hj => ?_⟩
  · rcases q with q | q
    · exact Or.inl q
    · rcases h.2 i q with q | q
      · exact Or.inr q
      · omega
  · rcases k.2 j hj with q | q
    · exact h.2 j q
    · exact Or.inr (Nat.le_trans h.1.size q)
theorem Ext.of_below {bo : Option Nat} {F : Nat → Prop} {X X' : World} (h : Below X.heap.size X X') : Ext bo F X X' F := ⟨Mod.of_below h, fun j hj => Or.inl hj⟩
/-- a walk under way: the way, what the callback holds, and two boxes that nobody writes -/
structure EaS (S : (Nat → Prop) → PL → World → Prop) (w : World) (bf bd : Nat) (cf cd : Value) (v : Value) (k : List Nat) (bo : Option Nat) (cap : Nat) (F : Nat → Prop) (L : PL) (X : World) : Prop where
  since : Below w.heap.size w X
  way : WayAt X v k bo cap
  wlo : ∀ g, bo = some g → w.heap.size ≤ g
  st : S F L X
  ne : ∀ g, bo = some g → ¬ F g
  xf : X.cell? ⟨bf, 0, none⟩ = some cf
  xd : X.cell? ⟨bd, 0, none⟩ = some cd
  nf : ¬ F bf ∧ bo ≠ some bf
  nd : ¬ F bd ∧ bo ≠ some bd
section
variable {S : (Nat → Prop) → PL → World → Prop} {w X X' X2 X4 X5 : World} {bf bd : Nat} {cf cd v v2 : Value} {k x : List Nat} {bo bo2 : Option Nat} {cap cap2 : Nat} {F F2 : Nat → Prop} {L L2 : PL}
theorem cell_same {p : Addr} {c : Value} (h : X.cell? p = some c) (e : X'.heap[p.block]? = X.heap[p.block]?) : X'.cell? p = some c := by
  rw [← h]; unfold World.cell?; rw [e]
theorem EaS.below (hS : CbT S w.heap.size) (h : EaS S w bf bd cf cd v k bo cap F L X) (hb : Below X.heap.size X X') : EaS S w bf bd cf cd v k bo cap F L X' where
  since := h.since.trans (hb.mono h.since.size)
  way := h.way.below hb
  wlo := h.wlo
  st := hS.keep F L X X' h.st fun j hj => hb.block j (hS.high F L X h.st j hj)
  ne := h.ne
  xf := (hb.cell (cell_lt h.xf)).trans h.xf
  xd := (hb.cell (cell_lt h.xd)).trans h.xd
  nf := h.nf
  nd := h.nd
/-- the way goes on -/
theorem EaS.app (hS : CbT S w.heap.size) (h : EaS S w bf bd cf cd v k bo cap F L X) (hw : WayAt X' v2 (k ++ x) bo2 cap2) (hg : Goes X bo bo2 cap cap2) (hm : Mod (fun j => bo = some j) X X') : EaS S w bf bd cf cd v2 (k ++ x) bo2 cap2 F L X' ∧ Ext bo F X X' F := by
  have hlt : ∀ j, bo2 = some j → bo = some j ∨ X.heap.size ≤ j := fun j e => by
    rcases hg with ⟨q, _⟩ | q | ⟨g, q, hg⟩
    · rw [q] at e; exact Or.inl e
    · rw [q] at e; cases e
    · rw [q] at e; cases e; exact Or.inr hg
  have hF : ∀ j, F j → X'.heap[j]? = X.heap[j]? := fun j hj => hm.same j (hS.high F L X h.st j hj) fun e => h.ne j e hj
  have hnew : ∀ b, b < X.heap.size → bo ≠ some b → bo2 ≠ some b := fun b hb hn e => by
    rcases hlt b e with q | q
    · exact hn q
    · omega
  refine ⟨⟨h.since.trans (mod_lo hm h.wlo h.since.size), hw, fun g e => ?_, hS.keep F L X X' h.st hF, fun g e q => ?_, cell_same h.xf (hm.same bf (cell_lt h.xf) h.nf.2), cell_same h.xd (hm.same bd (cell_lt h.xd) h.nd.2), ⟨h.nf.1, hnew bf (cell_lt h.xf) h.nf.2⟩, ⟨h.nd.1, hnew bd (cell_lt h.xd) h.nd.2⟩⟩, hm.mono (fun j _ e => Or.inl e), fun j hj => Or.inl hj⟩
  · rcases hlt g e with q | q
    · exact h.wlo g q
    · exact Nat.le_trans h.since.size q
  · rcases hlt g e with r | r
    · exact h.ne g r q
    · have := hS.high F L X h.st g q; omega
/-- the callback was called -/
theorem EaS.told (hS : CbT S w.heap.size) (h : EaS S w bf bd cf cd v k bo cap F L X) (hs : S F2 L2 X') (hm : Mod F X X') (hf : ∀ j, F2 j → F j ∨ X.heap.size ≤ j) : EaS S w bf bd cf cd v k bo cap F2 L2 X' ∧ Ext bo F X X' F2 := by
  have hno : ∀ b, b < X.heap.size → ¬ F b → ¬ F2 b := fun b hb hn q => by
    rcases hf b q with r | r
    · exact hn r
    · omega
  refine ⟨⟨h.since.trans (hm.belowLo (hS.low F L X h.st) h.since.size), h.way.mod hm fun g e q => h.ne g e q, h.wlo, hs, fun g e => hno g (h.way.lt e) (h.ne g e), cell_same h.xf (hm.same bf (cell_lt h.xf) h.nf.1), cell_same h.xd (hm.same bd (cell_lt h.xd) h.nd.1), ⟨hno bf (cell_lt h.xf) h.nf.1, h.nf.2⟩, ⟨hno bd (cell_lt h.xd) h.nd.1, h.nd.2⟩⟩, hm.mono (fun j _ e => Or.inr e), hf⟩
/-- back from further down -/
theorem EaS.back (hS : CbT S w.heap.size) (h : EaS S w bf bd cf cd v k bo cap F L X) (hg : Goes X bo bo2 cap cap2) (hm : Mod (fun j => bo = some j) X X4) (hk : WayAt X4 v k bo cap) (q : EaS S w bf bd cf cd v2 (k ++ x) bo2 cap2 F2 L2 X5) (he : Ext bo2 F X4 X5 F2) : EaS S w bf bd cf cd v k bo cap F2 L2 X5 ∧ Ext bo F X X5 F2 := by
  have hlt : ∀ j, bo2 = some j → bo = some j ∨ X.heap.size ≤ j := fun j e => by
    rcases hg with ⟨q, _⟩ | q | ⟨g, q, hg⟩
    · rw [q] at e; exact Or.inl e
    · rw [q] at e; cases e
    · rw [q] at e; cases e; exact Or.inr hg
  have hE : Ext bo F X X5 F2 := by
    refine ⟨(hm.mono fun j _ e => Or.inl e : Mod (fun j => bo = some j ∨ F j) X X4).then he.1 fun i hi e => ?_, fun j hj => ?_⟩
    · rcases e with e | e
      · rcases hlt i e with r | r
        · exact Or.inl r
        · omega
      · exact Or.inr e
    · rcases he.2 j hj with r | r
      · exact Or.inl r
      · exact Or.inr (Nat.le_trans hm.size r)
  have hno : ∀ b, b < X.heap.size → ¬ F b → ¬ F2 b := fun b hb hn q => by
    rcases hE.2 b q with r | r
    · exact hn r
    · omega
  refine ⟨⟨q.since, ?_, h.wlo, q.st, fun g e => hno g (h.way.lt e) (h.ne g e), q.xf, q.xd, ⟨q.nf.1, h.nf.2⟩, ⟨q.nd.1, h.nd.2⟩⟩, hE⟩
  rcases hg with ⟨e1, e2, e3⟩ | e1
  · subst e1; subst e2
    exact hk.back (Or.inl ⟨rfl, rfl, e3⟩) q.way he.1 h.ne
  · refine hk.mod he.1 fun g e r => ?_
    have hl := h.way.lt e
    rcases r with r | r
    · rcases e1 with e1 | ⟨g', e1, hg'⟩
      · rw [e1] at r; cases r
      · rw [e1] at r; cases r; omega
    · exact h.ne g e r
end
/-- what a callback does, at a node -/
def CbTree (S : (Nat → Prop) → PL → World → Prop) (w : World) (fn : FuncId) (m : Nat) : Prop :=
  ∀ F L X (n : Nat) bs (val : Int) has leaf mm kk (a : Option Addr) (nn c : Nat) key, S F L X → NodeW X n bs val has leaf mm kk → Sl X a nn c key → nn ≤ 900000 → 0 ≤ val → val < 18446744073709551616 → Below w.heap.size w X → L.length ≤ 2000 →
    Calls Try.prog fn #[.slice a nn c, .pointer (some ⟨n, 0, none⟩), .pointer (some ⟨m, 0, none⟩)] X fun e X' => e = .returned (.tuple #[]) ∧ ∃ F', S F' (L ++ if has then [(key, val)] else []) X' ∧ Mod F X X' ∧ ∀ j, F' j → F j ∨ X.heap.size ≤ j
/-- a way that goes on, in a list of operations -/
theorem wpList_append_way {w : World} {ops : Array Oper} {rest : List Oper} {o : Oper} {a : Act} {Q : Exit → Act → World → Prop} (hgd : o.guard = none) (s x : Operand)
    (ho : o.op = .call { callee := .builtin .append, args := #[s, x], argTypes := #[27, 27] })
    {v : Value} {k : List Nat} {bo : Option Nat} {cap : Nat} (hs : a.eval s = v) (h : WayAt w v k bo cap) (ad : Addr) (m c : Nat) (news : List Nat) (hm : news.length = m) (hx : a.eval x = .slice (some ad) m c) (hnews : ∀ j u, (bV news)[j]? = some u → w.cell? (ad.add j) = some u) (hk : k.length ≤ 1000000) (hn : news.length ≤ 1000000)
    (K : ∀ v' w' bo' cap', Hid (WayAt w' v' (k ++ news) bo' cap') → Hid (Goes w bo bo' cap cap') → Hid (Mod (fun j => bo = some j) w w') → Hid (WayAt w' v k bo cap) → wpList Try.prog ops Q rest (a.put o.dst v') w') : wpList Try.prog ops Q (o :: rest) a w := by
  subst hm
  obtain ⟨i, hi, hz, hsize, hby⟩ := info_parts cloneB_info
  refine wpList_plain hgd fun K2 hK => ?_
  obtain ⟨v', w', bo', cap', hr, h2, h3, h4, h5⟩ := run_append_way (P := Try.prog) w 27 o.type i Try.underlying27 hi hz hsize hby h ad c news hnews hk hn
  unfold Oper.wp execOp
  simp only [ho, resolve, invoke, builtin, Sem.run_bind, Sem.run_pure, Result.andThen_ok, List.map_toArray, List.map_cons, List.map_nil, hs, hx, hr]
  exact hK _ _ (K v' w' bo' cap' h2 h3 h4 h5)
theorem step_append_way {w : World} {ops : Array Oper} {o : Oper} {a : Act} {K : Act → World → Prop} {Q : Exit → Act → World → Prop} {E : Prop} (hgd : o.guard = none) (s x : Operand)
    (ho : o.op = .call { callee := .builtin .append, args := #[s, x], argTypes := #[27, 27] })
    {v : Value} {k : List Nat} {bo : Option Nat} {cap : Nat} (hs : a.eval s = v) (h : WayAt w v k bo cap) (ad : Addr) (m c : Nat) (news : List Nat) (hm : news.length = m) (hx : a.eval x = .slice (some ad) m c) (hnews : ∀ j u, (bV news)[j]? = some u → w.cell? (ad.add j) = some u) (hk : k.length ≤ 1000000) (hn : news.length ≤ 1000000)
    (h' : ∀ v' w' bo' cap', Hid (WayAt w' v' (k ++ news) bo' cap') → Hid (Goes w bo bo' cap cap') → Hid (Mod (fun j => bo = some j) w w') → Hid (WayAt w' v k bo cap) → K (a.put o.dst v') w') :
    if Region.wanted o (yielded ops a.tmps) = true then Oper.wp Try.prog o a w K Q else E := by
  subst hm
  have hw : Region.wanted o (yielded ops a.tmps) = true := by simp [Region.wanted, hgd]
  rw [if_pos hw]
  obtain ⟨i, hi, hz, hsize, hby⟩ := info_parts cloneB_info
  obtain ⟨v', w', bo', cap', hr, h2, h3, h4, h5⟩ := run_append_way (P := Try.prog) w 27 o.type i Try.underlying27 hi hz hsize hby h ad c news hnews hk hn
  unfold Oper.wp execOp
  simp only [ho, resolve, invoke, builtin, Sem.run_bind, Sem.run_pure, Result.andThen_ok, List.map_toArray, List.map_cons, List.map_nil, hs, hx, hr]
  exact h' v' w' bo' cap' h2 h3 h4 h5
end Go.Proofs.Ytkonbldjmcccmaa
/- canon.each, walked, for each of its callbacks. -/
namespace Go.Proofs.Ytkonbldjmcccmaa
open Go.RowKit
def eachF (bf bd : Nat) : Value := .func (.func 172) #[] #[.pointer (some ⟨bf, 0, none⟩), .pointer (some ⟨bd, 0, none⟩)]
/-- what each is asked for at a tree -/
def EachAsk (S : (Nat → Prop) → PL → World → Prop) (w : World) (cf : Value) (N : Nat) : Prop := ∀ (t : Tr) {w0 : World} {Q : List NP} {p : Option Addr}, tdep t ≤ N → StoreP NoB w0 w Q → TreeIn Q 0 t (.pointer p) [] → IsN t → TOk t → ∀ {X : World} {v : Value} {k : List Nat} {bo : Option Nat} {cap : Nat} {F : Nat → Prop} {L : PL} {bf bd : Nat}, EaS S w bf bd cf (eachF bf bd) v k bo cap F L X → (∀ x ∈ k, x < 256) → k.length + tway t ≤ 900000 → L.length + (tl t).length ≤ 2000 →
  Calls Try.prog 172 #[v, .pointer p, .pointer (some ⟨bf, 0, none⟩), .pointer (some ⟨bd, 0, none⟩)] X fun e X' => e = .returned (.tuple #[]) ∧ ∃ F', EaS S w bf bd cf (eachF bf bd) v k bo cap F' (L ++ pre k (tl t)) X' ∧ Ext bo F X X' F'
set_option maxHeartbeats 4000000 in
set_option maxRecDepth 100000 in
theorem each1_cn {S : (Nat → Prop) → PL → World → Prop} {w : World} {m : Nat} (hS : CbT S w.heap.size) (hf : CbTree S w (176) m) (N : Nat) (IH : EachAsk S w (.func (.func 176) #[] #[.pointer (some ⟨m, 0, none⟩)]) N)
    {w0 X : World} {Q : List NP} (hQ : StoreP NoB w0 w Q) {n : Nat} {bs : List Nat} {val : Int} {has leaf : Bool} {mm : Nat} {kk : KV} {ks : Tr} (h : NodeW w n bs val has leaf mm kk) (hKs : Kids Q kk ks ks [] kk) (hk0 : knxt kk 0 = kk.head?) (hdp : tdep ks ≤ N) (hb8 : ∀ x ∈ bs, x < 256) (hv0 : 0 ≤ val) (hv1 : val < 18446744073709551616)
    {v : Value} {k : List Nat} {bo : Option Nat} {cap : Nat} {F : Nat → Prop} {L : PL} {bf bd : Nat} (hE : EaS S w bf bd (.func (.func 176) #[] #[.pointer (some ⟨m, 0, none⟩)]) (eachF bf bd) v k bo cap F L X) (hk8 : ∀ x ∈ k, x < 256) (hway : k.length + (bs.length + tway ks) ≤ 900000) {T : PL} (hT : T = L ++ (if has then [(k ++ bs, val)] else []) ++ pre (k ++ bs) (tl ks)) (htot : T.length ≤ 2000) :
    Calls Try.prog 172 #[v, .pointer (some ⟨n, 0, none⟩), .pointer (some ⟨bf, 0, none⟩), .pointer (some ⟨bd, 0, none⟩)] X fun e X' => e = .returned (.tuple #[]) ∧ ∃ F', EaS S w bf bd (.func (.func 176) #[] #[.pointer (some ⟨m, 0, none⟩)]) (eachF bf bd) v k bo cap F' T X' ∧ Ext bo F X X' F' := by
  have hPart := Lib.hid (h.part X hE.since)
  have HN := Lib.hid h
  have HS := Lib.hid hS
  have HF := Lib.hid hf
  have HQ := Lib.hid hQ
  have HE := Lib.hid hE
  have hn0 : Hid (∀ X, Below w.heap.size w X → Calls Try.prog 18 #[.pointer (some ⟨n, 0, none⟩), .int .i64 0] X fun e w' => e = .returned (.tuple #[.int .u8 (hdB kk : Nat), hdK kk]) ∧ Below X.heap.size X w') := fun X hX => by
    have := h.next X 0 hX (by omega) (by omega)
    rw [hk0, stepV_head] at this
    exact this
  obtain ⟨kb, hkbe⟩ : ∃ kb, kb = k ++ bs := ⟨_, rfl⟩
  have HKe := Lib.hid hkbe
  have hT2 : Hid ((L ++ if has then [(kb, val)] else []) ++ pre kb (tl ks) = T) := by rw [hkbe]; exact hT.symm
  have hLl : Hid (L.length ≤ 2000) := by show _ ≤ _; have := congrArg List.length hT; simp only [List.length_append] at this; omega
  have HT := Lib.hid htot
  have hKs0 := Lib.hid hKs
  have hkl : Hid (k.length ≤ 1000000) := by show _ ≤ _; omega
  have hbl : Hid (bs.length ≤ 1000000) := by show _ ≤ _; omega
  have h1m : Hid (1 ≤ 1000000) := by show _ ≤ _; omega
  have hkb : Hid (∀ x ∈ kb, x < 256) := fun x hx => by
    rw [hkbe] at hx
    rcases List.mem_append.1 hx with hx | hx
    · exact hk8 x hx
    · exact hb8 x hx
  have hkbl : Hid (kb.length + tway ks ≤ 900000) := by show _ ≤ _; rw [hkbe, List.length_append]; omega
  have hv := Lib.hid (And.intro hv0 hv1)
  clear h hKs hk0 hb8 hv0 hv1 hE hk8 hway hT htot hS hf hQ hkbe
  go_enter Try.func172, Try.ntmps172
  go_wp2_with (first
    | (go_at_call 18; refine (hn0.out _ B3.out).mono ?_; rintro e w4 ⟨rfl, z1⟩; have E4 := Lib.hid (E3.out.below HS.out z1); have Y4 := Lib.hid (Y3.out.trans (Ext.of_below z1)); clear z1)
    | (go_at_call 176; refine (HF.out _ _ _ _ _ _ _ _ _ _ _ _ _ _ E2.out.st hNX.out hSl.out (by have := hkbl.out; omega) hv.out.1 hv.out.2 E2.out.since hLl.out).mono ?_; rintro e w3 ⟨rfl, F3, s3, m3, f3⟩
       obtain ⟨q1, q2⟩ := E2.out.told HS.out s3 m3 f3
       have E3 := Lib.hid q1
       have Y3 := Lib.hid q2
       have B3 := Lib.hid q1.since
       clear s3 m3 f3 q1 q2)
    | (at_builtin; go_loud (refine wpList_append_way (v := v) rfl (.tmp 10) (.tmp 12) rfl rfl E1.out.way ⟨X.heap.size, 0, none⟩ bs.length bs.length bs rfl rfl hnews.out hkl.out hbl.out ?_); intro v2 w2 bo2 cap2 HW HG HM HK
       obtain ⟨q1, q2⟩ := E1.out.app HS.out HW.out HG.out HM.out
       rw [← HKe.out] at q1
       have E2 := Lib.hid q1
       have hNX := Lib.hid (HN.out.below q1.since)
       obtain ⟨a2, hv2, sl2⟩ := q1.way.sl hkb.out
       subst hv2
       have hSl := Lib.hid sl2
       have cbf := q1.xf
       clear q1 q2 sl2 HW)
    | (go_at_call 32; refine hPart.out.mono ?_; rintro e w1 ⟨rfl, s1, b1⟩
       have E1 := Lib.hid (HE.out.below HS.out b1)
       have B1 := Lib.hid b1
       have hnews := Lib.hid (sl_news s1 (Below.refl _ w1))
       clear s1 b1))
  have E4' := E4
  have Y4' := Y4
  clear E4 Y4 Y3 E3 E2 B3 hNX hSl cbf hnews hn0 hPart hLl hbl
  go_loopw [6, 7] (fun v6 v7 wr => ∃ (F1 : Nat → Prop) (L1 : PL) (r : Tr) (A lr : KV), v6 = .int .u8 (hdB lr : Nat) ∧ v7 = hdK lr ∧ Hid (EaS S w bf bd (.func (.func 176) #[] #[.pointer (some ⟨m, 0, none⟩)]) (eachF bf bd) (.slice a2 kb.length cap2) kb bo2 cap2 F1 L1 wr) ∧ Hid (Ext bo2 F w2 wr F1) ∧ Hid (Kids Q kk ks r A lr) ∧ Hid (L1 ++ pre kb (tl r) = T) ∧ Hid (tdep r ≤ N ∧ kb.length + tway r ≤ 900000)) (fun v6 v7 _ => match v7 with | .pointer none => 0 | _ => 256 - (intOf v6).toNat)
  case atStart => exact ⟨F3, _, ks, [], kk, rfl, rfl, E4', Y4', hKs0, hT2, hdp, hkbl.out⟩
  case round =>
    clear E4' Y4' hKs0 hT2 hkbl
    obtain ⟨F1, L1, r, A, lr, rfl, rfl, hE, hY, hKd, hL, hdr⟩ := hrel
    by_cases hl : lr = []
    · subst hl
      obtain rfl := hKd.out.done
      rw [show hdK ([] : KV) = .pointer none from rfl]
      go_wp2_with fail
      go_end0
      have e := hL.out
      simp only [tl, pre_nil, List.append_nil] at e
      have q := hE.out
      rw [HKe.out, e] at q
      obtain ⟨q1, q2⟩ := E1.out.back HS.out HG.out HM.out HK.out q hY.out
      exact ⟨rfl, F1, q1, (Ext.of_below B1.out).trans q2⟩
    · obtain ⟨b, t, r', x, lr', rfl, rfl, hb1, hx1, hb256, ⟨kn, rfl⟩, hTV, hIN, hOk, hnext, hkn⟩ := hKd.out.next hl
      rw [hb1, hx1]
      obtain ⟨kb2, hkb2⟩ : ∃ kb2, kb2 = kb ++ [b] := ⟨_, rfl⟩
      have HK2 := Lib.hid hkb2
      have hL2 : Hid (L1 ++ pre kb2 (tl t) ++ pre kb (tl r') = T) := by show _ = _; rw [← hL.out, hkb2]; simp [tl, pre_append, pre_pre]
      have hLl : Hid (L1.length + (tl t).length ≤ 2000) := by
        have := congrArg List.length hL2.out
        have := HT.out
        simp only [List.length_append, pre_length] at *
        show _ ≤ _
        omega
      have hdr1 := hdr.out.1
      have hdr2 := hdr.out.2
      simp only [tdep] at hdr1
      simp only [tway] at hdr2
      have hTI : TreeIn Q 0 t (.pointer (some ⟨kn, 0, none⟩)) [] := by
        rcases hTV with ⟨_, e⟩ | ⟨_, e⟩
        · cases e
        · exact e
      have hk2 : Hid (∀ x ∈ kb2, x < 256) := fun x hx => by
        rw [hkb2] at hx
        rcases List.mem_append.1 hx with hx | hx
        · exact hkb.out x hx
        · obtain rfl := List.mem_singleton.1 hx; exact hb256
      have hRec : Hid (∀ w8 v8 bo8 cap8, EaS S w bf bd (.func (.func 176) #[] #[.pointer (some ⟨m, 0, none⟩)]) (eachF bf bd) v8 kb2 bo8 cap8 F1 L1 w8 → Calls Try.prog 172 #[v8, .pointer (some ⟨kn, 0, none⟩), .pointer (some ⟨bf, 0, none⟩), .pointer (some ⟨bd, 0, none⟩)] w8 fun e X' => e = .returned (.tuple #[]) ∧ ∃ F', EaS S w bf bd (.func (.func 176) #[] #[.pointer (some ⟨m, 0, none⟩)]) (eachF bf bd) v8 kb2 bo8 cap8 F' (L1 ++ pre kb2 (tl t)) X' ∧ Ext bo8 F1 w8 X' F') := fun w8 v8 bo8 cap8 q =>
        IH t (by omega) HQ.out hTI hIN hOk q hk2.out (by rw [hkb2, List.length_append, List.length_singleton]; omega) hLl.out
      have hN2 : Hid (∀ wr', Below w.heap.size w wr' → Calls Try.prog 18 #[.pointer (some ⟨n, 0, none⟩), .int .i64 ((b + 1 : Nat) : Int)] wr' fun e w' => e = .returned (.tuple #[.int .u8 (hdB lr' : Nat), hdK lr']) ∧ Below wr'.heap.size wr' w') := fun wr' hb' => by
        have := HN.out.next wr' ((b + 1 : Nat) : Int) hb' (by omega) (by omega)
        rw [show (((b + 1 : Nat) : Int)) = (b : Int) + 1 by omega, hkn, stepV_head] at this
        exact this
      have hK2 := Lib.hid hnext
      have hwb : IntKind.i64.wrap ((b : Int) + 1) = ((b + 1 : Nat) : Int) := by rw [show (b : Int) + 1 = ((b + 1 : Nat) : Int) by omega]; exact IntWalk.i64_in _ (by omega)
      have hwc : IntKind.i64.wrap (b : Int) = (b : Int) := IntWalk.i64_in _ (by omega)
      have hms : Hid (∀ p ∈ lr', b < p.1 ∧ p.1 < 256) := kids_rest hnext
      have hdr3 : Hid (tdep r' ≤ N ∧ kb.length + tway r' ≤ 900000) := And.intro (by omega) (by omega)
      have hkbL : Hid (kb.length ≤ 1000000) := by show _ ≤ _; omega
      have hAd : Hid (Below wr.heap.size wr (wr.alloc (.cells #[.int .u8 (b : Nat)] 5)).drew) := ((Below.refl _ wr).alloc (Nat.le_refl _) _).drew
      have hEA := Lib.hid (hE.out.below HS.out hAd.out)
      have hnews : Hid (∀ j u, (bV [b])[j]? = some u → (wr.alloc (.cells #[.int .u8 (b : Nat)] 5)).drew.cell? ((⟨wr.heap.size, 0, none⟩ : Addr).add j) = some u) := news_alloc wr [.int .u8 (b : Nat)] 5
      have cd0 := hE.out.xd
      have cdA : ∀ o, (wr.alloc o).cell? ⟨bd, 0, none⟩ = some (eachF bf bd) := fun o => (hE.out.below HS.out ((Below.refl _ wr).alloc (Nat.le_refl _) o)).xd
      unfold eachF at cd0 cdA
      clear hTV hTI hIN hOk hnext hkn hKd hl hb1 hx1 hdr hdr1 hdr2 hL hkb2
      go_wp2_with fail
      go_region_law (first
        | (refine step_append_way (v := .slice a2 kb.length cap2) rfl (.tmp 34) (.tmp 36) rfl rfl hEA.out.way ⟨wr.heap.size, 0, none⟩ 1 1 [b] rfl rfl hnews.out hkbL.out h1m.out ?_; intro v8 w8 bo8 cap8 HW8 HG8 HM8 HK8
           obtain ⟨q1, q2⟩ := hEA.out.app HS.out HW8.out HG8.out HM8.out
           rw [← HK2.out] at q1
           have E8 := Lib.hid q1
           have cd8 := q1.xd
           unfold eachF at cd8
           clear q1 q2)
        | (go_simp; go_at_call 172; refine (hRec.out _ _ _ _ E8.out).mono ?_; rintro e w9 ⟨rfl, F9, q9, y9⟩
           have E9 := Lib.hid (hEA.out.back HS.out HG8.out HM8.out HK8.out (by rw [← HK2.out]; exact q9) y9)
           clear q9 y9))
      all_goals
        go_wp2_with (go_at_call 18; refine (hN2.out _ E9.out.1.since).mono ?_; rintro e w10 ⟨rfl, z1⟩; have E10 := Lib.hid (E9.out.1.below HS.out z1); have Y10 := Lib.hid (hY.out.trans ((Ext.of_below hAd.out).trans (E9.out.2.trans (Ext.of_below z1)))); clear z1)
        go_roundw
        case rel => exact ⟨F9, _, r', A ++ [(b, .pointer (some ⟨kn, 0, none⟩))], lr', rfl, rfl, E10, Y10, hK2, hL2, hdr3⟩
        case measure =>
          cases lr' with
          | nil => simp [hdK, hdB, intOf]; omega
          | cons y l => have := hms.out y (by simp); simp [hdK, hdB, intOf]; split <;> omega

set_option maxHeartbeats 4000000 in
set_option maxRecDepth 100000 in
theorem each1_ls {S : (Nat → Prop) → PL → World → Prop} {w : World} {m : Nat} (hS : CbT S w.heap.size) (hf : CbTree S w (115) m) (N : Nat) (IH : EachAsk S w (.func (.func 115) #[] #[.pointer (some ⟨m, 0, none⟩)]) N)
    {w0 X : World} {Q : List NP} (hQ : StoreP NoB w0 w Q) {n : Nat} {bs : List Nat} {val : Int} {has leaf : Bool} {mm : Nat} {kk : KV} {ks : Tr} (h : NodeW w n bs val has leaf mm kk) (hKs : Kids Q kk ks ks [] kk) (hk0 : knxt kk 0 = kk.head?) (hdp : tdep ks ≤ N) (hb8 : ∀ x ∈ bs, x < 256) (hv0 : 0 ≤ val) (hv1 : val < 18446744073709551616)
    {v : Value} {k : List Nat} {bo : Option Nat} {cap : Nat} {F : Nat → Prop} {L : PL} {bf bd : Nat} (hE : EaS S w bf bd (.func (.func 115) #[] #[.pointer (some ⟨m, 0, none⟩)]) (eachF bf bd) v k bo cap F L X) (hk8 : ∀ x ∈ k, x < 256) (hway : k.length + (bs.length + tway ks) ≤ 900000) {T : PL} (hT : T = L ++ (if has then [(k ++ bs, val)] else []) ++ pre (k ++ bs) (tl ks)) (htot : T.length ≤ 2000) :
    Calls Try.prog 172 #[v, .pointer (some ⟨n, 0, none⟩), .pointer (some ⟨bf, 0, none⟩), .pointer (some ⟨bd, 0, none⟩)] X fun e X' => e = .returned (.tuple #[]) ∧ ∃ F', EaS S w bf bd (.func (.func 115) #[] #[.pointer (some ⟨m, 0, none⟩)]) (eachF bf bd) v k bo cap F' T X' ∧ Ext bo F X X' F' := by
  have hPart := Lib.hid (h.part X hE.since)
  have HN := Lib.hid h
  have HS := Lib.hid hS
  have HF := Lib.hid hf
  have HQ := Lib.hid hQ
  have HE := Lib.hid hE
  have hn0 : Hid (∀ X, Below w.heap.size w X → Calls Try.prog 18 #[.pointer (some ⟨n, 0, none⟩), .int .i64 0] X fun e w' => e = .returned (.tuple #[.int .u8 (hdB kk : Nat), hdK kk]) ∧ Below X.heap.size X w') := fun X hX => by
    have := h.next X 0 hX (by omega) (by omega)
    rw [hk0, stepV_head] at this
    exact this
  obtain ⟨kb, hkbe⟩ : ∃ kb, kb = k ++ bs := ⟨_, rfl⟩
  have HKe := Lib.hid hkbe
  have hT2 : Hid ((L ++ if has then [(kb, val)] else []) ++ pre kb (tl ks) = T) := by rw [hkbe]; exact hT.symm
  have hLl : Hid (L.length ≤ 2000) := by show _ ≤ _; have := congrArg List.length hT; simp only [List.length_append] at this; omega
  have HT := Lib.hid htot
  have hKs0 := Lib.hid hKs
  have hkl : Hid (k.length ≤ 1000000) := by show _ ≤ _; omega
  have hbl : Hid (bs.length ≤ 1000000) := by show _ ≤ _; omega
  have h1m : Hid (1 ≤ 1000000) := by show _ ≤ _; omega
  have hkb : Hid (∀ x ∈ kb, x < 256) := fun x hx => by
    rw [hkbe] at hx
    rcases List.mem_append.1 hx with hx | hx
    · exact hk8 x hx
    · exact hb8 x hx
  have hkbl : Hid (kb.length + tway ks ≤ 900000) := by show _ ≤ _; rw [hkbe, List.length_append]; omega
  have hv := Lib.hid (And.intro hv0 hv1)
  clear h hKs hk0 hb8 hv0 hv1 hE hk8 hway hT htot hS hf hQ hkbe
  go_enter Try.func172, Try.ntmps172
  go_wp2_with (first
    | (go_at_call 18; refine (hn0.out _ B3.out).mono ?_; rintro e w4 ⟨rfl, z1⟩; have E4 := Lib.hid (E3.out.below HS.out z1); have Y4 := Lib.hid (Y3.out.trans (Ext.of_below z1)); clear z1)
    | (go_at_call 115; refine (HF.out _ _ _ _ _ _ _ _ _ _ _ _ _ _ E2.out.st hNX.out hSl.out (by have := hkbl.out; omega) hv.out.1 hv.out.2 E2.out.since hLl.out).mono ?_; rintro e w3 ⟨rfl, F3, s3, m3, f3⟩
       obtain ⟨q1, q2⟩ := E2.out.told HS.out s3 m3 f3
       have E3 := Lib.hid q1
       have Y3 := Lib.hid q2
       have B3 := Lib.hid q1.since
       clear s3 m3 f3 q1 q2)
    | (at_builtin; go_loud (refine wpList_append_way (v := v) rfl (.tmp 10) (.tmp 12) rfl rfl E1.out.way ⟨X.heap.size, 0, none⟩ bs.length bs.length bs rfl rfl hnews.out hkl.out hbl.out ?_); intro v2 w2 bo2 cap2 HW HG HM HK
       obtain ⟨q1, q2⟩ := E1.out.app HS.out HW.out HG.out HM.out
       rw [← HKe.out] at q1
       have E2 := Lib.hid q1
       have hNX := Lib.hid (HN.out.below q1.since)
       obtain ⟨a2, hv2, sl2⟩ := q1.way.sl hkb.out
       subst hv2
       have hSl := Lib.hid sl2
       have cbf := q1.xf
       clear q1 q2 sl2 HW)
    | (go_at_call 32; refine hPart.out.mono ?_; rintro e w1 ⟨rfl, s1, b1⟩
       have E1 := Lib.hid (HE.out.below HS.out b1)
       have B1 := Lib.hid b1
       have hnews := Lib.hid (sl_news s1 (Below.refl _ w1))
       clear s1 b1))
  have E4' := E4
  have Y4' := Y4
  clear E4 Y4 Y3 E3 E2 B3 hNX hSl cbf hnews hn0 hPart hLl hbl
  go_loopw [6, 7] (fun v6 v7 wr => ∃ (F1 : Nat → Prop) (L1 : PL) (r : Tr) (A lr : KV), v6 = .int .u8 (hdB lr : Nat) ∧ v7 = hdK lr ∧ Hid (EaS S w bf bd (.func (.func 115) #[] #[.pointer (some ⟨m, 0, none⟩)]) (eachF bf bd) (.slice a2 kb.length cap2) kb bo2 cap2 F1 L1 wr) ∧ Hid (Ext bo2 F w2 wr F1) ∧ Hid (Kids Q kk ks r A lr) ∧ Hid (L1 ++ pre kb (tl r) = T) ∧ Hid (tdep r ≤ N ∧ kb.length + tway r ≤ 900000)) (fun v6 v7 _ => match v7 with | .pointer none => 0 | _ => 256 - (intOf v6).toNat)
  case atStart => exact ⟨F3, _, ks, [], kk, rfl, rfl, E4', Y4', hKs0, hT2, hdp, hkbl.out⟩
  case round =>
    clear E4' Y4' hKs0 hT2 hkbl
    obtain ⟨F1, L1, r, A, lr, rfl, rfl, hE, hY, hKd, hL, hdr⟩ := hrel
    by_cases hl : lr = []
    · subst hl
      obtain rfl := hKd.out.done
      rw [show hdK ([] : KV) = .pointer none from rfl]
      go_wp2_with fail
      go_end0
      have e := hL.out
      simp only [tl, pre_nil, List.append_nil] at e
      have q := hE.out
      rw [HKe.out, e] at q
      obtain ⟨q1, q2⟩ := E1.out.back HS.out HG.out HM.out HK.out q hY.out
      exact ⟨rfl, F1, q1, (Ext.of_below B1.out).trans q2⟩
    · obtain ⟨b, t, r', x, lr', rfl, rfl, hb1, hx1, hb256, ⟨kn, rfl⟩, hTV, hIN, hOk, hnext, hkn⟩ := hKd.out.next hl
      rw [hb1, hx1]
      obtain ⟨kb2, hkb2⟩ : ∃ kb2, kb2 = kb ++ [b] := ⟨_, rfl⟩
      have HK2 := Lib.hid hkb2
      have hL2 : Hid (L1 ++ pre kb2 (tl t) ++ pre kb (tl r') = T) := by show _ = _; rw [← hL.out, hkb2]; simp [tl, pre_append, pre_pre]
      have hLl : Hid (L1.length + (tl t).length ≤ 2000) := by
        have := congrArg List.length hL2.out
        have := HT.out
        simp only [List.length_append, pre_length] at *
        show _ ≤ _
        omega
      have hdr1 := hdr.out.1
      have hdr2 := hdr.out.2
      simp only [tdep] at hdr1
      simp only [tway] at hdr2
      have hTI : TreeIn Q 0 t (.pointer (some ⟨kn, 0, none⟩)) [] := by
        rcases hTV with ⟨_, e⟩ | ⟨_, e⟩
        · cases e
        · exact e
      have hk2 : Hid (∀ x ∈ kb2, x < 256) := fun x hx => by
        rw [hkb2] at hx
        rcases List.mem_append.1 hx with hx | hx
        · exact hkb.out x hx
        · obtain rfl := List.mem_singleton.1 hx; exact hb256
      have hRec : Hid (∀ w8 v8 bo8 cap8, EaS S w bf bd (.func (.func 115) #[] #[.pointer (some ⟨m, 0, none⟩)]) (eachF bf bd) v8 kb2 bo8 cap8 F1 L1 w8 → Calls Try.prog 172 #[v8, .pointer (some ⟨kn, 0, none⟩), .pointer (some ⟨bf, 0, none⟩), .pointer (some ⟨bd, 0, none⟩)] w8 fun e X' => e = .returned (.tuple #[]) ∧ ∃ F', EaS S w bf bd (.func (.func 115) #[] #[.pointer (some ⟨m, 0, none⟩)]) (eachF bf bd) v8 kb2 bo8 cap8 F' (L1 ++ pre kb2 (tl t)) X' ∧ Ext bo8 F1 w8 X' F') := fun w8 v8 bo8 cap8 q =>
        IH t (by omega) HQ.out hTI hIN hOk q hk2.out (by rw [hkb2, List.length_append, List.length_singleton]; omega) hLl.out
      have hN2 : Hid (∀ wr', Below w.heap.size w wr' → Calls Try.prog 18 #[.pointer (some ⟨n, 0, none⟩), .int .i64 ((b + 1 : Nat) : Int)] wr' fun e w' => e = .returned (.tuple #[.int .u8 (hdB lr' : Nat), hdK lr']) ∧ Below wr'.heap.size wr' w') := fun wr' hb' => by
        have := HN.out.next wr' ((b + 1 : Nat) : Int) hb' (by omega) (by omega)
        rw [show (((b + 1 : Nat) : Int)) = (b : Int) + 1 by omega, hkn, stepV_head] at this
        exact this
      have hK2 := Lib.hid hnext
      have hwb : IntKind.i64.wrap ((b : Int) + 1) = ((b + 1 : Nat) : Int) := by rw [show (b : Int) + 1 = ((b + 1 : Nat) : Int) by omega]; exact IntWalk.i64_in _ (by omega)
      have hwc : IntKind.i64.wrap (b : Int) = (b : Int) := IntWalk.i64_in _ (by omega)
      have hms : Hid (∀ p ∈ lr', b < p.1 ∧ p.1 < 256) := kids_rest hnext
      have hdr3 : Hid (tdep r' ≤ N ∧ kb.length + tway r' ≤ 900000) := And.intro (by omega) (by omega)
      have hkbL : Hid (kb.length ≤ 1000000) := by show _ ≤ _; omega
      have hAd : Hid (Below wr.heap.size wr (wr.alloc (.cells #[.int .u8 (b : Nat)] 5)).drew) := ((Below.refl _ wr).alloc (Nat.le_refl _) _).drew
      have hEA := Lib.hid (hE.out.below HS.out hAd.out)
      have hnews : Hid (∀ j u, (bV [b])[j]? = some u → (wr.alloc (.cells #[.int .u8 (b : Nat)] 5)).drew.cell? ((⟨wr.heap.size, 0, none⟩ : Addr).add j) = some u) := news_alloc wr [.int .u8 (b : Nat)] 5
      have cd0 := hE.out.xd
      have cdA : ∀ o, (wr.alloc o).cell? ⟨bd, 0, none⟩ = some (eachF bf bd) := fun o => (hE.out.below HS.out ((Below.refl _ wr).alloc (Nat.le_refl _) o)).xd
      unfold eachF at cd0 cdA
      clear hTV hTI hIN hOk hnext hkn hKd hl hb1 hx1 hdr hdr1 hdr2 hL hkb2
      go_wp2_with fail
      go_region_law (first
        | (refine step_append_way (v := .slice a2 kb.length cap2) rfl (.tmp 34) (.tmp 36) rfl rfl hEA.out.way ⟨wr.heap.size, 0, none⟩ 1 1 [b] rfl rfl hnews.out hkbL.out h1m.out ?_; intro v8 w8 bo8 cap8 HW8 HG8 HM8 HK8
           obtain ⟨q1, q2⟩ := hEA.out.app HS.out HW8.out HG8.out HM8.out
           rw [← HK2.out] at q1
           have E8 := Lib.hid q1
           have cd8 := q1.xd
           unfold eachF at cd8
           clear q1 q2)
        | (go_simp; go_at_call 172; refine (hRec.out _ _ _ _ E8.out).mono ?_; rintro e w9 ⟨rfl, F9, q9, y9⟩
           have E9 := Lib.hid (hEA.out.back HS.out HG8.out HM8.out HK8.out (by rw [← HK2.out]; exact q9) y9)
           clear q9 y9))
      all_goals
        go_wp2_with (go_at_call 18; refine (hN2.out _ E9.out.1.since).mono ?_; rintro e w10 ⟨rfl, z1⟩; have E10 := Lib.hid (E9.out.1.below HS.out z1); have Y10 := Lib.hid (hY.out.trans ((Ext.of_below hAd.out).trans (E9.out.2.trans (Ext.of_below z1)))); clear z1)
        go_roundw
        case rel => exact ⟨F9, _, r', A ++ [(b, .pointer (some ⟨kn, 0, none⟩))], lr', rfl, rfl, E10, Y10, hK2, hL2, hdr3⟩
        case measure =>
          cases lr' with
          | nil => simp [hdK, hdB, intOf]; omega
          | cons y l => have := hms.out y (by simp); simp [hdK, hdB, intOf]; split <;> omega
end Go.Proofs.Ytkonbldjmcccmaa
/- canon.each at any tree, for each of its callbacks. -/
namespace Go.Proofs.Ytkonbldjmcccmaa
open Go.RowKit
theorem eachAny_cn {S : (Nat → Prop) → PL → World → Prop} {w : World} {m : Nat} (hS : CbT S w.heap.size) (hf : CbTree S w (176) m) : ∀ N, EachAsk S w (.func (.func 176) #[] #[.pointer (some ⟨m, 0, none⟩)]) N
  | 0 => fun t w0 Q p hd hQ hT hN hO => by
    cases t with
    | nil => exact hN.elim
    | kid => exact hN.elim
    | node => simp only [tdep] at hd; omega
  | N + 1 => fun t w0 Q p hd hQ hT hN hO X v k bo cap F L bf bd hE hk8 hway htot => by
    cases t with
    | nil => exact hN.elim
    | kid => exact hN.elim
    | node bs val has leaf ks =>
      simp only [tdep] at hd
      simp only [tway] at hway
      obtain ⟨n, kk, rfl, h1, h2, h3, _⟩ := nodew_of hQ hT hO
      obtain ⟨o1, o2, o3, _⟩ := hO
      refine each1_cn hS hf N (eachAny_cn hS hf N) hQ h1 h2 h3 (by omega) o1 o2 o3 hE hk8 hway (T := L ++ pre k (tl (.node bs val has leaf ks))) ?_ (by rw [List.length_append, pre_length]; exact htot)
      simp only [tl, pre_append, pre_pre, List.append_assoc]
      congr 2
      cases has <;> simp [pre]
theorem eachTop_cn {S : (Nat → Prop) → PL → World → Prop} {w w0 X : World} {m : Nat} (hS : CbT S w.heap.size) (hf : CbTree S w (176) m) {t : Tr} {Q : List NP} {p : Option Addr} (hQ : StoreP NoB w0 w Q) (hT : TreeV Q t (.pointer p)) (hO : TOk t) (hb : Below w.heap.size w X) {F : Nat → Prop} (hs : S F [] X) (hway : tway t ≤ 900000) (htot : (tl t).length ≤ 2000) :
    Calls Try.prog 114 #[.pointer p, .func (.func 176) #[] #[.pointer (some ⟨m, 0, none⟩)]] X fun e X' => e = .returned (.tuple #[]) ∧ ∃ F', S F' (tl t) X' ∧ Mod F X X' ∧ ∀ j, F' j → F j ∨ X.heap.size ≤ j := by
  obtain ⟨w1, hw1⟩ : ∃ w1, w1 = X.alloc (.cells #[.func (.func 176) #[] #[.pointer (some ⟨m, 0, none⟩)]] 128) := ⟨_, rfl⟩
  have hbx : w1.heap[X.heap.size]? = some (.cells [.func (.func 176) #[] #[.pointer (some ⟨m, 0, none⟩)]].toArray 128 (0, 0)) := by rw [hw1]; exact heap_alloc_new X _
  have hA1 : Below X.heap.size X w1 := by rw [hw1]; exact (Below.refl _ X).alloc (Nat.le_refl _) _
  have hs1 : w1.heap.size = X.heap.size + 1 := by rw [hw1, World.size_alloc]
  have hE : Hid (∀ t', Calls Try.prog 172 #[.slice none 0 0, .pointer p, .pointer (some ⟨X.heap.size, 0, none⟩), .pointer (some ⟨w1.heap.size, 0, none⟩)] (w1.alloc (.cells #[eachF X.heap.size w1.heap.size] t')) fun e X' => e = .returned (.tuple #[]) ∧ ∃ F', S F' (tl t) X' ∧ Mod F X X' ∧ ∀ j, F' j → F j ∨ X.heap.size ≤ j) := fun t' => by
    have hA2 : Below w1.heap.size w1 (w1.alloc (.cells #[eachF X.heap.size w1.heap.size] t')) := (Below.refl _ w1).alloc (Nat.le_refl _) _
    have hA : Below X.heap.size X (w1.alloc (.cells #[eachF X.heap.size w1.heap.size] t')) := hA1.trans (hA2.mono hA1.size)
    have hF : ∀ b, X.heap.size ≤ b → ¬ F b := fun b h q => by have := hS.high F [] X hs b q; omega
    rcases hT with ⟨rfl, e⟩ | ⟨hn, hT⟩
    · obtain rfl : p = none := by simpa using e
      refine (each1_nil _ _ _).mono ?_
      rintro e w' ⟨rfl, rfl⟩
      exact ⟨rfl, F, hS.keep F [] X _ hs fun j hj => hA.block j (hS.high F [] X hs j hj), Mod.of_below hA, fun j hj => Or.inl hj⟩
    · have hEA : EaS S w X.heap.size w1.heap.size (.func (.func 176) #[] #[.pointer (some ⟨m, 0, none⟩)]) (eachF X.heap.size w1.heap.size) (.slice none 0 0) [] none 0 F [] (w1.alloc (.cells #[eachF X.heap.size w1.heap.size] t')) := by
        refine ⟨hb.trans (hA.mono hb.size), WayAt.nil _, fun g e => (by cases e), hS.keep F [] X _ hs fun j hj => hA.block j (hS.high F [] X hs j hj), fun g e => (by cases e), ?_, ?_, ⟨hF _ (Nat.le_refl _), by simp⟩, ⟨hF _ (by omega), by simp⟩⟩
        · rw [cell_of_blk ((hA2.block _ (Array.getElem?_eq_some_iff.1 hbx).1).trans hbx)]; rfl
        · rw [cell_of_blk (c := [eachF X.heap.size w1.heap.size]) (t := t') (heap_alloc_new w1 _)]; rfl
      refine (eachAny_cn hS hf (tdep t) t (Nat.le_refl _) hQ hT hn hO hEA (by simp) (by simpa using hway) (by simpa using htot)).mono ?_
      rintro e X' ⟨rfl, F', q, q1, q2⟩
      have q3 := q.st
      simp only [List.nil_append, pre_none] at q3
      refine ⟨rfl, F', q3, (Mod.of_below hA).then q1 fun i _ r => ?_, fun j hj => ?_⟩
      · rcases r with r | r
        · cases r
        · exact r
      · rcases q2 j hj with r | r
        · exact Or.inl r
        · exact Or.inr (Nat.le_trans hA.size r)
  unfold eachF at hE
  generalize tl t = T at *
  clear hQ hb hT hO hbx hA1 hs1 hway htot hs hS hf
  go_enter Try.func114, Try.ntmps114
  go_upto_region 1 with fail
  rw [← hw1]
  clear hw1
  go_wp2_with (go_at_call 172; refine (hE.out _).mono ?_; rintro e w' ⟨rfl, q⟩; have q := Lib.hid q)
  go_end0
  exact ⟨rfl, q.out⟩

theorem eachAny_ls {S : (Nat → Prop) → PL → World → Prop} {w : World} {m : Nat} (hS : CbT S w.heap.size) (hf : CbTree S w (115) m) : ∀ N, EachAsk S w (.func (.func 115) #[] #[.pointer (some ⟨m, 0, none⟩)]) N
  | 0 => fun t w0 Q p hd hQ hT hN hO => by
    cases t with
    | nil => exact hN.elim
    | kid => exact hN.elim
    | node => simp only [tdep] at hd; omega
  | N + 1 => fun t w0 Q p hd hQ hT hN hO X v k bo cap F L bf bd hE hk8 hway htot => by
    cases t with
    | nil => exact hN.elim
    | kid => exact hN.elim
    | node bs val has leaf ks =>
      simp only [tdep] at hd
      simp only [tway] at hway
      obtain ⟨n, kk, rfl, h1, h2, h3, _⟩ := nodew_of hQ hT hO
      obtain ⟨o1, o2, o3, _⟩ := hO
      refine each1_ls hS hf N (eachAny_ls hS hf N) hQ h1 h2 h3 (by omega) o1 o2 o3 hE hk8 hway (T := L ++ pre k (tl (.node bs val has leaf ks))) ?_ (by rw [List.length_append, pre_length]; exact htot)
      simp only [tl, pre_append, pre_pre, List.append_assoc]
      congr 2
      cases has <;> simp [pre]
theorem eachTop_ls {S : (Nat → Prop) → PL → World → Prop} {w w0 X : World} {m : Nat} (hS : CbT S w.heap.size) (hf : CbTree S w (115) m) {t : Tr} {Q : List NP} {p : Option Addr} (hQ : StoreP NoB w0 w Q) (hT : TreeV Q t (.pointer p)) (hO : TOk t) (hb : Below w.heap.size w X) {F : Nat → Prop} (hs : S F [] X) (hway : tway t ≤ 900000) (htot : (tl t).length ≤ 2000) :
    Calls Try.prog 114 #[.pointer p, .func (.func 115) #[] #[.pointer (some ⟨m, 0, none⟩)]] X fun e X' => e = .returned (.tuple #[]) ∧ ∃ F', S F' (tl t) X' ∧ Mod F X X' ∧ ∀ j, F' j → F j ∨ X.heap.size ≤ j := by
  obtain ⟨w1, hw1⟩ : ∃ w1, w1 = X.alloc (.cells #[.func (.func 115) #[] #[.pointer (some ⟨m, 0, none⟩)]] 128) := ⟨_, rfl⟩
  have hbx : w1.heap[X.heap.size]? = some (.cells [.func (.func 115) #[] #[.pointer (some ⟨m, 0, none⟩)]].toArray 128 (0, 0)) := by rw [hw1]; exact heap_alloc_new X _
  have hA1 : Below X.heap.size X w1 := by rw [hw1]; exact (Below.refl _ X).alloc (Nat.le_refl _) _
  have hs1 : w1.heap.size = X.heap.size + 1 := by rw [hw1, World.size_alloc]
  have hE : Hid (∀ t', Calls Try.prog 172 #[.slice none 0 0, .pointer p, .pointer (some ⟨X.heap.size, 0, none⟩), .pointer (some ⟨w1.heap.size, 0, none⟩)] (w1.alloc (.cells #[eachF X.heap.size w1.heap.size] t')) fun e X' => e = .returned (.tuple #[]) ∧ ∃ F', S F' (tl t) X' ∧ Mod F X X' ∧ ∀ j, F' j → F j ∨ X.heap.size ≤ j) := fun t' => by
    have hA2 : Below w1.heap.size w1 (w1.alloc (.cells #[eachF X.heap.size w1.heap.size] t')) := (Below.refl _ w1).alloc (Nat.le_refl _) _
    have hA : Below X.heap.size X (w1.alloc (.cells #[eachF X.heap.size w1.heap.size] t')) := hA1.trans (hA2.mono hA1.size)
    have hF : ∀ b, X.heap.size ≤ b → ¬ F b := fun b h q => by have := hS.high F [] X hs b q; omega
    rcases hT with ⟨rfl, e⟩ | ⟨hn, hT⟩
    · obtain rfl : p = none := by simpa using e
      refine (each1_nil _ _ _).mono ?_
      rintro e w' ⟨rfl, rfl⟩
      exact ⟨rfl, F, hS.keep F [] X _ hs fun j hj => hA.block j (hS.high F [] X hs j hj), Mod.of_below hA, fun j hj => Or.inl hj⟩
    · have hEA : EaS S w X.heap.size w1.heap.size (.func (.func 115) #[] #[.pointer (some ⟨m, 0, none⟩)]) (eachF X.heap.size w1.heap.size) (.slice none 0 0) [] none 0 F [] (w1.alloc (.cells #[eachF X.heap.size w1.heap.size] t')) := by
        refine ⟨hb.trans (hA.mono hb.size), WayAt.nil _, fun g e => (by cases e), hS.keep F [] X _ hs fun j hj => hA.block j (hS.high F [] X hs j hj), fun g e => (by cases e), ?_, ?_, ⟨hF _ (Nat.le_refl _), by simp⟩, ⟨hF _ (by omega), by simp⟩⟩
        · rw [cell_of_blk ((hA2.block _ (Array.getElem?_eq_some_iff.1 hbx).1).trans hbx)]; rfl
        · rw [cell_of_blk (c := [eachF X.heap.size w1.heap.size]) (t := t') (heap_alloc_new w1 _)]; rfl
      refine (eachAny_ls hS hf (tdep t) t (Nat.le_refl _) hQ hT hn hO hEA (by simp) (by simpa using hway) (by simpa using htot)).mono ?_
      rintro e X' ⟨rfl, F', q, q1, q2⟩
      have q3 := q.st
      simp only [List.nil_append, pre_none] at q3
      refine ⟨rfl, F', q3, (Mod.of_below hA).then q1 fun i _ r => ?_, fun j hj => ?_⟩
      · rcases r with r | r
        · cases r
        · exact r
      · rcases q2 j hj with r | r
        · exact Or.inl r
        · exact Or.inr (Nat.le_trans hA.size r)
  unfold eachF at hE
  generalize tl t = T at *
  clear hQ hb hT hO hbx hA1 hs1 hway htot hs hS hf
  go_enter Try.func114, Try.ntmps114
  go_upto_region 1 with fail
  rw [← hw1]
  clear hw1
  go_wp2_with (go_at_call 172; refine (hE.out _).mono ?_; rintro e w' ⟨rfl, q⟩; have q := Lib.hid q)
  go_end0
  exact ⟨rfl, q.out⟩
end Go.Proofs.Ytkonbldjmcccmaa
/- canon.List and canon.Count. -/
namespace Go.Proofs.Ytkonbldjmcccmaa
open Go.RowKit
/-! Count. -/
def SCnt (lo m : Nat) (F : Nat → Prop) (L : PL) (w : World) : Prop := w.heap[m]? = some (.cells [.int .i64 (L.length : Nat)].toArray 3 (0, 0)) ∧ (F = fun j => j = m) ∧ lo ≤ m
theorem scn_cb (lo m : Nat) : CbT (SCnt lo m) lo := by
  refine ⟨fun F L w w' ⟨h1, h2, h3⟩ hk => ⟨(hk m (by rw [h2])).trans h1, h2, h3⟩, fun F L w ⟨h1, h2, h3⟩ j hj => ?_, fun F L w ⟨h1, h2, h3⟩ j hj => ?_⟩
  · subst h2; have hj : j = m := hj; rw [hj]; exact h3
  · subst h2; have hj : j = m := hj; rw [hj]; exact (Array.getElem?_eq_some_iff.1 h1).1
theorem count_cbt (w : World) (m : Nat) : CbTree (SCnt w.heap.size m) w (176) m := fun F L X n bs val has leaf mm kk a nn c key ⟨h1, h2, h3⟩ hN hK hn hv0 hv1 hb hL => by
  have hV := Lib.hid (hN.val X (Below.refl _ _))
  have hc : X.cell? ⟨m, 0, none⟩ = some (.int .i64 (L.length : Nat)) := by rw [cell_of_blk h1]; rfl
  have hf := frozen_of_blk h1 0
  have hw : IntKind.i64.wrap ((L.length : Int) + 1) = (L.length : Int) + 1 := IntWalk.i64_in _ (by omega)
  have hE : Hid (∃ F', SCnt w.heap.size m F' (L ++ [(key, val)]) (X.setCell ⟨m, 0, none⟩ (.int .i64 ((L.length : Int) + 1))) ∧ Mod F X (X.setCell ⟨m, 0, none⟩ (.int .i64 ((L.length : Int) + 1))) ∧ ∀ j, F' j → F j ∨ X.heap.size ≤ j) := by
    refine ⟨F, ⟨?_, h2, h3⟩, (Mod.refl _ X).setCell ⟨m, 0, none⟩ _ (fun _ => by rw [h2]), fun j hj => Or.inl hj⟩
    rw [setCell_list _ _ _ _ _ _ h1, setRow_heap _ _ _ _ _ _ h1]
    simp
  have hE0 : Hid (∃ F', SCnt w.heap.size m F' L X ∧ Mod F X X ∧ ∀ j, F' j → F j ∨ X.heap.size ≤ j) := ⟨F, ⟨h1, h2, h3⟩, Mod.refl _ _, fun j hj => Or.inl hj⟩
  generalize L.length = ll at *
  clear h1 h2 h3 hN hK hb
  cases has
  · go_enter Try.func176, Try.ntmps176
    go_wp2_with (go_at_call 17; refine hV.out.mono ?_; rintro e w' ⟨rfl, rfl⟩)
    go_end0
    exact ⟨rfl, hE0.out⟩
  · go_enter Try.func176, Try.ntmps176
    go_wp2_with (go_at_call 17; refine hV.out.mono ?_; rintro e w' ⟨rfl, rfl⟩)
    go_end0
    exact ⟨rfl, hE.out⟩
set_option maxHeartbeats 1000000 in
theorem count_any {w0 w : World} {Q : List NP} {t : Tr} {p : Option Addr} (hQ : StoreP NoB w0 w Q) (hT : TreeV Q t (.pointer p)) (hO : TOk t) (hway : tway t ≤ 900000) (htot : (tl t).length ≤ 2000) : Calls Try.prog 125 #[.pointer p] w (belowPost (.int .i64 ((tl t).length : Nat)) w) := by
  have hA : Below w.heap.size w (w.alloc (.cells #[.int .i64 0] 3)) := (Below.refl _ w).alloc (Nat.le_refl _) _
  have hE := Lib.hid (eachTop_cn (scn_cb w.heap.size w.heap.size) (count_cbt w w.heap.size) hQ hT hO hA (F := fun j => j = w.heap.size) ⟨heap_alloc_new w _, rfl, Nat.le_refl _⟩ hway htot)
  have HA := Lib.hid hA
  generalize tl t = T at *
  clear hQ hT hO hA
  go_enter Try.func125, Try.ntmps125
  go_wp2_with (go_at_call 114; refine hE.out.mono ?_; rintro e w2 ⟨rfl, F2, ⟨z1, z2, z3⟩, m2, _⟩
               have c2 : w2.cell? ⟨w.heap.size, 0, none⟩ = some (.int .i64 (T.length : Nat)) := (by rw [cell_of_blk z1]; rfl)
               have B2 := Lib.hid (HA.out.trans (m2.belowLo (fun j hj => (by have hj : j = w.heap.size := hj; rw [hj]; exact Nat.le_refl _)) HA.out.size))
               clear z1 z2 z3 m2)
  go_ret
  exact ⟨rfl, B2.out⟩
/-! List. -/
/-- what List's callback holds -/
structure SLs (lo bl : Nat) (F : Nat → Prop) (L : PL) (w : World) (v : Value) (es : EL) (bo : Option Nat) : Prop where
  var : w.heap[bl]? = some (.cells [v].toArray 68 (0, 0))
  own : OwnS 2 apT w v L.length (flat es) bo
  ents : Ents w es L
  fl : F bl
  fo : ∀ g, bo = some g → F g ∧ g ≠ bl
  fe : ∀ i (h : i < es.length) (p : Addr) n c, (es[i]).1 = .slice (some p) n c → F p.block ∧ p.block ≠ bl ∧ bo ≠ some p.block
  low : ∀ j, F j → lo ≤ j
  high : ∀ j, F j → j < w.heap.size
def SLst (lo bl : Nat) (F : Nat → Prop) (L : PL) (w : World) : Prop := ∃ v es bo, SLs lo bl F L w v es bo
theorem sls_cb (lo bl : Nat) : CbT (SLst lo bl) lo := by
  refine ⟨fun F L w w' ⟨v, es, bo, h⟩ hk => ?_, fun F L w ⟨v, es, bo, h⟩ j hj => h.low j hj, fun F L w ⟨v, es, bo, h⟩ j hj => h.high j hj⟩
  refine ⟨v, es, bo, (hk bl h.fl).trans h.var, h.own.keep fun g e => hk g (h.fo g e).1, ⟨h.ents.1, fun i h1 h2 => ?_⟩, h.fl, h.fo, h.fe, h.low, fun j hj => ?_⟩
  · obtain ⟨⟨a, n, c, e, q⟩, r⟩ := h.ents.2 i h1 h2
    refine ⟨⟨a, n, c, e, q.len, ⟨q.at_.1, fun j hj => ?_⟩, q.cap, q.capm, q.nil⟩, r⟩
    obtain ⟨p, ep, z1, z2⟩ := q.at_.2 j hj
    subst ep
    have hF := (h.fe i h1 p n c e).1
    have e1 := hk p.block hF
    refine ⟨p, rfl, ?_, ?_⟩
    · rw [add_block] at z1 ⊢
      have : w'.heap[p.block]? = some _ := e1.trans (Array.getElem?_eq_getElem z1)
      exact (Array.getElem?_eq_some_iff.1 this).1
    · rw [← z2]
      unfold World.cell?
      rw [add_block, e1]
  · have e1 := hk j hj
    have : w'.heap[j]? = some _ := e1.trans (Array.getElem?_eq_getElem (h.high j hj))
    exact (Array.getElem?_eq_some_iff.1 this).1
/-- one more -/
theorem SLs.step {lo bl : Nat} {F : Nat → Prop} {L : PL} {w wc w1 w2 w3 : World} {v v2 : Value} {es : EL} {bo bo2 : Option Nat} (h : SLs lo bl F L w v es bo) (hlo : lo ≤ w.heap.size) {x : List Nat} {y : Int} {a6 : Option Addr} {n6 c6 : Nat}
    (hb1 : Below w.heap.size w wc) (hs : Sl wc a6 n6 c6 x) (hn : ∀ p : Addr, a6 = some p → w.heap.size ≤ p.block ∧ p.block < wc.heap.size) (hy : 0 ≤ y ∧ y < 18446744073709551616) (hb2 : Below wc.heap.size wc w1)
    (ho : OwnS 2 apT w2 v2 (L.length + 1) (flat es ++ [.slice a6 n6 c6, .int .u64 y]) bo2) (hm : Mod (fun j => bo = some j) w1 w2) (hn2 : NewOr w1 bo bo2) (h3 : w3 = w2.setCell ⟨bl, 0, none⟩ v2) :
    ∃ F', SLst lo bl F' (L ++ [(x, y)]) w3 ∧ Mod F w w3 ∧ ∀ j, F' j → F j ∨ w.heap.size ≤ j := by
  have s1 := hb1.size
  have s2 := hb2.size
  have s3 := hm.size
  have hbl := h.high bl h.fl
  have hB : Below w.heap.size w w1 := hb1.trans (hb2.mono s1)
  have hv : w2.heap[bl]? = some (.cells [v].toArray 68 (0, 0)) := (hm.same bl (by omega) (fun e => (h.fo bl e).2 rfl)).trans ((hB.block bl hbl).trans h.var)
  have hM2 : Mod F w w2 := (Mod.of_below hB).trans (hm.mono fun j _ e => (h.fo j e).1)
  have hM3 : Mod F w w3 := by rw [h3]; exact hM2.setCell ⟨bl, 0, none⟩ _ (fun _ => h.fl)
  have s4 : w3.heap.size = w2.heap.size := by rw [h3]; simp [World.setCell]
  have hbo2 : ∀ g, bo2 = some g → (F g ∨ w.heap.size ≤ g) ∧ g ≠ bl ∧ g < w2.heap.size := fun g e => by
    subst e
    refine ⟨?_, ?_, ho.lt⟩
    · rcases hn2 with e | ⟨g', e, hg⟩
      · exact Or.inl (h.fo g e.symm).1
      · cases e; exact Or.inr (by omega)
    · rcases hn2 with e | ⟨g', e, hg⟩
      · exact (h.fo g e.symm).2
      · cases e; omega
  have hneq : ∀ p : Addr, a6 = some p → bo2 ≠ some p.block := fun p e e2 => by
    have h1 := hn p e
    rcases hn2 with e3 | ⟨g', e3, hg⟩
    · rw [e3] at e2
      have := h.high _ (h.fo _ e2).1
      omega
    · rw [e3] at e2
      cases e2
      omega
  have hold : ∀ i (hi : i < es.length) (p : Addr) n c, (es[i]).1 = .slice (some p) n c → bo2 ≠ some p.block := fun i hi p n c e e2 => by
    have h1 := h.fe i hi p n c e
    rcases hn2 with e3 | ⟨g', e3, hg⟩
    · exact h1.2.2 (e3 ▸ e2)
    · rw [e3] at e2
      cases e2
      have := h.high _ h1.1
      omega
  refine ⟨fun j => F j ∨ (w.heap.size ≤ j ∧ j < w3.heap.size), ⟨v2, es ++ [(.slice a6 n6 c6, y)], bo2, ?_, ?_, ?_, Or.inl h.fl, ?_, ?_, ?_, ?_⟩, hM3, fun j hj => by rcases hj with e | e; exact Or.inl e; exact Or.inr e.1⟩
  · rw [h3, setCell_list _ _ _ _ _ _ hv, setRow_heap _ _ _ _ _ _ hv]; rfl
  · rw [flat_append, List.length_append]
    rw [h3]
    refine OwnS.keep ho fun g e => Below.heap_setCell _ _ _ _ (hbo2 g e).2.1
  · have hm3 : Mod (fun j => bo = some j ∨ j = bl) w1 w3 := by rw [h3]; exact (hm.mono (fun j _ e => Or.inl e)).setCell ⟨bl, 0, none⟩ _ (fun _ => Or.inr rfl)
    have hE : Ents w3 es L := ents_keep (h.ents.below hB) hm3 (fun i hi p n c e t => by
      have q := h.fe i hi p n c e
      rcases t with t | t
      · exact q.2.2 t
      · exact q.2.1 t)
    have hs1 := hs.below hb2
    refine hE.snoc ⟨⟨_, _, _, rfl, hs1.len, bytes_keep hs1.at_ hm3 (fun p e t => ?_), hs1.cap, hs1.capm, hs1.nil⟩, rfl, hy⟩
    have q := hn p e
    rcases t with t | t
    · have := h.high _ (h.fo _ t).1; omega
    · omega
  · intro g e
    have q := hbo2 g e
    exact ⟨by rcases q.1 with r | r; exact Or.inl r; exact Or.inr ⟨r, by omega⟩, q.2.1⟩
  · intro i hi p n c e
    by_cases hi2 : i < es.length
    · rw [List.getElem_append_left hi2] at e
      have q := h.fe i hi2 p n c e
      exact ⟨Or.inl q.1, q.2.1, hold i hi2 p n c e⟩
    · have ei : i = es.length := by simp at hi; omega
      subst ei
      have e' : (Value.slice a6 n6 c6) = .slice (some p) n c := by simpa using e
      injection e' with e'
      have q := hn p e'
      exact ⟨Or.inr ⟨q.1, by omega⟩, by omega, hneq p e'⟩
  · intro j hj
    rcases hj with e | e
    · exact h.low j e
    · omega
  · intro j hj
    rcases hj with e | e
    · have := h.high j e; omega
    · exact e.2
set_option maxHeartbeats 4000000 in
set_option maxRecDepth 100000 in
theorem list_cbt (wN : World) (bl : Nat) : CbTree (SLst wN.heap.size bl) wN (115) bl := fun F L w n bs y has leaf mm kk ka kn kc x ⟨v, es, bo, h⟩ hN hK hkn hy hy2 hb hL => by
  have hV := Lib.hid (hN.val w (Below.refl _ _))
  have hE0 : Hid (∃ F', SLst wN.heap.size bl F' L w ∧ Mod F w w ∧ ∀ j, F' j → F j ∨ w.heap.size ≤ j) := ⟨F, ⟨v, es, bo, h⟩, Mod.refl _ _, fun j hj => Or.inl hj⟩
  obtain ⟨va, vc, hv, _⟩ := h.own.len
  subst hv
  have c1 : w.cell? ⟨bl, 0, none⟩ = some (.slice va L.length vc) := by rw [cell_of_blk h.var]; rfl
  have f1 := frozen_of_blk h.var 0
  have hcl : Hid (Calls Try.prog 95 #[.slice ka kn kc] w.drew fun e w' => ∃ a6 c6, e = .returned (.slice a6 kn c6) ∧ Sl w' a6 kn c6 x ∧ Below w.heap.size w w' ∧ ∀ p : Addr, a6 = some p → w.heap.size ≤ p.block ∧ p.block < w'.heap.size) :=
    (clone_new (hK.below (Below.refl _ _).drew) (by omega)).mono fun e w' ⟨a6, c6, e1, e2, e3, e4⟩ => ⟨a6, c6, e1, e2, (Below.refl _ w).drew.trans e3, e4⟩
  have H := Lib.hid h
  have hvar := Lib.hid h.var
  have hbl := Lib.hid (h.high bl h.fl)
  have hlo := Lib.hid hb.size
  have hb1 : Hid (L.length + 1 ≤ maxLen) := by show _ ≤ _; unfold maxLen; omega
  have hb2 : Hid ((L.length + 1) * 32 ≤ 140737488355328) := by show _ ≤ _; omega
  have hfo : Hid (∀ g, bo = some g → g ≠ bl) := fun g e => (h.fo g e).2
  clear h hb hK hN
  cases has with
  | false =>
    go_enter Try.func115, Try.ntmps115
    go_wp2_with (go_at_call 17; refine hV.out.mono ?_; rintro e w' ⟨rfl, rfl⟩)
    go_end0
    exact ⟨rfl, hE0.out⟩
  | true =>
  clear hE0
  go_enter Try.func115, Try.ntmps115
  go_wp2_with (go_at_call 17; refine hV.out.mono ?_; rintro e w' ⟨rfl, rfl⟩)
  go_region_law (first
    | (refine step_append_s rfl (.tmp 13) (.tmp 18) 68 rfl apT _ 2 32 Try.underlying68 apInfo rfl (by omega) (.slice va L.length vc) rfl L.length (flat es) bo (ho1.out _) ⟨w1.heap.size, 0, none⟩ 1 1 [.slice a6 kn c6, .int .u64 y] rfl rfl (hnw.out) (h1.out) hb1.out hb2.out ?_; intro v2 w2 bo2 HO HM HN; obtain ⟨a2, c2, hv2, _⟩ := HO.out.len; subst hv2; have hh := Lib.hid ((HM.out.same bl (by rw [World.size_alloc]; have := hbl.out; have := B1.out.size; omega) (fun e => hfo.out bl e rfl)).trans ((Below.heap_alloc _ _ _ (by have := hbl.out; have := B1.out.size; omega)).trans hv1.out)); have z1 : w2.cell? ⟨bl, 0, none⟩ = some (.slice va L.length vc) := by rw [cell_of_blk hh.out]; rfl
       have z2 := frozen_of_blk hh.out 0)
    | (go_simp; go_at_call 95; refine hcl.out.mono ?_; rintro e w1 ⟨a6, c6, rfl, s6, b6, n6⟩; have S6 := Lib.hid s6; have B1 := Lib.hid b6; have N6 := Lib.hid n6; have hv1 := Lib.hid ((b6.block bl hbl.out).trans hvar.out); have d1 : w1.cell? ⟨bl, 0, none⟩ = some (.slice va L.length vc) := by rw [cell_of_blk hv1.out]; rfl
       have ho1 : Hid (∀ o, OwnS 2 apT (w1.alloc o) (.slice va L.length vc) L.length (flat es) bo) := fun o => (H.out.own.below b6).below ((Below.refl _ w1).alloc (Nat.le_refl _) o)
       have d2 : ∀ o, (w1.alloc o).cell? ⟨bl, 0, none⟩ = some (.slice va L.length vc) := fun o => (((Below.refl _ w1).alloc (Nat.le_refl _) o).cell (p := ⟨bl, 0, none⟩) (cell_lt d1)).trans d1
       have hnw := Lib.hid (pair_news w1 (.slice a6 kn c6) y apT)
       have h1 := Lib.hid (oneP (a := a6) (n := kn) (c := c6) (y := y))
       clear s6 b6 n6))
  all_goals
    have hst := Lib.hid (H.out.step hlo.out B1.out S6.out N6.out ⟨hy, hy2⟩ ((Below.refl _ w1).alloc (Nat.le_refl _) _) HO.out HM.out HN.out rfl)
    (try simp only [Exit.then, Exit.inBlock])
    go_end0
    exact ⟨rfl, hst.out⟩
set_option maxHeartbeats 1000000 in
theorem list_any {w0 w : World} {Q : List NP} {t : Tr} {p : Option Addr} (hQ : StoreP NoB w0 w Q) (hT : TreeV Q t (.pointer p)) (hO : TOk t) (hway : tway t ≤ 900000) (htot : (tl t).length ≤ 2000) : Calls Try.prog 46 #[.pointer p] w (prsPost (tl t) w) := by
  obtain ⟨w4, hw4⟩ : ∃ w4, w4 = w.alloc (.cells #[.slice none 0 0] 68) := ⟨_, rfl⟩
  have hb4 : Below w.heap.size w w4 := by rw [hw4]; exact (Below.refl _ w).alloc (Nat.le_refl _) _
  have hv4 : w4.heap[w.heap.size]? = some (.cells [.slice none 0 0].toArray 68 (0, 0)) := by rw [hw4]; exact heap_alloc_new w _
  have hs4 : w4.heap.size = w.heap.size + 1 := by rw [hw4, World.size_alloc]
  have hS0 : SLst w.heap.size w.heap.size (fun j => j = w.heap.size) [] w4 :=
    ⟨_, [], none, hv4, OwnS.nil _ _ _, ents_nil _, rfl, (fun g e => by cases e), (fun i h => by simp at h), (fun j hj => by rw [hj]; exact Nat.le_refl _), (fun j hj => by rw [hj, hs4]; exact Nat.lt_succ_self _)⟩
  have hEa := Lib.hid (eachTop_ls (sls_cb w.heap.size w.heap.size) (list_cbt w w.heap.size) hQ hT hO hb4 hS0 hway htot)
  obtain ⟨T, hTe⟩ : ∃ T, T = tl t := ⟨_, rfl⟩
  rw [← hTe] at hEa ⊢
  have HB4 := Lib.hid hb4
  have hfin : Hid (∀ F w5, Mod (fun j => j = w.heap.size) w4 w5 → SLst w.heap.size w.heap.size F T w5 → ∃ a c, w5.cell? ⟨w.heap.size, 0, none⟩ = some (.slice a T.length c) ∧ prsPost T w (.returned (.slice a T.length c)) w5) := fun F w5 hm ⟨v, es, bo, h⟩ => by
    obtain ⟨a, c, rfl, hp⟩ := prs_of_own h.own h.ents
    refine ⟨a, c, by rw [cell_of_blk h.var]; rfl, a, c, rfl, hp, HB4.out.trans (hm.belowLo (fun j hj => ?_) HB4.out.size)⟩
    have hj : j = w.heap.size := hj
    rw [hj]; exact Nat.le_refl _
  clear hQ hT hO hTe hb4 hS0 hv4 hs4 hway htot
  go_enter Try.func46, Try.ntmps46
  go_upto_region 2 with fail
  rw [← hw4]
  clear hw4
  go_wp2_with (go_at_call 114; refine hEa.out.mono ?_; rintro e w5 ⟨rfl, F5, z2, z1, _⟩; obtain ⟨a5, c5, y1, y2⟩ := hfin.out F5 w5 z1 z2; have Y := Lib.hid y2; clear z1 z2 y2)
  go_ret
  exact Y.out
end Go.Proofs.Ytkonbldjmcccmaa
