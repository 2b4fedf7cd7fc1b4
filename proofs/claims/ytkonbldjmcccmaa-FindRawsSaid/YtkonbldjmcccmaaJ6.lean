/- The statements KidsKind and KidsNobody: their walks; Trees: how many nodes are gone into, how deep they are. No program; The document's trees in memory, and one that is under way; A node's kids, one behind the other; The document's shared: how many bytes the keys of pairs that rise begin with alike; canon.Depth; The document's build: what it leaves; of one pair; The document's build: its node under way, what it needs. -/
import Derived.Test.YtkonbldjmcccmaaKAlive
import Derived.Test.YtkonbldjmcccmaaJ3
import Derived.StillTailTactics
import Derived.Deep.RegionHeld3
set_option linter.unusedVariables false
set_option linter.unusedSimpArgs false
/- The statements KidsKind and KidsNobody: their walks. -/
namespace Go.Proofs.Ytkonbldjmcccmaa
open Go.RowKit
theorem refKind_any (n : Int) (w : World) : Calls Try.prog 15 #[.int .i64 n] w fun e w' => e = .returned (.int .i64 (kindZ n)) ∧ w = w' := by
  obtain ⟨K, HK⟩ : ∃ K, Hid (kindZ n = K) := ⟨_, rfl⟩
  rw [HK.out]
  by_cases h0 : n < 0
  · have hR : Hid (K = 0) := by show _ = _; rw [← HK.out]; unfold kindZ; rw [if_pos h0]
    go_enter Try.func15, Try.ntmps15
    go_wp2_with fail
    go_ret
    exact ⟨by rw [hR.out]; rfl, rfl⟩
  · by_cases h5 : 256 < n
    · have hR : Hid (K = 0) := by show _ = _; rw [← HK.out]; unfold kindZ; rw [if_neg h0, if_neg (by omega), if_neg (by omega), if_neg (by omega), if_neg (by omega)]
      go_enter Try.func15, Try.ntmps15
      go_wp2_with fail
      go_ret
      exact ⟨by rw [hR.out]; rfl, rfl⟩
    · by_cases h1 : n ≤ 4
      · have hR : Hid (K = 4) := by show _ = _; rw [← HK.out]; unfold kindZ; rw [if_neg h0, if_pos h1]
        go_enter Try.func15, Try.ntmps15
        go_wp2_with fail
        go_ret
        exact ⟨by rw [hR.out]; rfl, rfl⟩
      · by_cases h2 : n ≤ 16
        · have hR : Hid (K = 16) := by show _ = _; rw [← HK.out]; unfold kindZ; rw [if_neg h0, if_neg h1, if_pos h2]
          go_enter Try.func15, Try.ntmps15
          go_wp2_with fail
          go_ret
          exact ⟨by rw [hR.out]; rfl, rfl⟩
        · by_cases h3 : n ≤ 48
          · have hR : Hid (K = 48) := by show _ = _; rw [← HK.out]; unfold kindZ; rw [if_neg h0, if_neg h1, if_neg h2, if_pos h3]
            go_enter Try.func15, Try.ntmps15
            go_wp2_with fail
            go_ret
            exact ⟨by rw [hR.out]; rfl, rfl⟩
          · have hR : Hid (K = 256) := by show _ = _; rw [← HK.out]; unfold kindZ; rw [if_neg h0, if_neg h1, if_neg h2, if_neg h3, if_pos (by omega)]
            go_enter Try.func15, Try.ntmps15
            go_wp2_with fail
            go_ret
            exact ⟨by rw [hR.out]; rfl, rfl⟩
theorem kindZ_facts (n : Int) : (kindZ n = 0 ∨ 4 ≤ kindZ n ∧ n ≤ kindZ n ∧ kindZ (kindZ n) = kindZ n) ∧ ∀ L : Int, L = 4 ∨ L = 16 ∨ L = 48 → n < 0 ∨ (0 ≤ n ∧ L < n) ∨ (0 ≤ n ∧ n ≤ L ∧ kindZ n ≤ L) := by
  have key : kindZ n = 0 ∧ (n < 0 ∨ 256 < n) ∨ 0 ≤ n ∧ (kindZ n = 4 ∧ n ≤ 4 ∨ kindZ n = 16 ∧ n ≤ 16 ∧ 4 < n ∨ kindZ n = 48 ∧ n ≤ 48 ∧ 16 < n ∨ kindZ n = 256 ∧ n ≤ 256 ∧ 48 < n) := by
    unfold kindZ
    by_cases h0 : n < 0
    · rw [if_pos h0]; omega
    · by_cases h1 : n ≤ 4
      · rw [if_neg h0, if_pos h1]; omega
      · by_cases h2 : n ≤ 16
        · rw [if_neg h0, if_neg h1, if_pos h2]; omega
        · by_cases h3 : n ≤ 48
          · rw [if_neg h0, if_neg h1, if_neg h2, if_pos h3]; omega
          · by_cases h4 : n ≤ 256
            · rw [if_neg h0, if_neg h1, if_neg h2, if_neg h3, if_pos h4]; omega
            · rw [if_neg h0, if_neg h1, if_neg h2, if_neg h3, if_neg h4]; omega
  constructor
  · rcases key with ⟨h, _⟩ | ⟨_, ⟨h, _⟩ | ⟨h, _⟩ | ⟨h, _⟩ | ⟨h, _⟩⟩ <;> rw [h]
    · exact Or.inl rfl
    all_goals exact Or.inr ⟨by omega, by omega, rfl⟩
  · rintro L (rfl | rfl | rfl) <;> omega
set_option maxHeartbeats 1000000 in
theorem KidsKind_any (n : Int) (w : World) : Calls Try.prog 3 #[.int .i64 n] w (LawPost w) := by
  have hk1 := fun n w => Lib.hid (kindOf_any n w)
  have hk2 := fun n w => Lib.hid (refKind_any n w)
  obtain ⟨f1, f2⟩ := kindZ_facts n
  have hk3 : ∀ w, Hid (Calls Try.prog 14 #[.int .i64 (kindZ n)] w fun e w' => e = .returned (.int .i64 (kindZ (kindZ n))) ∧ w = w') := fun w => kindOf_any _ w
  generalize hK : kindZ n = K at *
  have HK := Lib.hid hK
  clear hK
  have F1 := Lib.hid f1
  have F2 := Lib.hid f2
  have hal := Lib.hid (fun w => alive_any w)
  have f4 := F2.out 4 (Or.inl rfl)
  have f16 := F2.out 16 (Or.inr (Or.inl rfl))
  have f48 := F2.out 48 (Or.inr (Or.inr rfl))
  have G4 := Lib.hid f4
  have G16 := Lib.hid f16
  have G48 := Lib.hid f48
  clear f1 f2 f4 f16 f48
  have lawEnd : Hid (∀ w', Below (w.alloc (.cells #[.int .i64 4, .int .i64 16, .int .i64 48] 3)).heap.size (w.alloc (.cells #[.int .i64 4, .int .i64 16, .int .i64 48] 3)) w' → Below w.heap.size w w') := fun w' q => ((Below.refl _ w).alloc (Nat.le_refl _) _).trans (q.mono (by simp))
  go_enter Try.func3, Try.ntmps3
  go_wp2_with (first | (go_at_call 14; refine (hk1 _ _).out.mono ?_; rintro e w' ⟨rfl, rfl⟩; rw [HK.out]) | (go_at_call 15; refine (hk2 _ _).out.mono ?_; rintro e w' ⟨rfl, rfl⟩; rw [HK.out]))
  go_loop [14] (fun vi => ∃ j : Nat, vi = .int .i64 (j : Nat) ∧ j ≤ 3) (fun vi => (3 - intOf vi).toNat)
  case atStart => exact ⟨0, rfl, by omega⟩
  case round =>
    obtain ⟨j, rfl, hj⟩ := hrel
    have hj4 : j = 0 ∨ j = 1 ∨ j = 2 ∨ j = 3 := by omega
    clear hj
    rcases hj4 with rfl | rfl | rfl | rfl
    · have G := G4.out
      rcases G with G | ⟨G, G'⟩ | ⟨G, G', G''⟩
      all_goals
        go_wp2_with fail
        go_round
        case rel => exact ⟨1, rfl, by omega⟩
        case measure => simp [intOf]
    · have G := G16.out
      rcases G with G | ⟨G, G'⟩ | ⟨G, G', G''⟩
      all_goals
        go_wp2_with fail
        go_round
        case rel => exact ⟨2, rfl, by omega⟩
        case measure => simp [intOf]
    · have G := G48.out
      rcases G with G | ⟨G, G'⟩ | ⟨G, G', G''⟩
      all_goals
        go_wp2_with fail
        go_round
        case rel => exact ⟨3, rfl, by omega⟩
        case measure => simp [intOf]
    · have F := F1.out
      rcases F with rfl | ⟨g1, g2, g3⟩
      · go_wp2_with (first | (go_at_call 16; refine (hal.out _).mono ?_; rintro e w' ⟨rfl, q⟩; have q := Lib.hid q))
        go_ret
        exact ⟨rfl, lawEnd.out _ q.out⟩
      · have g3 := Lib.hid g3
        go_wp2_with (first | (go_at_call 14; refine (hk3 _).out.mono ?_; rintro e w' ⟨rfl, rfl⟩; rw [g3.out]) | (go_at_call 16; refine (hal.out _).mono ?_; rintro e w' ⟨rfl, q⟩; have q := Lib.hid q))
        go_ret
        exact ⟨rfl, lawEnd.out _ q.out⟩
end Go.Proofs.Ytkonbldjmcccmaa
/- Trees: how many nodes are gone into, how deep they are. No program. -/
namespace Go.Proofs.Ytkonbldjmcccmaa
/-- how deep a tree is; of a row: the deepest one -/
def tdep : Tr → Nat
  | .nil => 0
  | .kid _ t r => max (tdep t) (tdep r)
  | .node _ _ _ _ ks => 1 + tdep ks
theorem tstep_dep : ∀ (t : Tr) (k : List Nat), tstep t k ≤ tdep t
  | .nil, _ => Nat.le_refl _
  | .kid b t r, [] => Nat.zero_le _
  | .kid b t r, c :: k => by
    have h1 := tstep_dep t k
    have h2 := tstep_dep r (c :: k)
    simp only [tstep, tdep]
    split <;> omega
  | .node bs v has leaf ks, k => by
    have h1 := tstep_dep ks (k.drop bs.length)
    simp only [tstep, tdep]
    split
    · split <;> omega
    · omega
theorem tstep_len : ∀ (t : Tr) (k : List Nat), TOk t → (IsN t → tstep t k ≤ k.length + 1) ∧ (IsK t → tstep t k ≤ k.length)
  | .nil, _, _ => ⟨fun h => h.elim, fun _ => Nat.zero_le _⟩
  | .kid b t r, [], _ => ⟨fun h => h.elim, fun _ => Nat.zero_le _⟩
  | .kid b t r, c :: k, ⟨h1, h2, h3, h4, h5, h6⟩ => ⟨fun h => h.elim, fun _ => by
    have a1 := (tstep_len t k h3).1 h2
    have a2 := (tstep_len r (c :: k) h5).2 h4
    simp only [tstep, List.length_cons] at *
    split <;> omega⟩
  | .node bs v has leaf ks, k, ⟨h1, h2, h3, h4, h5, h6, h7⟩ => ⟨fun _ => by
    have a := (tstep_len ks (k.drop bs.length) h7).2 h6
    rw [List.length_drop] at a
    simp only [tstep]
    split
    · split <;> omega
    · omega, fun h => h.elim⟩
theorem tdep_sh : ∀ (t : Tr), tdep (sh t) = tdep t
  | .nil => rfl
  | .kid b t r => by simp only [sh, tdep, tdep_sh t, tdep_sh r]
  | .node bs v has leaf ks => by simp only [sh, tdep, tdep_sh ks]
theorem tstep_le {t : Tr} (k : List Nat) (h : t = .nil ∨ IsN t) (hO : TOk t) : tstep t k ≤ k.length + 1 := by
  rcases h with rfl | h
  · exact Nat.zero_le _
  · exact (tstep_len t k hO).1 h
/-- two canonical trees of the same pairs are gone into alike -/
theorem tstep_same {t t' : Tr} (k : List Nat) (h1 : TOk t) (h2 : TOk t') (c1 : Can t) (c2 : Can t') (n1 : t = .nil ∨ IsN t) (n2 : t' = .nil ∨ IsN t') (e : tl t = tl t') : tstep t k = tstep t' k := by
  rcases n1 with rfl | n1
  · rcases n2 with rfl | n2
    · rfl
    · exact absurd e.symm (tl_ne _ n2 h2 c2)
  · rcases n2 with rfl | n2
    · exact absurd e (tl_ne _ n1 h1 c1)
    · rw [← tstep_sh t, ← tstep_sh t', sh_eq t t' (Or.inl ⟨n1, n2⟩) h1 h2 c1 c2 e]
end Go.Proofs.Ytkonbldjmcccmaa
/- The document's trees in memory, and one that is under way. -/
namespace Go.Proofs.Ytkonbldjmcccmaa
open Go.RowKit
abbrev rnT : Nat := 61
theorem rnInfo : (Try.prog.info? rnT).map (fun i => (i.zero, i.size, i.bytes)) = some (some (.agg #[.int .i64 0, .slice none 0 0, .bool false, .int .u64 0, .slice none 0 0, .slice none 0 0]), 6, 96) := by kernel_rfl
/-- bytes that stand in some blocks -/
structure SlG (w : World) (G : Nat → Prop) (a : Option Addr) (n c : Nat) (bs : List Nat) : Prop where
  sl : Sl w a n c bs
  ok : bs ≠ [] → ∀ p, a = some p → G p.block
section
variable {w w' : World} {G G' : Nat → Prop} {a : Option Addr} {n c : Nat} {bs : List Nat}
theorem SlG.keep (h : SlG w G a n c bs) (hs : w.heap.size ≤ w'.heap.size) (hk : ∀ j, G j → w'.heap[j]? = w.heap[j]?) : SlG w' G a n c bs :=
  ⟨⟨h.sl.len, ⟨h.sl.at_.1, fun i hi => by
    obtain ⟨p, e, q1, q2⟩ := h.sl.at_.2 i hi
    refine ⟨p, e, Nat.lt_of_lt_of_le q1 hs, ?_⟩
    rw [← q2]
    unfold World.cell?
    rw [add_block, hk p.block (h.ok (by rintro rfl; simp at hi) p e)]⟩, h.sl.cap, h.sl.capm, h.sl.nil⟩, h.ok⟩
theorem SlG.mono (h : SlG w G a n c bs) (hG : ∀ j, G j → G' j) : SlG w G' a n c bs := ⟨h.sl, fun e p q => hG _ (h.ok e p q)⟩
theorem SlG.of (h : Sl w a n c bs) (hG : ∀ j, j < w.heap.size → G j) : SlG w G a n c bs := ⟨h, fun e p q => by
  have hl : 0 < bs.length := List.length_pos_iff.2 e
  obtain ⟨p', e', q1, _⟩ := h.at_.2 0 hl
  rw [q] at e'
  obtain rfl : p = p' := by simpa using e'
  rw [add_block] at q1
  exact hG _ q1⟩
end
/-- a node's first cell -/
def rkind (leaf : Bool) (ks : Tr) : Nat := if leaf then 1 else kindOf (chain ks).length
/-- a tree of the document's: a node by its six cells; a row of kids by where it stands -/
def RT (w : World) (G : Nat → Prop) : Tr → Option Addr → Nat → List Value → Prop
  | .nil, _, _, _ => True
  | .kid b t r, ka, i, _ => (∃ g c, ka = some ⟨g, 0, none⟩ ∧ G g ∧ c.length = 6 ∧ (∀ j, j < 6 → w.cell? ⟨g, i * 6 + j, none⟩ = c[j]?) ∧ RT w G t none 0 c) ∧ RT w G r ka (i + 1) []
  | .node bs v has leaf ks, _, _, c => ∃ pa pn pc ba bn bc ka kn kc, c = [.int .i64 (rkind leaf ks : Nat), .slice pa pn pc, .bool has, .int .u64 v, .slice ba bn bc, .slice ka kn kc] ∧ SlG w G pa pn pc bs ∧ SlG w G ba bn bc ((chain ks).map (·.1)) ∧ kn = (chain ks).length ∧ kn ≤ kc ∧ RT w G ks ka 0 []
theorem RT.keep {w w' : World} {G : Nat → Prop} (hs : w.heap.size ≤ w'.heap.size) (hk : ∀ j, G j → w'.heap[j]? = w.heap[j]?) : ∀ {t : Tr} {ka : Option Addr} {i : Nat} {c : List Value}, RT w G t ka i c → RT w' G t ka i c
  | .nil, _, _, _, _ => trivial
  | .kid b t r, ka, i, c, ⟨⟨g, d, h1, h2, h3, h4, h5⟩, h6⟩ => ⟨⟨g, d, h1, h2, h3, fun j hj => by
      rw [← h4 j hj]
      unfold World.cell?
      show (match w'.heap[g]? with | _ => _) = _
      rw [hk g h2], RT.keep hs hk h5⟩, RT.keep hs hk h6⟩
  | .node bs v has leaf ks, ka, i, c, ⟨pa, pn, pc, ba, bn, bc, ka', kn, kc, h1, h2, h3, h4, h5, h6⟩ => ⟨pa, pn, pc, ba, bn, bc, ka', kn, kc, h1, h2.keep hs hk, h3.keep hs hk, h4, h5, RT.keep hs hk h6⟩
theorem RT.mono {w : World} {G G' : Nat → Prop} (hG : ∀ j, G j → G' j) : ∀ {t : Tr} {ka : Option Addr} {i : Nat} {c : List Value}, RT w G t ka i c → RT w G' t ka i c
  | .nil, _, _, _, _ => trivial
  | .kid b t r, ka, i, c, ⟨⟨g, d, h1, h2, h3, h4, h5⟩, h6⟩ => ⟨⟨g, d, h1, hG g h2, h3, h4, RT.mono hG h5⟩, RT.mono hG h6⟩
  | .node bs v has leaf ks, ka, i, c, ⟨pa, pn, pc, ba, bn, bc, ka', kn, kc, h1, h2, h3, h4, h5, h6⟩ => ⟨pa, pn, pc, ba, bn, bc, ka', kn, kc, h1, h2.mono hG, h3.mono hG, h4, h5, RT.mono hG h6⟩
theorem flat6_get : ∀ (cs : List (List Value)), (∀ c ∈ cs, c.length = 6) → ∀ (q : Nat) (c : List Value), cs[q]? = some c → ∀ j, j < 6 → (cs.flatten)[q * 6 + j]? = c[j]?
  | [], _, q, c, h, _, _ => by simp at h
  | x :: cs, h, 0, c, e, j, hj => by
    have hx := h x (by simp)
    obtain rfl : x = c := by simpa using e
    rw [List.flatten_cons, List.getElem?_append_left (by omega)]
    simp
  | x :: cs, h, q + 1, c, e, j, hj => by
    have hx := h x (by simp)
    rw [List.flatten_cons, List.getElem?_append_right (by omega)]
    have := flat6_get cs (fun y hy => h y (by simp [hy])) q c (by simpa using e) j hj
    rw [← this]
    congr 1
    omega
theorem rt_row {w : World} {G : Nat → Prop} {g : Nat} (hg : G g) : ∀ (L : List (Nat × Tr)) (i : Nat), (∀ q x, L[q]? = some x → ∃ c, c.length = 6 ∧ (∀ j, j < 6 → w.cell? ⟨g, (i + q) * 6 + j, none⟩ = c[j]?) ∧ RT w G x.2 none 0 c) → RT w G (ofL L) (some ⟨g, 0, none⟩) i []
  | [], _, _ => trivial
  | x :: L, i, h => by
    obtain ⟨c, h1, h2, h3⟩ := h 0 x rfl
    refine ⟨⟨g, c, rfl, hg, h1, by simpa using h2, h3⟩, rt_row hg L (i + 1) fun q y hy => ?_⟩
    obtain ⟨d, k1, k2, k3⟩ := h (q + 1) y (by simpa using hy)
    exact ⟨d, k1, fun j hj => by rw [← k2 j hj]; congr 3; omega, k3⟩
/-- what the kids' trees may read, while a node is under way -/
def Gd (w0 w : World) (nb : Nat) (bo1 bo2 : Option Nat) (wr : World) (j : Nat) : Prop := (j < w0.heap.size ∨ w.heap.size ≤ j) ∧ j < wr.heap.size ∧ j ≠ nb ∧ bo1 ≠ some j ∧ bo2 ≠ some j
/-- what a tree that is made reads -/
def Gn (w0 w : World) (wr : World) (j : Nat) : Prop := (j < w0.heap.size ∨ w.heap.size ≤ j) ∧ j < wr.heap.size
/-- a node under way: its box, the bytes and the kids so far -/
structure VB (w0 w : World) (nb : Nat) (pv : Value) (hs : Bool) (val : Int) (B : List Nat) (T : List Tr) (cs : List (List Value)) (bv kv : Value) (bo1 bo2 : Option Nat) (wr : World) : Prop where
  since : Below w.heap.size w wr
  nbn : w.heap.size ≤ nb
  box : wr.heap[nb]? = some (.cells [.int .i64 0, pv, .bool hs, .int .u64 val, bv, kv].toArray rnT (0, 0))
  ob : OwnS 1 u8T wr bv B.length (bV B) bo1
  ok : OwnS 6 rnT wr kv T.length cs.flatten bo2
  n1 : bo1 = none ∨ ∃ g, bo1 = some g ∧ w.heap.size ≤ g
  n2 : bo2 = none ∨ ∃ g, bo2 = some g ∧ w.heap.size ≤ g
  ne1 : bo1 ≠ some nb
  ne2 : bo2 ≠ some nb
  ne : ∀ g, bo1 = some g → bo2 ≠ some g
  len : cs.length = T.length
  six : ∀ c ∈ cs, c.length = 6
  kids : ∀ (i : Nat) (t : Tr) (c : List Value), T[i]? = some t → cs[i]? = some c → RT wr (Gd w0 w nb bo1 bo2 wr) t none 0 c
section
variable {w0 w wr w' : World} {nb : Nat} {pv : Value} {hs : Bool} {val : Int} {B : List Nat} {T : List Tr} {cs : List (List Value)} {bv kv : Value} {bo1 bo2 : Option Nat}
theorem VB.lt (h : VB w0 w nb pv hs val B T cs bv kv bo1 bo2 wr) : nb < wr.heap.size := (Array.getElem?_eq_some_iff.1 h.box).1
theorem VB.lt1 (h : VB w0 w nb pv hs val B T cs bv kv bo1 bo2 wr) {g : Nat} (e : bo1 = some g) : g < wr.heap.size := by have := h.ob; rw [e] at this; exact this.lt
theorem VB.lt2 (h : VB w0 w nb pv hs val B T cs bv kv bo1 bo2 wr) {g : Nat} (e : bo2 = some g) : g < wr.heap.size := by have := h.ok; rw [e] at this; exact this.lt
theorem VB.below (h : VB w0 w nb pv hs val B T cs bv kv bo1 bo2 wr) (hb : Below wr.heap.size wr w') : VB w0 w nb pv hs val B T cs bv kv bo1 bo2 w' where
  since := h.since.trans (hb.mono h.since.size)
  nbn := h.nbn
  box := (hb.block nb h.lt).trans h.box
  ob := h.ob.below hb
  ok := h.ok.below hb
  n1 := h.n1
  n2 := h.n2
  ne1 := h.ne1
  ne2 := h.ne2
  ne := h.ne
  len := h.len
  six := h.six
  kids := fun i t c ht hc => ((h.kids i t c ht hc).keep hb.size (fun j hj => hb.block j hj.2.1)).mono fun j hj => ⟨hj.1, Nat.lt_of_lt_of_le hj.2.1 hb.size, hj.2.2⟩
theorem VB.drewN (h : VB w0 w nb pv hs val B T cs bv kv bo1 bo2 wr) (k : Nat) : VB w0 w nb pv hs val B T cs bv kv bo1 bo2 (wr.drewN k) := h.below (below_drewN (Below.refl _ _) k)
/-- what stands in its box -/
theorem VB.facts (h : VB w0 w nb pv hs val B T cs bv kv bo1 bo2 wr) : wr.cell? ⟨nb, 0, none⟩ = some (.int .i64 0) ∧ wr.cell? ⟨nb, 1, none⟩ = some pv ∧ wr.cell? ⟨nb, 2, none⟩ = some (.bool hs) ∧ wr.cell? ⟨nb, 3, none⟩ = some (.int .u64 val) ∧ wr.cell? ⟨nb, 4, none⟩ = some bv ∧ wr.cell? ⟨nb, 5, none⟩ = some kv ∧ ∀ j, wr.frozen? ⟨nb, j, none⟩ = false :=
  ⟨by rw [cell_of_blk h.box]; rfl, by rw [cell_of_blk h.box]; rfl, by rw [cell_of_blk h.box]; rfl, by rw [cell_of_blk h.box]; rfl, by rw [cell_of_blk h.box]; rfl, by rw [cell_of_blk h.box]; rfl, fun j => frozen_of_blk h.box j⟩
/-- a byte more -/
theorem VB.byte (h : VB w0 w nb pv hs val B T cs bv kv bo1 bo2 wr) (b : Nat) {v' : Value} {bo' : Option Nat} (h1 : OwnS 1 u8T w' v' (B.length + 1) (bV B ++ [.int .u8 (b : Nat)]) bo') (hm : Mod (fun k => bo1 = some k) wr w') (hn : NewOr wr bo1 bo') :
    VB w0 w nb pv hs val (B ++ [b]) T cs v' kv bo' bo2 (w'.setCell ⟨nb, 4, none⟩ v') := by
  have hlt := h.lt
  have hbox : w'.heap[nb]? = some (.cells [.int .i64 0, pv, .bool hs, .int .u64 val, bv, kv].toArray rnT (0, 0)) := (hm.same nb hlt h.ne1).trans h.box
  have hM2 : Mod (fun k => k = nb) w' (w'.setCell ⟨nb, 4, none⟩ v') := (Mod.refl _ w').setCell ⟨nb, 4, none⟩ _ (fun _ => rfl)
  have hsz : wr.heap.size ≤ (w'.setCell ⟨nb, 4, none⟩ v').heap.size := Nat.le_trans hm.size hM2.size
  have hsub : ∀ j, Gd w0 w nb bo1 bo2 wr j → Gd w0 w nb bo' bo2 (w'.setCell ⟨nb, 4, none⟩ v') j := fun j ⟨q1, q2, q3, q4, q5⟩ => ⟨q1, Nat.lt_of_lt_of_le q2 hsz, q3, fun e => by
    rcases hn with e2 | ⟨g, e2, hg⟩
    · rw [e2] at e; exact q4 e
    · rw [e2] at e; cases e; omega, q5⟩
  have hsame : ∀ j, Gd w0 w nb bo1 bo2 wr j → (w'.setCell ⟨nb, 4, none⟩ v').heap[j]? = wr.heap[j]? := fun j ⟨q1, q2, q3, q4, q5⟩ => (hM2.same j (Nat.lt_of_lt_of_le q2 hm.size) q3).trans (hm.same j q2 q4)
  have hne1 : bo' ≠ some nb := fun e => by
    rcases hn with e2 | ⟨g, e2, hg⟩
    · rw [e2] at e; exact h.ne1 e
    · rw [e2] at e; cases e; omega
  refine ⟨?_, h.nbn, ?_, ?_, ?_, ?_, h.n2, hne1, h.ne2, fun g e1 e2 => ?_, h.len, h.six, fun i t c ht hc => ((h.kids i t c ht hc).keep hsz hsame).mono hsub⟩
  · refine (h.since.trans (?_ : Below w.heap.size wr w')).setCell (p := ⟨nb, 4, none⟩) h.nbn _
    exact OwnS.modNew h.ob h.n1 hm h.since.size
  · rw [setCell_list _ _ _ _ _ _ hbox, setRow_heap _ _ _ _ _ _ hbox]; rfl
  · have e : bV (B ++ [b]) = bV B ++ [.int .u8 (b : Nat)] := by simp [bV]
    rw [e, List.length_append]
    exact h1.keep fun g e => hM2.same g (by subst e; exact h1.lt) (fun q => hne1 (by rw [e, q]))
  · exact (h.ok.keep fun g e => hm.same g (h.lt2 e) (fun q => h.ne g q e)).keep fun g e => hM2.same g (Nat.lt_of_lt_of_le (h.lt2 e) hm.size) (fun q => h.ne2 (by rw [e, q]))
  · rcases hn with e2 | ⟨g, e2, hg⟩
    · rw [e2]; exact h.n1
    · exact Or.inr ⟨g, e2, Nat.le_trans h.since.size hg⟩
  · rcases hn with e3 | ⟨g', e3, hg⟩
    · rw [e3] at e1; exact h.ne g e1 e2
    · rw [e3] at e1; cases e1; have := h.lt2 e2; omega
/-- a kid more -/
theorem VB.kid (h : VB w0 w nb pv hs val B T cs bv kv bo1 bo2 wr) (t : Tr) (c : List Value) (h6 : c.length = 6) (ht : RT wr (Gd w0 w nb bo1 bo2 wr) t none 0 c) {v' : Value} {bo' : Option Nat} (h1 : OwnS 6 rnT w' v' (T.length + 1) (cs.flatten ++ c) bo') (hm : Mod (fun k => bo2 = some k) wr w') (hn : NewOr wr bo2 bo') :
    VB w0 w nb pv hs val B (T ++ [t]) (cs ++ [c]) bv v' bo1 bo' (w'.setCell ⟨nb, 5, none⟩ v') := by
  have hlt := h.lt
  have hbox : w'.heap[nb]? = some (.cells [.int .i64 0, pv, .bool hs, .int .u64 val, bv, kv].toArray rnT (0, 0)) := (hm.same nb hlt h.ne2).trans h.box
  have hM2 : Mod (fun k => k = nb) w' (w'.setCell ⟨nb, 5, none⟩ v') := (Mod.refl _ w').setCell ⟨nb, 5, none⟩ _ (fun _ => rfl)
  have hsz : wr.heap.size ≤ (w'.setCell ⟨nb, 5, none⟩ v').heap.size := Nat.le_trans hm.size hM2.size
  have hsub : ∀ j, Gd w0 w nb bo1 bo2 wr j → Gd w0 w nb bo1 bo' (w'.setCell ⟨nb, 5, none⟩ v') j := fun j ⟨q1, q2, q3, q4, q5⟩ => ⟨q1, Nat.lt_of_lt_of_le q2 hsz, q3, q4, fun e => by
    rcases hn with e2 | ⟨g, e2, hg⟩
    · rw [e2] at e; exact q5 e
    · rw [e2] at e; cases e; omega⟩
  have hsame : ∀ j, Gd w0 w nb bo1 bo2 wr j → (w'.setCell ⟨nb, 5, none⟩ v').heap[j]? = wr.heap[j]? := fun j ⟨q1, q2, q3, q4, q5⟩ => (hM2.same j (Nat.lt_of_lt_of_le q2 hm.size) q3).trans (hm.same j q2 q5)
  have hne2 : bo' ≠ some nb := fun e => by
    rcases hn with e2 | ⟨g, e2, hg⟩
    · rw [e2] at e; exact h.ne2 e
    · rw [e2] at e; cases e; omega
  refine ⟨?_, h.nbn, ?_, ?_, ?_, h.n1, ?_, h.ne1, hne2, fun g e1 e2 => ?_, by simp [h.len], fun d hd => ?_, fun i t' c' ht' hc' => ?_⟩
  · refine (h.since.trans (?_ : Below w.heap.size wr w')).setCell (p := ⟨nb, 5, none⟩) h.nbn _
    exact OwnS.modNew h.ok h.n2 hm h.since.size
  · rw [setCell_list _ _ _ _ _ _ hbox, setRow_heap _ _ _ _ _ _ hbox]; rfl
  · exact (h.ob.keep fun g e => hm.same g (h.lt1 e) (fun q => h.ne g e q)).keep fun g e => hM2.same g (Nat.lt_of_lt_of_le (h.lt1 e) hm.size) (fun q => h.ne1 (by rw [e, q]))
  · rw [List.length_append, List.flatten_append]
    have : [c].flatten = c := by simp
    rw [this]
    exact h1.keep fun g e => hM2.same g (by subst e; exact h1.lt) (fun q => hne2 (by rw [e, q]))
  · rcases hn with e2 | ⟨g, e2, hg⟩
    · rw [e2]; exact h.n2
    · exact Or.inr ⟨g, e2, Nat.le_trans h.since.size hg⟩
  · rcases hn with e3 | ⟨g', e3, hg⟩
    · rw [e3] at e2; exact h.ne g e1 e2
    · rw [e3] at e2; cases e2; have := h.lt1 e1; omega
  · rcases List.mem_append.1 hd with hd | hd
    · exact h.six d hd
    · obtain rfl := List.mem_singleton.1 hd; exact h6
  · by_cases hi : i < T.length
    · rw [List.getElem?_append_left hi] at ht'
      rw [List.getElem?_append_left (by rw [h.len]; exact hi)] at hc'
      exact ((h.kids i t' c' ht' hc').keep hsz hsame).mono hsub
    · have hi2 := (List.getElem?_eq_some_iff.1 ht').1
      rw [List.length_append, List.length_singleton] at hi2
      obtain rfl : i = T.length := by omega
      rw [List.getElem?_append_right (Nat.le_refl _), Nat.sub_self] at ht'
      rw [List.getElem?_append_right (by rw [h.len]; exact Nat.le_refl _), h.len, Nat.sub_self] at hc'
      obtain rfl : t = t' := by simpa using ht'
      obtain rfl : c = c' := by simpa using hc'
      exact (ht.keep hsz hsame).mono hsub
/-- the tree, once the kind stands in its box -/
theorem VB.done {L : List (Nat × Tr)} {bs : List Nat} (h : VB w0 w nb pv hs val (L.map (·.1)) (L.map (·.2)) cs bv kv bo1 bo2 wr) {pa : Option Addr} {pn pc : Nat} (hpv : pv = .slice pa pn pc) (hp : Sl w0 pa pn pc bs) (h0 : Below w0.heap.size w0 w) (hB : ∀ x ∈ L.map (·.1), x < 256) (x : Value) :
    RT (wr.setCell ⟨nb, 0, none⟩ x) (Gn w0 w (wr.setCell ⟨nb, 0, none⟩ x)) (.node bs val hs false (ofL L)) none 0 [.int .i64 (kindOf L.length : Nat), pv, .bool hs, .int .u64 val, bv, kv] := by
  have hM2 : Mod (fun k => k = nb) wr (wr.setCell ⟨nb, 0, none⟩ x) := (Mod.refl _ wr).setCell ⟨nb, 0, none⟩ _ (fun _ => rfl)
  have hw0 : w0.heap.size ≤ wr.heap.size := Nat.le_trans h0.size h.since.size
  have hsp : SlG (wr.setCell ⟨nb, 0, none⟩ x) (Gn w0 w (wr.setCell ⟨nb, 0, none⟩ x)) pa pn pc bs := by
    have q : SlG w0 (fun j => j < w0.heap.size) pa pn pc bs := SlG.of hp fun j hj => hj
    refine (q.keep (Nat.le_trans hw0 hM2.size) fun j hj => ?_).mono fun j hj => ⟨Or.inl hj, Nat.lt_of_lt_of_le hj (Nat.le_trans hw0 hM2.size)⟩
    have := h0.size
    have := h.nbn
    rw [hM2.same j (by omega) (by omega), h.since.block j (by omega), h0.block j hj]
  have hb1 : OwnS 1 u8T (wr.setCell ⟨nb, 0, none⟩ x) bv (L.map (·.1)).length (bV (L.map (·.1))) bo1 := h.ob.keep fun g e => hM2.same g (h.lt1 e) (fun q => h.ne1 (by rw [e, q]))
  have hk1 : OwnS 6 rnT (wr.setCell ⟨nb, 0, none⟩ x) kv (L.map (·.2)).length cs.flatten bo2 := h.ok.keep fun g e => hM2.same g (h.lt2 e) (fun q => h.ne2 (by rw [e, q]))
  obtain ⟨ba, bc, rfl, hb2, hb3, hb4⟩ := hb1.len
  obtain ⟨ka, kc, rfl, hk2, hk3, hk4⟩ := hk1.len
  rw [List.length_map] at hb1 hb2 hb4 hk1 hk2 hk4
  refine ⟨pa, pn, pc, ba, L.length, bc, ka, L.length, kc, by rw [hpv]; simp [rkind, chain_ofL], hsp, ⟨⟨by rw [chain_ofL, List.length_map], ⟨by rw [chain_ofL]; exact hB, fun i hi => ?_⟩, by simpa using hb2, hb3, by simpa using hb4⟩, fun hne p e => ?_⟩, by rw [chain_ofL], by simpa using hk2, ?_⟩
  · rw [chain_ofL, List.length_map] at hi
    obtain ⟨g, cap, e1, e2, e3, _⟩ := hb1.at_ (j := i) (by omega)
    have e4 : ba = some ⟨g, 0, none⟩ := (Value.slice.inj e2).1
    have hlt : g < (wr.setCell ⟨nb, 0, none⟩ x).heap.size := Nat.lt_of_lt_of_le (h.lt1 e1) hM2.size
    refine ⟨⟨g, 0, none⟩, e4, by rw [add_block]; exact hlt, ?_⟩
    rw [add0, e3, bV_get, chain_ofL]
    simp [List.getD, hi]
  · rw [chain_ofL] at hne
    have hl : 0 < L.length := by cases L with | nil => simp at hne | cons => simp
    obtain ⟨g, cap, e1, e2, _⟩ := hb1.at_ (j := 0) (by omega)
    have e4 : ba = some ⟨g, 0, none⟩ := (Value.slice.inj e2).1
    rw [e4] at e
    obtain rfl : (⟨g, 0, none⟩ : Addr) = p := by simpa using e
    refine ⟨Or.inr ?_, Nat.lt_of_lt_of_le (h.lt1 e1) hM2.size⟩
    rcases h.n1 with q | ⟨g', q, hg⟩
    · rw [q] at e1; cases e1
    · rw [q] at e1; cases e1; exact hg
  · by_cases hl : L = []
    · subst hl; trivial
    · have hl : 0 < L.length := List.length_pos_iff.2 hl
      obtain ⟨g, cap, e1, e2, _⟩ := hk1.at_ (j := 0) (by omega)
      have e4 : ka = some ⟨g, 0, none⟩ := (Value.slice.inj e2).1
      rw [e4]
      have hgn : w.heap.size ≤ g := by
        rcases h.n2 with q | ⟨g', q, hg⟩
        · rw [q] at e1; cases e1
        · rw [q] at e1; cases e1; exact hg
      refine rt_row (g := g) ⟨Or.inr hgn, Nat.lt_of_lt_of_le (h.lt2 e1) hM2.size⟩ L 0 fun q y hy => ?_
      have hq := (List.getElem?_eq_some_iff.1 hy).1
      have hlen := h.len
      rw [List.length_map] at hlen
      have hc : cs[q]? = some cs[q] := List.getElem?_eq_getElem (by omega)
      refine ⟨cs[q], h.six _ (List.getElem_mem _), fun j hj => ?_, ?_⟩
      · obtain ⟨g', cap', e1', _, e3, _⟩ := hk1.at_ (j := q * 6 + j) (by omega)
        obtain rfl : g = g' := by rw [e1] at e1'; simpa using e1'
        rw [Nat.zero_add, e3]
        exact flat6_get cs h.six q _ hc j hj
      · have := h.kids q y.2 cs[q] (by rw [List.getElem?_map, hy]; rfl) hc
        exact (this.keep hM2.size fun j hj => hM2.same j hj.2.1 hj.2.2.1).mono fun j hj => ⟨hj.1, Nat.lt_of_lt_of_le hj.2.1 hM2.size⟩
end
end Go.Proofs.Ytkonbldjmcccmaa
/- A node's kids, one behind the other. -/
namespace Go.Proofs.Ytkonbldjmcccmaa
open Go.RowKit
def hdB (l : KV) : Nat := match l with | [] => 0 | p :: _ => p.1
def hdK (l : KV) : Value := match l with | [] => .pointer none | p :: _ => p.2
theorem stepV_head (l : KV) : stepV l.head? = .tuple #[.int .u8 (hdB l : Nat), hdK l] := by
  cases l <;> rfl
theorem knxt_app {A r : KV} {f : Int} (hA : ∀ p ∈ A, (p.1 : Int) < f) (hr : ∀ p ∈ r, f ≤ (p.1 : Int)) : knxt (A ++ r) f = r.head? := by
  unfold knxt
  rw [List.find?_append]
  have h1 : A.find? (fun p => decide (f ≤ (p.1 : Int))) = none := by
    rw [List.find?_eq_none]
    intro p hp
    have := hA p hp
    simp; omega
  rw [h1]
  cases r with
  | nil => rfl
  | cons p r => simp [hr p (by simp)]
/-- the kids that are left: r in the tree, lr in memory -/
structure Kids (Q : List NP) (kk : KV) (ks r : Tr) (A lr : KV) : Prop where
  eq : kk = A ++ lr
  tree : TreeIn Q 0 r (.pointer none) lr
  isK : IsK r
  ok : TOk r
  lt : ∀ p ∈ A, ∀ q ∈ lr, p.1 < q.1
theorem row_from {Q : List NP} : ∀ {r : Tr} {v : Value} {lr : KV} {b : Nat}, TreeIn Q 0 r v lr → IsK r → TOk r → From b r → ∀ q ∈ lr, b < q.1 ∧ q.1 < 256
  | .nil, _, lr, b, h, _, _, _, q, hq => by have h : lr = [] := h; subst h; simp at hq
  | .node .., _, _, _, _, h, _, _, _, _ => h.elim
  | .kid c t r, v, lr, b, ⟨x, l', h1, h2, h3⟩, _, ⟨k1, k2, k3, k4, k5, k6⟩, hb, q, hq => by
    subst h1
    have hb : b < c := hb
    rcases List.mem_cons.1 hq with rfl | hq
    · exact ⟨hb, k1⟩
    · have := row_from h3 k4 k5 k6 q hq
      exact ⟨by omega, this.2⟩
section
variable {Q : List NP} {kk : KV} {ks r : Tr} {A lr : KV}
theorem kids_start {v : Value} (h : TreeIn Q 0 ks v kk) (hv : v = .pointer none) (h1 : IsK ks) (h2 : TOk ks) : Kids Q kk ks ks [] kk ∧ knxt kk 0 = kk.head? := by
  subst hv
  exact ⟨⟨rfl, h, h1, h2, by simp⟩, knxt_app (A := []) (r := kk) (by simp) (fun p _ => by omega)⟩
/-- the next one -/
theorem Kids.next (h : Kids Q kk ks r A lr) (hl : lr ≠ []) : ∃ b t r' x lr', r = .kid b t r' ∧ lr = (b, x) :: lr' ∧ hdB lr = b ∧ hdK lr = x ∧ b < 256 ∧ (∃ k, x = .pointer (some ⟨k, 0, none⟩)) ∧ TreeV Q t x ∧ IsN t ∧ TOk t ∧ Kids Q kk ks r' (A ++ [(b, x)]) lr' ∧ knxt kk ((b : Int) + 1) = lr'.head? := by
  obtain ⟨e, h1, h2, h3, h4⟩ := h
  cases r with
  | nil => exact absurd h1 hl
  | node => exact h2.elim
  | kid b t r' =>
    obtain ⟨x, lr', q1, q2, q3⟩ := h1
    obtain ⟨k1, k2, k3, k4, k5, k6⟩ := h3
    have hf := row_from q3 k4 k5 k6
    subst q1
    refine ⟨b, t, r', x, lr', rfl, rfl, rfl, rfl, k1, q2.isN k2, Or.inr ⟨k2, q2⟩, k2, k3, ⟨by rw [e]; simp, q3, k4, k5, fun p hp q hq => ?_⟩, ?_⟩
    · rcases List.mem_append.1 hp with hp | hp
      · exact h4 p hp q (by simp [hq])
      · obtain rfl := List.mem_singleton.1 hp
        exact (hf q hq).1
    · rw [e, show A ++ (b, x) :: lr' = (A ++ [(b, x)]) ++ lr' by simp]
      refine knxt_app (fun p hp => ?_) fun p hp => ?_
      · rcases List.mem_append.1 hp with hp | hp
        · have := h4 p hp (b, x) (by simp)
          simp at this ⊢; omega
        · obtain rfl := List.mem_singleton.1 hp
          simp; omega
      · have := (hf p hp).1
        omega
theorem Kids.done (h : Kids Q kk ks r A []) : r = .nil := by
  obtain ⟨_, h1, h2, _⟩ := h
  cases r with
  | nil => rfl
  | kid => obtain ⟨x, l', e, _⟩ := h1; cases e
  | node => exact h2.elim
theorem Kids.nilK (h : Kids Q kk ks r A lr) : hdK lr = .pointer none ↔ lr = [] := by
  constructor
  · intro e
    by_cases hl : lr = []
    · exact hl
    · obtain ⟨b, t, r', x, lr', _, _, _, hx, _, ⟨k, rfl⟩, _⟩ := h.next hl
      rw [hx] at e; cases e
  · rintro rfl; rfl
end
end Go.Proofs.Ytkonbldjmcccmaa
/- The document's shared: how many bytes the keys of pairs that rise begin with alike. -/
namespace Go.Proofs.Ytkonbldjmcccmaa
open Go.RowKit
theorem srt_lcp {l : PL} (hs : PSrt l) (h2 : 2 ≤ l.length) {j : Nat} (hj : j < l.length) : lcp (l.getD 0 ([], 0)).1 (l.getD (l.length - 1) ([], 0)).1 ≤ lcp (l.getD 0 ([], 0)).1 (l.getD j ([], 0)).1 := by
  obtain ⟨bs, l2, hS, e1, e2⟩ := start_of hs h2
  have hl := congrArg List.length hS.eq
  rw [pre_length] at hl
  rw [← e1, hS.eq, pre_getD _ (by omega), pre_getD _ (by omega), lcp_pre]
  omega
set_option maxHeartbeats 1000000 in
set_option maxRecDepth 100000 in
theorem ref_shared {w : World} {a : Option Addr} {n c : Nat} {l : PL} (h : Prs w a n c l) (hs : PSrt l) (h2 : 2 ≤ n) (hn : n ≤ 1000000) (hk : ∀ x ∈ l, x.1.length ≤ 65535) : Calls Try.prog 169 #[.slice a n c] w fun e w' => e = .returned (.int .i64 (lcp (l.getD 0 ([], 0)).1 (l.getD (n - 1) ([], 0)).1 : Nat)) ∧ ∃ k, w' = w.drewN k := by
  have hl := h.len
  have hle : Hid (∀ j, j < n → lcp (l.getD 0 ([], 0)).1 (l.getD (n - 1) ([], 0)).1 ≤ lcp (l.getD 0 ([], 0)).1 (l.getD j ([], 0)).1) := fun j hj => by
    have := srt_lcp hs (by omega) (j := j) (by omega)
    rwa [hl] at this
  have hl0 : Hid (lcp (l.getD 0 ([], 0)).1 (l.getD (n - 1) ([], 0)).1 ≤ (l.getD 0 ([], 0)).1.length) := (lcp_le _ _).1
  obtain ⟨p, a0, m0, c0, rfl, q1, _, q3⟩ := prs_first h (by omega)
  have hm0 := q3.len
  have hm1 : m0 ≤ 65535 := by rw [← hm0]; exact hk _ (mem_getD (by omega))
  have H := Lib.hid h
  have hS0 := Lib.hid q3
  generalize hL : lcp (l.getD 0 ([], 0)).1 (l.getD (n - 1) ([], 0)).1 = L at *
  rw [hm0] at hl0
  have HL := Lib.hid hL
  clear hL h hs hl hk q3
  go_enter Try.func169, Try.ntmps169
  go_wp2_with fail
  go_loopw [3, 4] (fun v3 v4 wr => ∃ m i : Nat, v3 = .int .i64 (m : Nat) ∧ v4 = .int .i64 (i : Nat) ∧ 1 ≤ i ∧ i ≤ n ∧ L ≤ m ∧ m ≤ m0 ∧ Hid (∀ j, 1 ≤ j → j < i → m ≤ lcp (l.getD 0 ([], 0)).1 (l.getD j ([], 0)).1) ∧ Hid (∃ k, wr = w.drewN k)) (fun _ v4 _ => (n - intOf v4).toNat)
  case atStart => exact ⟨m0, 1, rfl, rfl, by omega, by omega, hl0.out, by omega, fun j h1 h2 => absurd h2 (by omega), 0, rfl⟩
  case round =>
    obtain ⟨m, i, rfl, rfl, hi1, hin, hLm, hmm, hA, hw⟩ := hrel
    have hB : Hid (Below w.heap.size w wr) := by obtain ⟨k, rfl⟩ := hw.out; exact below_drewN (Below.refl _ _) k
    by_cases hlt : i < n
    · have j1 : (i : Int) < (n : Int) := by omega
      have j0 : (0 : Int) ≤ (i : Int) := by omega
      have j2 : (0 : Int) < (n : Int) := by omega
      obtain ⟨p', a3, n3, c3, hp, z1, _, z3⟩ := prs_row (H.out.below hB.out) hlt
      obtain rfl : p = p' := by simpa using hp
      have z0 := (hB.out.cell (cell_lt q1)).trans q1
      have hC := Lib.hid (fun q => quiet_common (hS0.out.below hB.out) z3 q)
      have hA2 := Lib.hid (fun (M : Nat) (hM : M = min m (lcp (l.getD 0 ([], 0)).1 (l.getD i ([], 0)).1)) => (show (∀ j, 1 ≤ j → j < i + 1 → M ≤ lcp (l.getD 0 ([], 0)).1 (l.getD j ([], 0)).1) from fun j h1 h2 => by
        by_cases e : j = i
        · subst e; omega
        · have := hA.out j h1 (by omega); omega))
      have hLi := hle.out i hlt
      generalize hV : lcp (l.getD 0 ([], 0)).1 (l.getD i ([], 0)).1 = V at *
      have hw8 : IntKind.i64.wrap (((i : Nat) : Int) + 1) = ((i + 1 : Nat) : Int) := by rw [show ((i : Nat) : Int) + 1 = ((i + 1 : Nat) : Int) by omega]; exact IntWalk.i64_in _ (by omega)
      have hmin : min (m : Int) (V : Int) = ((min m V : Nat) : Int) := by omega
      clear hp z3 hA hV
      go_wp2_with fail
      go_quiet ((go_at_call 123; exact Calls.quiet_of (hC.out _)))
      go_wp2_with fail
      go_roundw
      case rel => exact ⟨min m V, i + 1, (by first | rfl | (simp only [hmin])), (by first | rfl | go_num), by omega, by omega, by omega, by omega, hA2.out _ rfl, by obtain ⟨k, rfl⟩ := hw.out; exact ⟨k + nq, by simp⟩⟩
      case measure => (simp [intOf]) <;> omega
    · have j1 : ¬ (i : Int) < (n : Int) := by omega
      have hmL : m = L := by
        have := hA.out (n - 1) (by omega) (by omega)
        rw [HL.out] at this
        omega
      subst hmL
      go_wp2_with fail
      go_ret
      obtain ⟨k, rfl⟩ := hw.out
      exact ⟨rfl, k, rfl⟩
end Go.Proofs.Ytkonbldjmcccmaa
/- canon.Depth. -/
namespace Go.Proofs.Ytkonbldjmcccmaa
open Go.RowKit
def DepthAsk (N : Nat) : Prop := ∀ (t : Tr) {w0 w : World} {Q : List NP} {v : Option Addr}, tdep t ≤ N → StoreP NoB w0 w Q → TreeV Q t (.pointer v) → TOk t → Calls Try.prog 42 #[.pointer v] w (belowPost (.int .i64 (tdep t : Nat)) w)
theorem depth_nil (w : World) : Calls Try.prog 42 #[.pointer none] w (belowPost (.int .i64 (0 : Nat)) w) := by
  have hb := Lib.hid (Below.refl w.heap.size w)
  go_enter Try.func42, Try.ntmps42
  go_wp2_with fail
  go_ret
  exact ⟨rfl, hb.out⟩
set_option maxHeartbeats 1000000 in
set_option maxRecDepth 100000 in
theorem depth_node (N : Nat) (hN : N ≤ 1000000) (IH : DepthAsk N) {w0 w : World} {Q : List NP} (hQ : StoreP NoB w0 w Q) {i : Nat} {p : NP} (hi : Q[i]? = some p) {ks : Tr} (hT : TreeIn Q 0 ks (.pointer none) (p.kk.getD [])) (hK : IsK ks) (hO : TOk ks) (hd : tdep ks ≤ N) :
    Calls Try.prog 42 #[.pointer (some ⟨p.n, 0, none⟩)] w (belowPost (.int .i64 ((1 + tdep ks : Nat) : Int)) w) := by
  obtain ⟨hs, hx0⟩ := kids_start hT rfl hK hO
  have HQ := Lib.hid hQ
  have hNx : Hid (∀ wr f, Below w.heap.size w wr → (0 : Int) ≤ f → f ≤ 256 → Calls Try.prog 18 #[.pointer (some ⟨p.n, 0, none⟩), .int .i64 f] wr fun e w' => e = .returned (stepV (knxt (p.kk.getD []) f)) ∧ Below wr.heap.size wr w') := fun wr f hb h1 h2 => by
    obtain ⟨pv, bo, kp, Sk, hn⟩ := (hQ.below hb).is hi
    exact (nd_next hn f (by omega) (by omega)).mono fun e w' ⟨e1, n, e2⟩ => ⟨e1, by rw [e2]; exact below_drewN (Below.refl _ _) n⟩
  generalize hkk : p.kk.getD [] = kk at *
  have hstart := Lib.hid hs
  have hb0 := Lib.hid (Below.refl w.heap.size w)
  have hN0 : Hid (Calls Try.prog 18 #[.pointer (some ⟨p.n, 0, none⟩), .int .i64 0] w fun e w' => e = .returned (.tuple #[.int .u8 (hdB kk : Nat), hdK kk]) ∧ Below w.heap.size w w') := by
    have := hNx.out w 0 (Below.refl _ _) (by omega) (by omega)
    rw [hx0, stepV_head] at this
    exact this
  clear hs hx0 hkk hT hQ hi
  go_enter Try.func42, Try.ntmps42
  go_wp2_with (go_at_call 18; refine hN0.out.mono ?_; rintro e w1 ⟨rfl, z1⟩; have B1 := Lib.hid z1; clear z1)
  go_loopw [3, 4, 5] (fun v3 v4 v5 wr => ∃ (d : Nat) (r : Tr) (A lr : KV), v3 = .int .i64 (d : Nat) ∧ v4 = .int .u8 (hdB lr : Nat) ∧ v5 = hdK lr ∧ max d (tdep r) = tdep ks ∧ Hid (Kids Q kk ks r A lr) ∧ Hid (Below w.heap.size w wr)) (fun _ v4 v5 _ => match v5 with | .pointer none => 0 | _ => 256 - (intOf v4).toNat)
  case atStart => exact ⟨0, ks, [], kk, rfl, rfl, rfl, by omega, hstart, B1⟩
  case round =>
    clear B1 hstart hN0 hb0
    obtain ⟨d, r, A, lr, rfl, rfl, rfl, hmx, hKd, hB⟩ := hrel
    by_cases hl : lr = []
    · subst hl
      obtain rfl := hKd.out.done
      have hd2 : d = tdep ks := by simp only [tdep] at hmx; omega
      have hw8 : IntKind.i64.wrap (((d : Nat) : Int) + 1) = ((1 + tdep ks : Nat) : Int) := by rw [show ((d : Nat) : Int) + 1 = ((1 + tdep ks : Nat) : Int) by omega]; exact IntWalk.i64_in _ (by omega)
      have hDe : ((1 + tdep ks : Nat) : Int) = ((tdep ks : Nat) : Int) + 1 := by omega
      rw [show hdK ([] : KV) = .pointer none from rfl]
      go_wp2_with fail
      go_ret
      exact ⟨by rw [hDe]; rfl, hB.out⟩
    · obtain ⟨b, t, r', x, lr', rfl, rfl, hb1, hx1, hb256, ⟨k, rfl⟩, hTV, hIN, hOk, hnext, hkn⟩ := hKd.out.next hl
      rw [hb1, hx1]
      simp only [tdep] at hmx
      have hD : Hid (∀ wr', Below wr.heap.size wr wr' → Calls Try.prog 42 #[.pointer (some ⟨k, 0, none⟩)] wr' (belowPost (.int .i64 (tdep t : Nat)) wr')) := fun wr' hb' => IH t (by omega) ((HQ.out.below hB.out).below hb') hTV hOk
      have hN2 : Hid (∀ wr', Below wr.heap.size wr wr' → Calls Try.prog 18 #[.pointer (some ⟨p.n, 0, none⟩), .int .i64 ((b + 1 : Nat) : Int)] wr' fun e w' => e = .returned (.tuple #[.int .u8 (hdB lr' : Nat), hdK lr']) ∧ Below wr'.heap.size wr' w') := fun wr' hb' => by
        have := hNx.out wr' ((b + 1 : Nat) : Int) (hB.out.trans (hb'.mono hB.out.size)) (by omega) (by omega)
        rw [show (((b + 1 : Nat) : Int)) = (b : Int) + 1 by omega, hkn, stepV_head] at this
        exact this
      have hK2 := Lib.hid hnext
      have hwb : IntKind.i64.wrap ((b : Int) + 1) = ((b + 1 : Nat) : Int) := by rw [show (b : Int) + 1 = ((b + 1 : Nat) : Int) by omega]; exact IntWalk.i64_in _ (by omega)
      have hwc : IntKind.i64.wrap (b : Int) = (b : Int) := IntWalk.i64_in _ (by omega)
      have hmaxi : max (d : Int) ((tdep t : Nat) : Int) = ((max d (tdep t) : Nat) : Int) := by omega
      have hm1 : Hid (max (max d (tdep t)) (tdep r') = tdep ks) := by show _ = _; omega
      have hms : Hid (∀ p ∈ lr', b < p.1 ∧ p.1 < 256) := fun q hq => by
        have h1 := hnext.lt (b, .pointer (some ⟨k, 0, none⟩)) (by simp) q hq
        refine ⟨h1, ?_⟩
        have := row_from (b := 0) hnext.tree hnext.isK hnext.ok
        cases hr : r' with
        | nil => have e : lr' = [] := by have := hnext.tree; rw [hr] at this; exact this
                 rw [e] at hq; simp at hq
        | node => have := hnext.isK; rw [hr] at this; exact this.elim
        | kid c t2 r2 =>
          by_cases hc : 0 < c
          · exact (this (by rw [hr]; exact hc) q hq).2
          · have ht := hnext.tree
            have ho := hnext.ok
            rw [hr] at ht ho
            obtain ⟨x2, l2, e2, _, h3⟩ := ht
            rw [e2] at hq
            rcases List.mem_cons.1 hq with rfl | hq
            · exact ho.1
            · exact (row_from h3 ho.2.2.2.1 ho.2.2.2.2.1 ho.2.2.2.2.2 q hq).2
      clear hTV hIN hOk hnext hkn hKd hl hb1 hx1 IH HQ hNx
      generalize tdep t = dt at *
      go_wp2_with (first
        | (go_at_call 18; refine (hN2.out _ B2.out).mono ?_; rintro e w3 ⟨rfl, z1⟩; have B3 := Lib.hid (B2.out.trans (z1.mono B2.out.size)); clear z1)
        | (go_at_call 42; refine (hD.out _ (Below.refl _ _)).mono ?_; rintro e w2 ⟨rfl, z1⟩; have B2 := Lib.hid z1; clear z1))
      go_roundw
      case rel => exact ⟨max d dt, r', A ++ [(b, .pointer (some ⟨k, 0, none⟩))], lr', (by first | rfl | (simp only [hmaxi])), rfl, rfl, hm1.out, hK2, hB.out.trans (B3.out.mono hB.out.size)⟩
      case measure =>
        cases lr' with
        | nil => simp [hdK, hdB, intOf]; omega
        | cons y l => have := hms.out y (by simp); simp [hdK, hdB, intOf]; split <;> omega
theorem depth_any : ∀ N, N ≤ 1000000 → DepthAsk N
  | 0, _ => fun t w0 w Q v hd hQ hT hO => by
    rcases hT with ⟨rfl, hv⟩ | ⟨hn, hT⟩
    · obtain rfl : v = none := by simpa using hv
      exact depth_nil w
    · cases t with
      | nil => exact hn.elim
      | kid => exact hn.elim
      | node => simp only [tdep] at hd; omega
  | N + 1, hN => fun t w0 w Q v hd hQ hT hO => by
    rcases hT with ⟨rfl, hv⟩ | ⟨hn, hT⟩
    · obtain rfl : v = none := by simpa using hv
      exact depth_nil w
    · cases t with
      | nil => exact hn.elim
      | kid => exact hn.elim
      | node bs val has leaf ks =>
        obtain ⟨i, p, h0, h1, h2, h3, h4, h5, h6, h7⟩ := hT
        obtain rfl : v = some ⟨p.n, 0, none⟩ := by simpa using h2
        simp only [tdep] at hd
        exact depth_node N (by omega) (depth_any N (by omega)) hQ h1 h7 hO.2.2.2.2.2.1 hO.2.2.2.2.2.2 (by omega)
end Go.Proofs.Ytkonbldjmcccmaa
/- The document's build: what it leaves; of one pair. -/
namespace Go.Proofs.Ytkonbldjmcccmaa
open Go.RowKit
def bldPost (w0 : World) (l : PL) (w : World) (e : Ending) (w' : World) : Prop :=
  ∃ (t : Tr) (kd : Int) (pa : Option Addr) (pn pc : Nat) (hs : Bool) (v : Int) (ba : Option Addr) (bn bc : Nat) (ka : Option Addr) (kn kc : Nat),
    e = .returned (.agg #[.int .i64 kd, .slice pa pn pc, .bool hs, .int .u64 v, .slice ba bn bc, .slice ka kn kc]) ∧ RT w' (Gn w0 w w') t none 0 [.int .i64 kd, .slice pa pn pc, .bool hs, .int .u64 v, .slice ba bn bc, .slice ka kn kc] ∧ IsN t ∧ TOk t ∧ Can t ∧ tl t = l ∧ Below w.heap.size w w'
def BuildAsk (w0 : World) (N : Nat) : Prop := ∀ (l : PL) (pfx : List Nat) (a : Option Addr) (n c : Nat) (w : World), l.length ≤ N → l ≠ [] → Prs w0 a n c (pre pfx l) → PSrt l → (∀ x ∈ pre pfx l, x.1.length ≤ 65535) → Below w0.heap.size w0 w → Calls Try.prog 109 #[.slice a n c, .int .i64 (pfx.length : Nat)] w (bldPost w0 l w)
/-! a box of six -/
theorem six_facts {w : World} {rb : Nat} {x0 x1 x2 x3 x4 x5 : Value} {t : TypeId} (h : w.heap[rb]? = some (.cells [x0, x1, x2, x3, x4, x5].toArray t (0, 0))) :
    w.cell? ⟨rb, 0, none⟩ = some x0 ∧ w.cell? ⟨rb, 1, none⟩ = some x1 ∧ w.cell? ⟨rb, 2, none⟩ = some x2 ∧ w.cell? ⟨rb, 3, none⟩ = some x3 ∧ w.cell? ⟨rb, 4, none⟩ = some x4 ∧ w.cell? ⟨rb, 5, none⟩ = some x5 ∧ w.frozen? ⟨rb, 0, none⟩ = false ∧ w.frozen? ⟨rb, 1, none⟩ = false ∧ w.frozen? ⟨rb, 2, none⟩ = false ∧ w.frozen? ⟨rb, 3, none⟩ = false ∧ w.frozen? ⟨rb, 4, none⟩ = false ∧ w.frozen? ⟨rb, 5, none⟩ = false :=
  ⟨by rw [cell_of_blk h]; rfl, by rw [cell_of_blk h]; rfl, by rw [cell_of_blk h]; rfl, by rw [cell_of_blk h]; rfl, by rw [cell_of_blk h]; rfl, by rw [cell_of_blk h]; rfl, frozen_of_blk h 0, frozen_of_blk h 1, frozen_of_blk h 2, frozen_of_blk h 3, frozen_of_blk h 4, frozen_of_blk h 5⟩
theorem six_new (w : World) (x0 x1 x2 x3 x4 x5 : Value) (t : TypeId) : (w.alloc (.cells #[x0, x1, x2, x3, x4, x5] t)).heap[w.heap.size]? = some (.cells [x0, x1, x2, x3, x4, x5].toArray t (0, 0)) := heap_alloc_new w _
theorem six_fin {w : World} {rb : Nat} {x0 x1 x2 x3 x4 x5 : Value} {t : TypeId} (h : w.heap[rb]? = some (.cells [x0, x1, x2, x3, x4, x5].toArray t (0, 0))) (v0 v1 v2 v3 v4 v5 : Value) (w8 : World) (e : w8 = (((((w.setCell ⟨rb, 0, none⟩ v0).setCell ⟨rb, 1, none⟩ v1).setCell ⟨rb, 2, none⟩ v2).setCell ⟨rb, 3, none⟩ v3).setCell ⟨rb, 4, none⟩ v4).setCell ⟨rb, 5, none⟩ v5) :
    w8.heap[rb]? = some (.cells [v0, v1, v2, v3, v4, v5].toArray t (0, 0)) ∧ Mod (fun j => j = rb) w w8 := by
  subst e
  have z0 : (w.setCell ⟨rb, 0, none⟩ v0).heap[rb]? = some (.cells [v0, x1, x2, x3, x4, x5].toArray t (0, 0)) := by
    rw [setCell_list _ _ _ _ _ _ h, setRow_heap _ _ _ _ _ _ h]; rfl
  have z1 : ((w.setCell ⟨rb, 0, none⟩ v0).setCell ⟨rb, 1, none⟩ v1).heap[rb]? = some (.cells [v0, v1, x2, x3, x4, x5].toArray t (0, 0)) := by
    rw [setCell_list _ _ _ _ _ _ z0, setRow_heap _ _ _ _ _ _ z0]; rfl
  have z2 : (((w.setCell ⟨rb, 0, none⟩ v0).setCell ⟨rb, 1, none⟩ v1).setCell ⟨rb, 2, none⟩ v2).heap[rb]? = some (.cells [v0, v1, v2, x3, x4, x5].toArray t (0, 0)) := by
    rw [setCell_list _ _ _ _ _ _ z1, setRow_heap _ _ _ _ _ _ z1]; rfl
  have z3 : ((((w.setCell ⟨rb, 0, none⟩ v0).setCell ⟨rb, 1, none⟩ v1).setCell ⟨rb, 2, none⟩ v2).setCell ⟨rb, 3, none⟩ v3).heap[rb]? = some (.cells [v0, v1, v2, v3, x4, x5].toArray t (0, 0)) := by
    rw [setCell_list _ _ _ _ _ _ z2, setRow_heap _ _ _ _ _ _ z2]; rfl
  have z4 : (((((w.setCell ⟨rb, 0, none⟩ v0).setCell ⟨rb, 1, none⟩ v1).setCell ⟨rb, 2, none⟩ v2).setCell ⟨rb, 3, none⟩ v3).setCell ⟨rb, 4, none⟩ v4).heap[rb]? = some (.cells [v0, v1, v2, v3, v4, x5].toArray t (0, 0)) := by
    rw [setCell_list _ _ _ _ _ _ z3, setRow_heap _ _ _ _ _ _ z3]; rfl
  refine ⟨by rw [setCell_list _ _ _ _ _ _ z4, setRow_heap _ _ _ _ _ _ z4]; rfl, ?_⟩
  exact ((((((Mod.refl (fun j => j = rb) w).setCell ⟨rb, 0, none⟩ _ (fun _ => rfl)).setCell ⟨rb, 1, none⟩ _ (fun _ => rfl)).setCell ⟨rb, 2, none⟩ _ (fun _ => rfl)).setCell ⟨rb, 3, none⟩ _ (fun _ => rfl)).setCell ⟨rb, 4, none⟩ _ (fun _ => rfl)).setCell ⟨rb, 5, none⟩ _ (fun _ => rfl)
/-- the result's box -/
abbrev rnW (w : World) : World := w.alloc (.cells #[.int .i64 0, .slice none 0 0, .bool false, .int .u64 0, .slice none 0 0, .slice none 0 0] rnT)
set_option maxHeartbeats 1000000 in
set_option maxRecDepth 100000 in
theorem bld_one {w0 : World} (k : List Nat) (v : Int) (pfx : List Nat) (a : Option Addr) (c : Nat) (w : World) (h : Prs w0 a 1 c (pre pfx [(k, v)])) (hk : (pfx ++ k).length ≤ 65535) (hb0 : Below w0.heap.size w0 w) :
    Calls Try.prog 109 #[.slice a 1 c, .int .i64 (pfx.length : Nat)] w (bldPost w0 [(k, v)] w) := by
  obtain ⟨p, rfl, q⟩ := h.at_ 0 (by simp)
  obtain ⟨a3, n3, c3, q1, q2, q3⟩ := q.cells
  have hv := h.val (pfx ++ k, v) (by simp [pre])
  have q1 : w0.cell? p = some (.slice a3 n3 c3) := by rw [← Addr.add_zero' p]; simpa using q1
  have q2 : w0.cell? ⟨p.block, p.off + 1, none⟩ = some (.int .u64 v) := by
    simp only [Nat.zero_mul, Addr.add_zero'] at q2
    exact q2
  have q3 : Sl w0 a3 n3 c3 (pfx ++ k) := q3
  obtain ⟨at_, hat⟩ : ∃ m, m = pfx.length := ⟨_, rfl⟩
  have hn3 := q3.len
  rw [List.length_append] at hk hn3
  have hc3 := q3.cap
  have hs := q3.from_ (lo := at_) (by omega)
  rw [hat, List.drop_left, ← hat] at hs
  have hcut : ∀ w, (Instr.slice 27 (.slice a3 n3 c3) (some (.int .i64 (at_ : Nat))) none none).run Try.prog w = .ok (.slice (cutA a3 c3 at_ 1) (n3 - at_) (c3 - at_)) w := fun w => run_from8 w a3 n3 c3 at_ (by omega)
  rw [← hat]
  have hB1 : Below w0.heap.size w0 (rnW w) := hb0.alloc hb0.size _
  have q4 := (hB1.cell (cell_lt q1)).trans q1
  have q5 := (hB1.cell (p := ⟨p.block, p.off + 1, none⟩) (cell_lt q2)).trans q2
  have hbox := six_new w (.int .i64 0) (.slice none 0 0) (.bool false) (.int .u64 0) (.slice none 0 0) (.slice none 0 0) rnT
  have i0 : (0 : Int) ≤ (at_ : Int) := by omega
  have i1 : (at_ : Int) ≤ (n3 : Int) := by omega
  have h8 : ∀ x ∈ k, x < 256 := fun x hx => q3.at_.1 x (by simp [hx])
  generalize cutA a3 c3 at_ 1 = a4 at *
  generalize n3 - at_ = n4 at *
  generalize c3 - at_ = c4 at *
  have hsz : (rnW w).heap.size = w.heap.size + 1 := World.size_alloc _ _
  have hBw : Below w.heap.size w (rnW w) := (Below.refl _ w).alloc (Nat.le_refl _) _
  have hfin : Hid (∀ w8, w8 = ((((((rnW w).setCell ⟨w.heap.size, 0, none⟩ (.int .i64 1)).setCell ⟨w.heap.size, 1, none⟩ (.slice a4 n4 c4)).setCell ⟨w.heap.size, 2, none⟩ (.bool true)).setCell ⟨w.heap.size, 3, none⟩ (.int .u64 v)).setCell ⟨w.heap.size, 4, none⟩ (.slice none 0 0)).setCell ⟨w.heap.size, 5, none⟩ (.slice none 0 0) →
      (w8.cell? ⟨w.heap.size, 0, none⟩ = some (.int .i64 1) ∧ w8.cell? ⟨w.heap.size, 1, none⟩ = some (.slice a4 n4 c4) ∧ w8.cell? ⟨w.heap.size, 2, none⟩ = some (.bool true) ∧ w8.cell? ⟨w.heap.size, 3, none⟩ = some (.int .u64 v) ∧ w8.cell? ⟨w.heap.size, 4, none⟩ = some (.slice none 0 0) ∧ w8.cell? ⟨w.heap.size, 5, none⟩ = some (.slice none 0 0)) ∧
      bldPost w0 [(k, v)] w (.returned (.agg #[.int .i64 1, .slice a4 n4 c4, .bool true, .int .u64 v, .slice none 0 0, .slice none 0 0])) w8.drew) := fun w8 e8 => by
    obtain ⟨y1, y2⟩ := six_fin (w := rnW w) hbox _ _ _ _ _ _ w8 e8
    obtain ⟨f0, f1, f2, f3, f4, f5, _⟩ := six_facts y1
    have hBelow : Below w.heap.size w w8 := ⟨y2.os.trans hBw.os, y2.tape.trans hBw.tape, y2.output.trans hBw.output, Nat.le_trans hBw.size y2.size, fun j hj => (y2.same j (by show j < (rnW w).heap.size; omega) (by omega)).trans (hBw.block j hj)⟩
    have hBelow0 : Below w0.heap.size w0 w8 := hb0.trans (hBelow.mono hb0.size)
    have q : SlG w8 (Gn w0 w w8) a4 n4 c4 k := by
      have q : SlG w0 (fun j => j < w0.heap.size) a4 n4 c4 k := SlG.of hs fun j hj => hj
      exact (q.keep hBelow0.size fun j hj => hBelow0.block j hj).mono fun j hj => ⟨Or.inl hj, Nat.lt_of_lt_of_le hj hBelow0.size⟩
    refine ⟨⟨f0, f1, f2, f3, f4, f5⟩, ?_⟩
    replace q : SlG w8.drew (Gn w0 w w8.drew) a4 n4 c4 k := q.keep (w' := w8.drew) (Nat.le_refl _) (fun j _ => rfl)
    refine ⟨.node k v true true .nil, 1, a4, n4, c4, true, v, none, 0, 0, none, 0, 0, rfl, ⟨a4, n4, c4, none, 0, 0, none, 0, 0, rfl, q, ⟨sl_nil _, fun e => absurd rfl e⟩, rfl, Nat.le_refl _, trivial⟩, trivial, ⟨h8, hv.1, hv.2, by simp, fun _ => ⟨rfl, rfl⟩, trivial, trivial⟩, ⟨trivial, by simp⟩, by simp [tl], hBelow.drew⟩
  obtain ⟨x0, x1, x2, x3, x4, x5, y0, y1, y2, y3, y4, y5⟩ := six_facts (w := rnW w) hbox
  clear h q hv q3 hat hn3 hk hc3 hs q1 q2 hB1 hbox hsz hBw hb0 h8
  go_enter Try.func109, Try.ntmps109
  go_wp2_with fail
  change Code.wp _ _ _ _ (rnW w)
  generalize rnW w = wb at *
  go_still_tail 11, (by kernel_rfl)
  change wpList _ _ _ _ _ wb.drew
  go_wp2_with fail
  obtain ⟨⟨f0, f1, f2, f3, f4, f5⟩, hp⟩ := hfin.out _ rfl
  refine bodyPost_ret (v := .agg #[.int .i64 1, .slice a4 n4 c4, .bool true, .int .u64 v, .slice none 0 0, .slice none 0 0]) (by simp [results, Try.results109, go_sem, f0, f1, f2, f3, f4, f5]) rfl hp
end Go.Proofs.Ytkonbldjmcccmaa
/- The document's build: its node under way, what it needs. -/
namespace Go.Proofs.Ytkonbldjmcccmaa
open Go.RowKit
theorem news_alloc (w : World) (xs : List Value) (t : TypeId) : ∀ j u, xs[j]? = some u → (w.alloc (.cells xs.toArray t)).cell? ((⟨w.heap.size, 0, none⟩ : Addr).add j) = some u := fun j u h => by
  have hb : (w.alloc (.cells xs.toArray t)).heap[w.heap.size]? = some (.cells xs.toArray t (0, 0)) := heap_alloc_new w _
  rw [add0, cell_of_blk hb]; exact h
theorem hz6 : (Value.agg #[.int .i64 0, .slice none 0 0, .bool false, .int .u64 0, .slice none 0 0, .slice none 0 0]).cells.size = 6 := rfl
theorem append_rn {w : World} {ops : Array Oper} {rest : List Oper} {o : Oper} {a : Act} {Q : Exit → Act → World → Prop} (hgd : o.guard = none) (s x : Operand)
    (ho : o.op = .call { callee := .builtin .append, args := #[s, x], argTypes := #[59, 59] })
    (v : Value) (hs : a.eval s = v) (n : Nat) (xs : List Value) (bo : Option Nat) (hown : OwnS 6 rnT w v n xs bo)
    (ad : Addr) (c : Nat) (news : List Value) (hx : a.eval x = .slice (some ad) 1 c) (hl : news.length = 6) (hnews : ∀ j u, news[j]? = some u → w.cell? (ad.add j) = some u) (h1 : ∀ u ∈ news, u.oneCell' = true)
    (hn : n ≤ 256)
    (h : ∀ v' w' bo', Hid (OwnS 6 rnT w' v' (n + 1) (xs ++ news) bo') → Hid (Mod (fun k => bo = some k) w w') → Hid (NewOr w bo bo') → wpList Try.prog ops Q rest (a.put o.dst v') w') : wpList Try.prog ops Q (o :: rest) a w :=
  wpList_append_s hgd s x 59 ho rnT _ 6 96 Try.underlying59 rnInfo hz6 (by omega) v hs n xs bo hown ad 1 c news hx hl hnews h1 (by unfold maxLen; omega) (by omega) h
theorem step_rn {w : World} {ops : Array Oper} {o : Oper} {a : Act} {K : Act → World → Prop} {Q : Exit → Act → World → Prop} {E : Prop} (hgd : o.guard = none) (s x : Operand)
    (ho : o.op = .call { callee := .builtin .append, args := #[s, x], argTypes := #[59, 59] })
    (v : Value) (hs : a.eval s = v) (n : Nat) (xs : List Value) (bo : Option Nat) (hown : OwnS 6 rnT w v n xs bo)
    (ad : Addr) (c : Nat) (news : List Value) (hx : a.eval x = .slice (some ad) 1 c) (hl : news.length = 6) (hnews : ∀ j u, news[j]? = some u → w.cell? (ad.add j) = some u) (h1 : ∀ u ∈ news, u.oneCell' = true)
    (hn : n ≤ 256)
    (h : ∀ v' w' bo', Hid (OwnS 6 rnT w' v' (n + 1) (xs ++ news) bo') → Hid (Mod (fun k => bo = some k) w w') → Hid (NewOr w bo bo') → K (a.put o.dst v') w') : if Region.wanted o (yielded ops a.tmps) = true then Oper.wp Try.prog o a w K Q else E :=
  step_append_s hgd s x 59 ho rnT _ 6 96 Try.underlying59 rnInfo hz6 (by omega) v hs n xs bo hown ad 1 c news hx hl hnews h1 (by unfold maxLen; omega) (by omega) h
theorem step_b {w : World} {ops : Array Oper} {o : Oper} {a : Act} {K : Act → World → Prop} {Q : Exit → Act → World → Prop} {E : Prop} (hgd : o.guard = none) (s x : Operand)
    (ho : o.op = .call { callee := .builtin .append, args := #[s, x], argTypes := #[27, 27] })
    (v : Value) (hs : a.eval s = v) (n : Nat) (xs : List Value) (bo : Option Nat) (hown : OwnS 1 u8T w v n xs bo)
    (ad : Addr) (c : Nat) (news : List Value) (hx : a.eval x = .slice (some ad) 1 c) (hl : news.length = 1) (hnews : ∀ j u, news[j]? = some u → w.cell? (ad.add j) = some u) (h1 : ∀ u ∈ news, u.oneCell' = true)
    (hn : n ≤ 256)
    (h : ∀ v' w' bo', Hid (OwnS 1 u8T w' v' (n + 1) (xs ++ news) bo') → Hid (Mod (fun k => bo = some k) w w') → Hid (NewOr w bo bo') → K (a.put o.dst v') w') : if Region.wanted o (yielded ops a.tmps) = true then Oper.wp Try.prog o a w K Q else E :=
  step_append_s hgd s x 27 ho u8T _ 1 1 Try.underlying27 cloneB_info rfl (by omega) v hs n xs bo hown ad 1 c news hx hl hnews h1 (by unfold maxLen; omega) (by omega) h
theorem ups_len : ∀ {l : List Nat} {m : Nat}, l.Pairwise (· < ·) → (∀ x ∈ l, m ≤ x ∧ x < 256) → l.length + m ≤ 256 ∨ l = []
  | [], _, _, _ => Or.inr rfl
  | x :: l, m, h, hx => by
    left
    have h1 := hx x (by simp)
    obtain ⟨h2, h3⟩ := List.pairwise_cons.1 h
    rcases ups_len (m := x + 1) h3 (fun y hy => ⟨h2 y hy, (hx y (by simp [hy])).2⟩) with h4 | rfl
    · rw [List.length_cons]; omega
    · simp; omega
theorem ups256 {l : List Nat} (h : l.Pairwise (· < ·)) (hx : ∀ x ∈ l, x < 256) : l.length ≤ 256 := by
  rcases ups_len (m := 0) h (fun x q => ⟨Nat.zero_le _, hx x q⟩) with h | rfl
  · omega
  · simp
section
variable {w0 w wr w' : World} {nb : Nat} {pv : Value} {hs : Bool} {val : Int} {B : List Nat} {T : List Tr} {cs : List (List Value)} {bv kv : Value} {bo1 bo2 : Option Nat}
theorem VB.start (h : Below w.heap.size w wr) (pv : Value) : VB w0 w wr.heap.size pv false 0 [] [] [] (.slice none 0 0) (.slice none 0 0) none none (wr.alloc (.cells #[.int .i64 0, pv, .bool false, .int .u64 0, .slice none 0 0, .slice none 0 0] rnT)) where
  since := h.alloc h.size _
  nbn := h.size
  box := six_new wr _ _ _ _ _ _ rnT
  ob := OwnS.nil _ _ _
  ok := OwnS.nil _ _ _
  n1 := Or.inl rfl
  n2 := Or.inl rfl
  ne1 := by simp
  ne2 := by simp
  ne := fun g e => by cases e
  len := rfl
  six := by simp
  kids := fun i t c h => by simp at h
theorem VB.has (h : VB w0 w nb pv false 0 [] [] [] (.slice none 0 0) (.slice none 0 0) none none wr) (val : Int) : VB w0 w nb pv true val [] [] [] (.slice none 0 0) (.slice none 0 0) none none ((wr.setCell ⟨nb, 2, none⟩ (.bool true)).setCell ⟨nb, 3, none⟩ (.int .u64 val)) where
  since := (h.since.setCell (p := ⟨nb, 2, none⟩) h.nbn _).setCell (p := ⟨nb, 3, none⟩) h.nbn _
  nbn := h.nbn
  box := by
    have z1 : (wr.setCell ⟨nb, 2, none⟩ (.bool true)).heap[nb]? = some (.cells [.int .i64 0, pv, .bool true, .int .u64 0, .slice none 0 0, .slice none 0 0].toArray rnT (0, 0)) := by
      rw [setCell_list _ _ _ _ _ _ h.box, setRow_heap _ _ _ _ _ _ h.box]; rfl
    rw [setCell_list _ _ _ _ _ _ z1, setRow_heap _ _ _ _ _ _ z1]; rfl
  ob := OwnS.nil _ _ _
  ok := OwnS.nil _ _ _
  n1 := Or.inl rfl
  n2 := Or.inl rfl
  ne1 := by simp
  ne2 := by simp
  ne := fun g e => by cases e
  len := rfl
  six := by simp
  kids := fun i t c h => by simp at h
/-- what a kid's tree reads may be read -/
theorem VB.gd (h : VB w0 w nb pv hs val B T cs bv kv bo1 bo2 wr) (h0 : w0.heap.size ≤ w.heap.size) (hs2 : wr.heap.size ≤ w'.heap.size) : ∀ j, Gn w0 wr w' j → Gd w0 w nb bo1 bo2 w' j := fun j ⟨q1, q2⟩ => by
  have hn := h.nbn
  have hl := h.lt
  have hsz := h.since.size
  refine ⟨by rcases q1 with q | q <;> omega, q2, ?_, ?_, ?_⟩
  · rintro rfl; rcases q1 with q | q <;> omega
  · intro e
    have := h.lt1 e
    rcases h.n1 with e2 | ⟨g, e2, hg⟩
    · rw [e2] at e; cases e
    · rw [e2] at e; cases e; rcases q1 with q | q <;> omega
  · intro e
    have := h.lt2 e
    rcases h.n2 with e2 | ⟨g, e2, hg⟩
    · rw [e2] at e; cases e
    · rw [e2] at e; cases e; rcases q1 with q | q <;> omega
/-- its box behind an append elsewhere -/
theorem VB.boxAt (h : VB w0 w nb pv hs val B T cs bv kv bo1 bo2 wr) {bo : Option Nat} (hm : Mod (fun k => bo = some k) wr w') (hne : bo ≠ some nb) : w'.cell? ⟨nb, 4, none⟩ = some bv ∧ w'.cell? ⟨nb, 5, none⟩ = some kv ∧ w'.frozen? ⟨nb, 4, none⟩ = false ∧ w'.frozen? ⟨nb, 5, none⟩ = false := by
  have hb : w'.heap[nb]? = _ := (hm.same nb h.lt hne).trans h.box
  exact ⟨by rw [cell_of_blk hb]; rfl, by rw [cell_of_blk hb]; rfl, frozen_of_blk hb 4, frozen_of_blk hb 5⟩
end
/-- the node is done, and copied into the result's box -/
theorem bld_end {w0 w w1 wo : World} {nn : Nat} {ab : Option Addr} {pn pc : Nat} {hs : Bool} {val : Int} {L : List (Nat × Tr)} {cs : List (List Value)} {ba : Option Addr} {bn bc : Nat} {ka : Option Addr} {kn kc : Nat} {bo1 bo2 : Option Nat} {bs : List Nat} {l : PL}
    (HV : VB w0 w1 nn (.slice ab pn pc) hs val (L.map (·.1)) (L.map (·.2)) cs (.slice ba bn bc) (.slice ka kn kc) bo1 bo2 wo) (hp : Sl w0 ab pn pc bs) (h0 : Below w0.heap.size w0 w) (hW : Below w.heap.size w w1) (hsz : w1.heap.size = w.heap.size + 1)
    (hRB : w1.heap[w.heap.size]? = some (.cells [.int .i64 0, .slice none 0 0, .bool false, .int .u64 0, .slice none 0 0, .slice none 0 0].toArray rnT (0, 0))) (hB : ∀ x ∈ L.map (·.1), x < 256)
    (hT : TOk (.node bs val hs false (ofL L)) ∧ Can (.node bs val hs false (ofL L)) ∧ tl (.node bs val hs false (ofL L)) = l) (T : World) (hTe : T = wo.setCell ⟨nn, 0, none⟩ (.int .i64 (kindOf L.length : Nat))) :
    T.heap[nn]? = some (.cells [.int .i64 (kindOf L.length : Nat), .slice ab pn pc, .bool hs, .int .u64 val, .slice ba bn bc, .slice ka kn kc].toArray rnT (0, 0)) ∧
    T.heap[w.heap.size]? = some (.cells [.int .i64 0, .slice none 0 0, .bool false, .int .u64 0, .slice none 0 0, .slice none 0 0].toArray rnT (0, 0)) ∧
    ∀ w8, w8 = (((((T.setCell ⟨w.heap.size, 0, none⟩ (.int .i64 (kindOf L.length : Nat))).setCell ⟨w.heap.size, 1, none⟩ (.slice ab pn pc)).setCell ⟨w.heap.size, 2, none⟩ (.bool hs)).setCell ⟨w.heap.size, 3, none⟩ (.int .u64 val)).setCell ⟨w.heap.size, 4, none⟩ (.slice ba bn bc)).setCell ⟨w.heap.size, 5, none⟩ (.slice ka kn kc) →
      (w8.cell? ⟨w.heap.size, 0, none⟩ = some (.int .i64 (kindOf L.length : Nat)) ∧ w8.cell? ⟨w.heap.size, 1, none⟩ = some (.slice ab pn pc) ∧ w8.cell? ⟨w.heap.size, 2, none⟩ = some (.bool hs) ∧ w8.cell? ⟨w.heap.size, 3, none⟩ = some (.int .u64 val) ∧ w8.cell? ⟨w.heap.size, 4, none⟩ = some (.slice ba bn bc) ∧ w8.cell? ⟨w.heap.size, 5, none⟩ = some (.slice ka kn kc)) ∧
      bldPost w0 l w (.returned (.agg #[.int .i64 (kindOf L.length : Nat), .slice ab pn pc, .bool hs, .int .u64 val, .slice ba bn bc, .slice ka kn kc])) w8 := by
  have hnn := HV.nbn
  have hlt := HV.lt
  have hRT := HV.done rfl hp (h0.trans (hW.mono h0.size)) hB (.int .i64 (kindOf L.length : Nat))
  rw [← hTe] at hRT
  have hM : Mod (fun k => k = nn) wo T := by rw [hTe]; exact (Mod.refl _ wo).setCell ⟨nn, 0, none⟩ _ (fun _ => rfl)
  have y1 : T.heap[nn]? = some (.cells [.int .i64 (kindOf L.length : Nat), .slice ab pn pc, .bool hs, .int .u64 val, .slice ba bn bc, .slice ka kn kc].toArray rnT (0, 0)) := by
    rw [hTe, setCell_list _ _ _ _ _ _ HV.box, setRow_heap _ _ _ _ _ _ HV.box]; rfl
  have hso := HV.since.size
  have y2 : T.heap[w.heap.size]? = some (.cells [.int .i64 0, .slice none 0 0, .bool false, .int .u64 0, .slice none 0 0, .slice none 0 0].toArray rnT (0, 0)) := by
    rw [hM.same _ (by omega) (by omega), HV.since.block _ (by omega)]; exact hRB
  refine ⟨y1, y2, fun w8 e8 => ?_⟩
  obtain ⟨z1, z2⟩ := six_fin y2 _ _ _ _ _ _ w8 e8
  obtain ⟨f0, f1, f2, f3, f4, f5, _⟩ := six_facts z1
  have hbw : Below w.heap.size w T := by
    rw [hTe]
    exact ((hW.trans (HV.since.mono hW.size)).setCell (p := ⟨nn, 0, none⟩) (by show w.heap.size ≤ nn; omega) _)
  have hb8 : Below w.heap.size w w8 := ⟨z2.os.trans hbw.os, z2.tape.trans hbw.tape, z2.output.trans hbw.output, Nat.le_trans hbw.size z2.size, fun j hj => (z2.same j (Nat.lt_of_lt_of_le hj hbw.size) (by omega)).trans (hbw.block j hj)⟩
  have h0s := h0.size
  have hR8 := (hRT.keep (w' := w8) z2.size fun j hj => z2.same j hj.2 (by rcases hj.1 with q | q <;> omega)).mono (G' := Gn w0 w w8) fun j hj => ⟨by rcases hj.1 with q | q <;> omega, Nat.lt_of_lt_of_le hj.2 z2.size⟩
  exact ⟨⟨f0, f1, f2, f3, f4, f5⟩, .node bs val hs false (ofL L), _, _, _, _, _, _, _, _, _, _, _, _, rfl, hR8, trivial, hT.1, hT.2.1, hT.2.2, hb8⟩
/-- where a pair of what is left stands among all -/
theorem left_at {l2 dn r : PL} {i : Nat} (h : l2 = dn ++ r) (hi : dn.length = i) (m : Nat) : l2.getD (i + m) ([], 0) = r.getD m ([], 0) := by
  subst h; subst hi
  rw [List.getD, List.getD, List.getElem?_append_right (by omega), Nat.add_sub_cancel_left]
end Go.Proofs.Ytkonbldjmcccmaa
