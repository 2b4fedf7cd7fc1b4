/- near.up and near.down where the key goes further down; near.up where the key goes further down; near.down where the key goes further down; near.down where the key goes further down; near.up and near.down of any canonical tree; the calls of the package; Four boxes with pairs; the calls of near on a tree, in every later world; alive, same of law 17; The law NearIs. -/
import Derived.Test.YtkonbldjmcccmaaJ13
import Derived.Deep.Cut
import Derived.Deep.CutRange
import Derived.Deep.RegionHeld3
import Derived.Test.YtkonbldjmcccmaaJ11
set_option linter.unusedVariables false
set_option linter.unusedSimpArgs false
/- near.up and near.down where the key goes further down. -/
namespace Go.Proofs.Ytkonbldjmcccmaa
open Go.RowKit
theorem below_then {a b c : World} (h : Below a.heap.size a b) (z : Below b.heap.size b c) : Below a.heap.size a c := h.trans (z.mono h.size)
theorem below_al (w : World) (o : Obj) : Below w.heap.size w (w.alloc o) := (Below.refl _ w).alloc (Nat.le_refl _) o
theorem below_al2 (w : World) (o o2 : Obj) : Below w.heap.size w ((w.alloc o).alloc o2) := (below_al w o).alloc (below_al w o).size o2
/-- a box for a pair, laid at some time -/
structure PB (B : Nat) (w : World) (q : Nat) : Prop where
  res : ResC w q
  ge : B ≤ q
section
variable {B q : Nat} {w w' W : World}
theorem PB.next (h : PB B w q) (z : Below w.heap.size w w') : PB B w' q := ⟨h.res.below z, h.ge⟩
theorem pb_a (hB : B ≤ W.heap.size) (z : Below (W.alloc (.cells #[.slice none 0 0, .int .u64 0] apT)).heap.size (W.alloc (.cells #[.slice none 0 0, .int .u64 0] apT)) w') : PB B w' W.heap.size := ⟨(resC_new W).below z, hB⟩
theorem pb_b {o : Obj} (hB : B ≤ W.heap.size) (z : Below ((W.alloc o).alloc (.cells #[.slice none 0 0, .int .u64 0] apT)).heap.size ((W.alloc o).alloc (.cells #[.slice none 0 0, .int .u64 0] apT)) w') : PB B w' (W.heap.size + 1) := by
  have := (resC_new (W.alloc o)).below z
  rw [World.size_alloc] at this
  exact ⟨this, by omega⟩
theorem pb_c {o : Obj} (hB : B ≤ W.heap.size) (z : Below ((W.alloc (.cells #[.slice none 0 0, .int .u64 0] apT)).alloc o).heap.size ((W.alloc (.cells #[.slice none 0 0, .int .u64 0] apT)).alloc o) w') : PB B w' W.heap.size := ⟨((resC_new W).below (below_al _ _)).below z, hB⟩
end
/-- what stands in the box -/
structure BoxR (X1 : World) (v0 : Value) (k0 : List Nat) (bo0 : Option Nat) (cap0 : Nat) (v : Value) (k : List Nat) (bo : Option Nat) (cap : Nat) (q : Nat) (a : Option Addr) (m c : Nat) (y : Int) (key : List Nat) (w : World) : Prop where
  c0 : w.cell? ⟨q, 0, none⟩ = some (.slice a m c)
  c1 : w.cell? ⟨q, 1, none⟩ = some (.int .u64 y)
  sl : Sl w a m c key
  way : WayS X1 v0 k0 bo0 cap0 v k bo cap w
section
variable {X1 w9 : World} {v0 v : Value} {k0 k key : List Nat} {bo0 bo : Option Nat} {cap0 cap q m c : Nat} {a : Option Addr} {y : Int}
theorem way_off {w w' : World} (h : WayAt w v k bo cap) (hr : ResC w q) (hm : Mod (fun j => j = q) w w') : WayAt w' v k bo cap := by
  refine h.mod hm fun g e r => ?_
  have r : g = q := r
  subst r
  rcases h with ⟨_, _, e2, _⟩ | ⟨g', cur, e2, _, h1, _⟩
  · rw [e2] at e; cases e
  · rw [e2] at e
    cases e
    rw [hr] at h1
    injection h1 with h1
    injection h1 with _ h1
    exact absurd h1 (by decide)
theorem box_old (S : WayS X1 v0 k0 bo0 cap0 v k bo cap w9) (hp : PB X1.heap.size w9 q) (hs : Sl w9 a m c key) : BoxR X1 v0 k0 bo0 cap0 v k bo cap q a m c y key ((w9.setCell ⟨q, 0, none⟩ (.slice a m c)).setCell ⟨q, 1, none⟩ (.int .u64 y)) := by
  obtain ⟨c0, c1, hm⟩ := res_put hp.res (a := a) (m := m) (c := c) (y := y) rfl
  refine ⟨c0, c1, sl_off_pair hs hp.res hm, way_off S.way hp.res hm, way_off S.base hp.res hm, S.rel, S.mod.then hm fun i hi e => ?_, S.lt0⟩
  have e : i = q := e
  have := hp.ge
  omega
theorem box_new (S : WayS X1 v0 k0 bo0 cap0 v k bo cap w9) (hs : Sl w9 a m c key) : BoxR X1 v0 k0 bo0 cap0 v k bo cap w9.heap.size a m c y key (w9.alloc (.cells #[.slice a m c, .int .u64 y] apT)) := by
  have hb : (w9.alloc (.cells #[.slice a m c, .int .u64 y] apT)).heap[w9.heap.size]? = some (.cells [.slice a m c, .int .u64 y].toArray apT (0, 0)) := heap_alloc_new w9 _
  exact ⟨by rw [cell_of_blk hb]; rfl, by rw [cell_of_blk hb]; rfl, hs.below (below_al _ _), S.below (below_al _ _)⟩
theorem sk_store {w : World} {b : Nat} {s : Bool} (hr : ResC w q) (hs : w.cell? ⟨b, 0, none⟩ = some (.bool s)) (a : Option Addr) (m c : Nat) (y : Int) : ((w.setCell ⟨q, 0, none⟩ (.slice a m c)).setCell ⟨q, 1, none⟩ (.int .u64 y)).cell? ⟨b, 0, none⟩ = some (.bool s) := by
  have hne : b ≠ q := fun e => by
    subst e
    rw [hr.facts.1] at hs
    cases hs
  rw [← hs]
  have hm : Mod (fun j => j = q) w ((w.setCell ⟨q, 0, none⟩ (.slice a m c)).setCell ⟨q, 1, none⟩ (.int .u64 y)) := ((Mod.refl (fun j => j = q) w).setCell ⟨q, 0, none⟩ _ (fun _ => rfl)).setCell ⟨q, 1, none⟩ _ (fun _ => rfl)
  have hlt : b < w.heap.size := cell_lt hs
  unfold World.cell?
  rw [hm.same b hlt hne]
end
theorem sk_of {s : Bool} {X X1 wr : World} {v0 v : Value} {k0 k : List Nat} {bo0 bo : Option Nat} {cap0 cap : Nat} (S : WayS X1 v0 k0 bo0 cap0 v k bo cap wr) (h : SkW s X X1) (hn : bo0 ≠ some X.heap.size) : wr.cell? ⟨X.heap.size, 0, none⟩ = some (.bool s) := by
  have := h.lt
  rw [cell_of_blk ((S.block (by omega) hn).trans h.box)]
  rfl
theorem resC_off {w w' : World} {v : Value} {k : List Nat} {bo : Option Nat} {cap q : Nat} (hr : ResC w q) (h : WayAt w v k bo cap) (hm : Mod (fun j => bo = some j) w w') : ResC w' q := by
  refine (hm.same q (Array.getElem?_eq_some_iff.1 hr).1 fun e => ?_).trans hr
  have e : bo = some q := e
  rcases h with ⟨_, _, e2, _⟩ | ⟨g', cur, e2, _, h1, _⟩
  · rw [e2] at e; cases e
  · rw [e2] at e
    cases e
    rw [hr] at h1
    injection h1 with h1
    injection h1 with _ h1
    exact absurd h1 (by decide)
theorem pb_off {B : Nat} {w w' : World} {v : Value} {k : List Nat} {bo : Option Nat} {cap q : Nat} (hp : PB B w q) (h : WayAt w v k bo cap) (hm : Mod (fun j => bo = some j) w w') : PB B w' q := ⟨resC_off hp.res h hm, hp.ge⟩
theorem app_pack {X1 W w8 : World} {v0 v v8 : Value} {k0 k y : List Nat} {bo0 bo bo8 : Option Nat} {cap0 cap cap8 : Nat} (S : WayS X1 v0 k0 bo0 cap0 v k bo cap W) (HW : WayAt w8 v8 (k ++ y) bo8 cap8) (HG : Goes W bo bo8 cap cap8) (HM : Mod (fun j => bo = some j) W w8) (HK : WayAt w8 v k bo cap) : ∃ W7, WayS X1 v0 k0 bo0 cap0 v k bo cap W7 ∧ WayS W7 v k bo cap v8 (k ++ y) bo8 cap8 w8 := ⟨W, S, (WayS.start S.way).app HW HG HM HK⟩
section
variable {b : Nat} {W w' : World}
theorem news_a (z : Below (W.alloc (.cells #[.int .u8 (b : Nat)] 5)).heap.size (W.alloc (.cells #[.int .u8 (b : Nat)] 5)) w') : ∀ j u, (bV [b])[j]? = some u → w'.cell? ((⟨W.heap.size, 0, none⟩ : Addr).add j) = some u := fun j u h => by
  have h0 := news_alloc W [.int .u8 (b : Nat)] 5 j u h
  exact (z.cell (cell_lt h0)).trans h0
theorem news_b {o : Obj} (z : Below ((W.alloc o).alloc (.cells #[.int .u8 (b : Nat)] 5)).heap.size ((W.alloc o).alloc (.cells #[.int .u8 (b : Nat)] 5)) w') : ∀ j u, (bV [b])[j]? = some u → w'.cell? ((⟨W.heap.size + 1, 0, none⟩ : Addr).add j) = some u := fun j u h => by
  have := news_a z j u h
  rw [World.size_alloc] at this
  exact this
theorem news_c {o : Obj} (z : Below ((W.alloc (.cells #[.int .u8 (b : Nat)] 5)).alloc o).heap.size ((W.alloc (.cells #[.int .u8 (b : Nat)] 5)).alloc o) w') : ∀ j u, (bV [b])[j]? = some u → w'.cell? ((⟨W.heap.size, 0, none⟩ : Addr).add j) = some u := news_a (below_then (below_al _ _) z)
end
end Go.Proofs.Ytkonbldjmcccmaa
/- near.up where the key goes further down. -/
namespace Go.Proofs.Ytkonbldjmcccmaa
open Go.RowKit
set_option maxHeartbeats 8000000 in
set_option maxRecDepth 100000 in
theorem upIn {w0 w X : World} {Q : List NP} (hQ : StoreP NoB w0 w Q) {n : Nat} {bs : List Nat} {val : Int} {leaf : Bool} {ks : Tr} {kk : KV} {has : Bool} (hN : NodeW w n bs val has leaf (chain ks).length kk) (hKs : TreeIn Q 0 ks (.pointer none) kk) (o6 : IsK ks) (o7 : TOk ks) (hC : Can ks) (hb8 : ∀ x ∈ bs, x < 256) (hb : Below w.heap.size w X) {v : Value} {k : List Nat} {bo : Option Nat} {cap : Nat} (hW : WayAt X v k bo cap) (hlo : ∀ g, bo = some g → w.heap.size ≤ g) (hk : ∀ x ∈ k, x < 256) (hway : k.length + bs.length + tway ks ≤ 900000) {ka : Option Addr} {kn kc : Nat} {key : List Nat} (hK : Sl w ka kn kc key) (hkn : kn ≤ 1000) (s : Bool) {b : Nat} {r : List Nat} (hkey : key = bs ++ b :: r) {ak : Option Addr} (hkid : (kget kk b).getD (.pointer none) = .pointer ak) (A : PO) (hRec : ∀ W v' bo' cap', Below w.heap.size w W → (∀ g, bo' = some g → w.heap.size ≤ g) → WayAt W v' (k ++ bs ++ [b]) bo' cap' → Calls Try.prog 121 #[.agg #[.bool s], .pointer ak, v', .slice (cutA ka kc (bs.length + 1) 1) (kn - (bs.length + 1)) (kc - (bs.length + 1))] W (nrPost v' (k ++ bs ++ [b]) bo' cap' (prO (k ++ bs ++ [b]) A) W)) : Calls Try.prog 121 #[.agg #[.bool s], .pointer (some ⟨n, 0, none⟩), v, .slice ka kn kc] X (nrPost v k bo cap (prO (k ++ bs) ((prO [b] A).or (nHead (nxtT ks ((b : Int) + 1))))) X) := by
  have hl : lcp bs key = bs.length := by rw [hkey]; have := lcp_pre bs [] (b :: r); rw [List.append_nil] at this; rw [this]; simp [lcp]
  obtain ⟨X1, hX1⟩ : ∃ X1, X1 = (X.alloc (.cells #[.bool s] skT)).alloc (.cells #[.slice none 0 0, .int .u64 0] apT) := ⟨_, rfl⟩
  have hSk : SkW s X X1 := by rw [hX1]; exact skw_new s X
  have HS := Lib.hid hSk
  have HA := Lib.hid hSk.since
  have HR := Lib.hid hSk.res
  have HB1 := Lib.hid (hb.trans (hSk.since.mono hb.size))
  have HLO := Lib.hid hlo
  have HNE : Hid (bo ≠ some (X.heap.size + 1)) := fun e => by have := hW.lt e; omega
  have HNE0 : Hid (bo ≠ some X.heap.size) := fun e => by have := hW.lt e; omega
  have HXL : Hid (X.heap.size + 1 < X1.heap.size) := hSk.lt
  have S0 : Hid (WayS X1 v k bo cap v k bo cap X1) := WayS.start (hW.below hSk.since)
  obtain ⟨m, hm⟩ : ∃ m, m = bs.length := ⟨_, rfl⟩
  have hPart := Lib.hid (part_is hN HB1.out hm)
  have hHM : Hid (bs.length = m) := hm.symm
  have hkl : Hid (k.length ≤ 1000000) := by show _ ≤ _; omega
  have hbl : Hid (bs.length ≤ 1000000) := by show _ ≤ _; omega
  have HK := Lib.hid hK
  have hmm : m ≤ 1000000 := by omega
  have HMM := Lib.hid hmm
  have h1m : Hid (1 ≤ 1000000) := by show _ ≤ _; omega
  obtain ⟨kb, hkb⟩ : ∃ kb, kb = k ++ bs := ⟨_, rfl⟩
  have HKB := Lib.hid hkb
  have hkb8 : Hid (∀ x ∈ kb, x < 256) := fun x hx => by
    rw [hkb] at hx
    rcases List.mem_append.1 hx with hx | hx
    · exact hk x hx
    · exact hb8 x hx
  have hkbl : Hid (kb.length + tway ks ≤ 900000) := by show _ ≤ _; rw [hkb, List.length_append]; exact hway
  have hkbL : Hid (kb.length ≤ 1000000) := by show _ ≤ _; have := hkbl.out; omega
  have HQ := Lib.hid hQ
  have HN := Lib.hid hN
  have hCm : Hid (∀ X2 b d, Below w.heap.size w X2 → Sl X2 b m d bs → d ≤ maxLen → Calls Try.prog 174 #[.slice b m d, .slice ka kn kc] X2 fun e w' => e = .returned (.int .i64 (m : Nat)) ∧ Below X2.heap.size X2 w') := fun X2 b d q1 q2 q3 =>
    (keys_common X2 b ka m d kn kc bs key q2.at_ (hK.below q1).at_ q2.len hK.len (Nat.le_trans q2.cap q3) (Nat.le_trans hK.cap hK.capm)).mono fun e w' ⟨e1, q, e2⟩ => ⟨by rw [e1, hl, ← hm], by rw [e2]; exact below_drewN (Below.refl _ _) q⟩
  have hkn2 : kn = m + (r.length + 1) := by rw [← hK.len, hkey, List.length_append, List.length_cons, hm]
  have hb256 : b < 256 := hK.at_.1 b (by rw [hkey]; simp)
  obtain ⟨pk, rfl, y1, y2⟩ := hK.at_.2 m (by rw [hK.len]; omega)
  rw [show key.getD m 0 = b by rw [hkey, hm, List.getD, List.getElem?_append_right (Nat.le_refl _), Nat.sub_self]; rfl] at y2
  have hCc : Hid (∀ X2, Below w.heap.size w X2 → X2.cell? (pk.add m) = some (.int .u8 (b : Nat))) := fun X2 q => (q.cell y1).trans y2
  obtain ⟨p1, hp1⟩ : ∃ p1, p1 = m + 1 := ⟨_, rfl⟩
  have hwp : IntKind.i64.wrap ((m : Int) + 1) = (p1 : Nat) := by rw [hp1, show (m : Int) + 1 = ((m + 1 : Nat) : Int) by omega]; exact IntWalk.i64_in _ (by omega)
  have hcut : ∀ w, (Instr.slice 27 (.slice (some pk) kn kc) (some (.int .i64 (p1 : Nat))) none none).run Try.prog w = .ok (.slice (cutA (some pk) kc p1 1) (kn - p1) (kc - p1)) w := fun w => run_from8 w (some pk) kn kc p1 (by omega)
  have j1 : (m : Int) < (kn : Int) := by omega
  have j0 : (0 : Int) ≤ (m : Int) := by omega
  have j3 : (0 : Int) ≤ (p1 : Int) := by omega
  have j4 : (p1 : Int) ≤ (kn : Int) := by omega
  have j5 : ((m : Int) == (kn : Int)) = false := by rw [beq_eq_false_iff_ne]; omega
  rw [← hm, ← hp1, ← hkb] at hRec
  obtain ⟨kc2, hkc2⟩ : ∃ kc2, kc2 = kb ++ [b] := ⟨_, rfl⟩
  have HKC := Lib.hid hkc2
  rw [← hkc2] at hRec
  have HRec := Lib.hid hRec
  have hKid : Hid (∀ X2, Below w.heap.size w X2 → Calls Try.prog 20 #[.pointer (some ⟨n, 0, none⟩), .int .u8 (b : Nat)] X2 fun e w' => e = .returned (.pointer ak) ∧ Below X2.heap.size X2 w') := fun X2 q => by
    have := HN.out.kid X2 b q hb256
    rw [hkid] at this
    exact this
  obtain ⟨av, hav⟩ : ∃ av, av = A.isSome := ⟨_, rfl⟩
  have HAv := Lib.hid hav
  obtain ⟨c, t2, a, q1, q2, q3, q4, q5, q6, q7, q8⟩ := next_find hKs o7 o6 hC ((b : Int) + 1)
  have hNx : ∀ X2, Below w.heap.size w X2 → Calls Try.prog 18 #[.pointer (some ⟨n, 0, none⟩), .int .i64 ((b : Int) + 1)] X2 fun e w' => e = .returned (.tuple #[.int .u8 (c : Nat), .pointer a]) ∧ Below X2.heap.size X2 w' := fun X2 hX => by
    have := HN.out.next X2 ((b : Int) + 1) hX (by omega) (by omega)
    rw [q1] at this
    exact this
  have hw1 : IntKind.i64.wrap ((b : Int) + 1) = (b : Int) + 1 := IntWalk.i64_in _ (by omega)
  have hwc : IntKind.i64.wrap (b : Int) = (b : Int) := IntWalk.i64_in _ (by omega)
  have hBes : Hid (∀ X2 av vc bo2 cap2, Below w.heap.size w X2 → (∀ g, bo2 = some g → w.heap.size ≤ g) → WayAt X2 (.slice av kb.length vc) kb bo2 cap2 → _) := fun X2 av vc bo2 cap2 z1 z2 z3 => beside_next HQ.out hNx q2 q3 q4 q5 z1 z3 z2 hkb8.out (by have := hkbl.out; omega) (q7.imp id fun h => by have := hkbl.out; omega)
  rw [q6, ← hkb]
  obtain ⟨OB, hOB⟩ : ∃ OB, OB = prO (kb ++ [c]) (tl t2).head? := ⟨_, rfl⟩
  have hsplit : prO kb ((prO [b] A).or (prO [c] (tl t2).head?)) = (prO kc2 A).or OB := by rw [prO_or, prO_prO, prO_prO, hkc2, hOB]
  rw [← hOB] at hBes
  rw [hsplit]
  obtain ⟨AA, hAA⟩ : ∃ AA, AA = prO kc2 A := ⟨_, rfl⟩
  have hAs : AA.isSome = av := by rw [hAA, hav]; cases A <;> rfl
  rw [← hAA] at HRec ⊢
  obtain ⟨O, hO⟩ : ∃ O, O = AA.or OB := ⟨_, rfl⟩
  rw [← hO]
  have HO := Lib.hid hO
  clear hO
  have HAs := Lib.hid hAs
  clear q1 q2 q3 q4 q5 q6 q7 q8 hNx hOB hsplit hAA hav HAv hAs hRec y1 y2 hkn2 hb256 hp1 hkc2 hkid hkey
  clear hQ hN hb8 hb hW hlo hk hway hK hl hSk hm hkb
  clear hKs o6 o7 hC
  go_enter Try.func121, Try.ntmps121
  go_upto_region 1 with fail
  rw [← hX1]
  clear hX1
  go_upto_region 6 with (first
    | (at_builtin; have hg := S2; go_loud (refine wpList_append_way rfl (.tmp 26) (.tmp 27) rfl rfl S2.out.way ⟨X1.heap.size, 0, none⟩ m m bs hHM.out rfl hnews.out hkl.out hbl.out ?_); intro v3 w3 bo3 cap3 HW HG HM HKp
       have q1 := S2.out.app HW.out HG.out HM.out HKp.out
       rw [← HKB.out] at q1
       have S3 := Lib.hid q1
       obtain ⟨a3, hv3, sl3⟩ := q1.way.sl hkb8.out
       subst hv3
       have SL3 := Lib.hid sl3
       clear q1 sl3 HW HG HM HKp)
    | (go_at_call 174; refine (hCm.out _ _ _ B1.out P1.out (by unfold maxLen; have := HMM.out; omega)).mono ?_; rintro e w2 ⟨rfl, z2⟩
       have S2 := Lib.hid (S1.out.below z2)
       have hnews := Lib.hid (sl_news (P1.out.below z2) (Below.refl _ w2))
       clear z2)
    | (go_at_call 32; refine hPart.out.mono ?_; rintro e w1 ⟨rfl, s1, b1⟩
       have S1 := Lib.hid (S0.out.below b1)
       have P1 := Lib.hid s1
       have B1 := Lib.hid (HB1.out.trans (b1.mono HB1.out.size))
       clear s1 b1))
  clear hnews hPart hCm S0 S1 S2 P1
  go_quiet (fail)
  have S4 : Hid (WayS X1 v k bo cap (.slice a3 kb.length cap3) kb bo3 cap3 (w3.drewN nq)) := S3.out.below (below_drewN (Below.refl _ _) nq)
  have SL4 : Hid (Sl (w3.drewN nq) a3 kb.length cap3 kb) := SL3.out.drewN nq
  generalize w3.drewN nq = w4 at *
  clear S3 SL3
  have B4 := Lib.hid (S4.out.since HB1.out HLO.out).1
  have BO4 := Lib.hid (S4.out.since HB1.out HLO.out).2
  have hrr : ResC w4 (X.heap.size + 1) := (S4.out.block HXL.out HNE.out).trans HR.out
  obtain ⟨r0, r1, r2, r3⟩ := hrr.facts
  have sk : w4.cell? ⟨X.heap.size, 0, none⟩ = some (.bool s) := by rw [cell_of_blk ((S4.out.block (by have := HXL.out; omega) HNE0.out).trans HS.out.box)]; rfl
  clear hrr
  have kx := hCc.out w4 B4.out
  go_upto_region 12 with fail
  go_cut [14, 15] from 71 to 86 (fun s14 s15 w' => ∃ q a9 m9 c9, s14 = .pointer (some ⟨q, 0, none⟩) ∧ s15 = .bool AA.isSome ∧ Hid (BoxR X1 v k bo cap (.slice a3 kb.length cap3) kb bo3 cap3 q a9 m9 c9 (AA.getD ([], 0)).2 (AA.getD ([], 0)).1 w'))
  case first =>
    have hpb : Hid (∀ W, Below w4.heap.size w4 W → X1.heap.size ≤ W.heap.size) := fun W z => Nat.le_trans S4.out.mod.size z.size
    go_region_held3 (fun w' => w'.cell? ⟨X.heap.size, 0, none⟩ = some (.bool s)) (first | go_keep | exact sk_store PBk.out.res sk _ _ _ _)
      (first
        | (refine step_append_way (v := .slice a3 kb.length cap3) (by rfl) (.tmp 76) (.tmp 78) (by rfl) (by rfl) ((S5.out.below (by first | exact (Below.refl _ _).drew | exact (below_al _ _).drew | exact (below_al2 _ _ _).drew | exact (Below.refl _ _).drew.alloc (Nat.le_refl _) _ | exact ((Below.refl _ _).drew.alloc (Nat.le_refl _) _).alloc (by simp [World.size_alloc]) _ | exact Below.refl _ _ | exact below_al _ _ | exact below_al2 _ _ _))).way ⟨_, 0, none⟩ 1 1 [b] rfl (by rfl) (by first | exact hNewsK.out | exact news_b (Below.refl _ _) | exact news_c (Below.refl _ _) | exact news_a (Below.refl _ _) | exact fun j u h => ((below_al _ _).cell (cell_lt (hNewsK.out j u h))).trans (hNewsK.out j u h)) hkbL.out h1m.out ?_; intro v8 w8 bo8 cap8 HW HG HM HKp
           obtain ⟨W7, s7, t8⟩ := app_pack (S5.out.below (by first | exact (Below.refl _ _).drew | exact (below_al _ _).drew | exact (below_al2 _ _ _).drew | exact (Below.refl _ _).drew.alloc (Nat.le_refl _) _ | exact ((Below.refl _ _).drew.alloc (Nat.le_refl _) _).alloc (by simp [World.size_alloc]) _ | exact Below.refl _ _ | exact below_al _ _ | exact below_al2 _ _ _)) HW.out HG.out HM.out HKp.out
           rw [← HKC.out] at t8
           (first
             | (have PBk := Lib.hid (pb_off (PBk.out.next (by first | exact (Below.refl _ _).drew | exact (below_al _ _).drew | exact (below_al2 _ _ _).drew | exact (Below.refl _ _).drew.alloc (Nat.le_refl _) _ | exact ((Below.refl _ _).drew.alloc (Nat.le_refl _) _).alloc (by simp [World.size_alloc]) _ | exact Below.refl _ _ | exact below_al _ _ | exact below_al2 _ _ _)) (S5.out.below (by first | exact (Below.refl _ _).drew | exact (below_al _ _).drew | exact (below_al2 _ _ _).drew | exact (Below.refl _ _).drew.alloc (Nat.le_refl _) _ | exact ((Below.refl _ _).drew.alloc (Nat.le_refl _) _).alloc (by simp [World.size_alloc]) _ | exact Below.refl _ _ | exact below_al _ _ | exact below_al2 _ _ _)).way HM.out))
             | (have PBk := Lib.hid (pb_off (pb_b (hpb5.out _ (by first | exact (Below.refl _ _).drew | exact (below_al _ _).drew | exact (below_al2 _ _ _).drew | exact (Below.refl _ _).drew.alloc (Nat.le_refl _) _ | exact ((Below.refl _ _).drew.alloc (Nat.le_refl _) _).alloc (by simp [World.size_alloc]) _ | exact Below.refl _ _ | exact below_al _ _ | exact below_al2 _ _ _)) (Below.refl _ _)) (S5.out.below (by first | exact (Below.refl _ _).drew | exact (below_al _ _).drew | exact (below_al2 _ _ _).drew | exact (Below.refl _ _).drew.alloc (Nat.le_refl _) _ | exact ((Below.refl _ _).drew.alloc (Nat.le_refl _) _).alloc (by simp [World.size_alloc]) _ | exact Below.refl _ _ | exact below_al _ _ | exact below_al2 _ _ _)).way HM.out))
             | (have PBk := Lib.hid (pb_off (pb_c (hpb5.out _ (by first | exact (Below.refl _ _).drew | exact (below_al _ _).drew | exact (below_al2 _ _ _).drew | exact (Below.refl _ _).drew.alloc (Nat.le_refl _) _ | exact ((Below.refl _ _).drew.alloc (Nat.le_refl _) _).alloc (by simp [World.size_alloc]) _ | exact Below.refl _ _ | exact below_al _ _ | exact below_al2 _ _ _)) (Below.refl _ _)) (S5.out.below (by first | exact (Below.refl _ _).drew | exact (below_al _ _).drew | exact (below_al2 _ _ _).drew | exact (Below.refl _ _).drew.alloc (Nat.le_refl _) _ | exact ((Below.refl _ _).drew.alloc (Nat.le_refl _) _).alloc (by simp [World.size_alloc]) _ | exact Below.refl _ _ | exact below_al _ _ | exact below_al2 _ _ _)).way HM.out))
             | (have PBk := Lib.hid (pb_off (pb_a (hpb5.out _ (by first | exact (Below.refl _ _).drew | exact (below_al _ _).drew | exact (below_al2 _ _ _).drew | exact (Below.refl _ _).drew.alloc (Nat.le_refl _) _ | exact ((Below.refl _ _).drew.alloc (Nat.le_refl _) _).alloc (by simp [World.size_alloc]) _ | exact Below.refl _ _ | exact below_al _ _ | exact below_al2 _ _ _)) (Below.refl _ _)) (S5.out.below (by first | exact (Below.refl _ _).drew | exact (below_al _ _).drew | exact (below_al2 _ _ _).drew | exact (Below.refl _ _).drew.alloc (Nat.le_refl _) _ | exact ((Below.refl _ _).drew.alloc (Nat.le_refl _) _).alloc (by simp [World.size_alloc]) _ | exact Below.refl _ _ | exact below_al _ _ | exact below_al2 _ _ _)).way HM.out))
             | skip)
           have sk := sk_of (s7.told t8.mod t8.base) HS.out HNE0.out
           have S7 := Lib.hid s7
           have T8 := Lib.hid t8
           have q7 := Lib.hid (s7.since HB1.out HLO.out)
           have hpb8 : Hid (∀ W, Below w8.heap.size w8 W → X1.heap.size ≤ W.heap.size) := fun W z => Nat.le_trans (s7.told t8.mod t8.base).mod.size z.size
           clear s7 t8 HW HG HM HKp)
        | (go_simp; go_at_call 20; refine (hKid.out _ (B4.out.trans (Below.mono (by first | exact (Below.refl _ _).drew | exact (below_al _ _).drew | exact (below_al2 _ _ _).drew | exact (Below.refl _ _).drew.alloc (Nat.le_refl _) _ | exact ((Below.refl _ _).drew.alloc (Nat.le_refl _) _).alloc (by simp [World.size_alloc]) _ | exact Below.refl _ _ | exact below_al _ _ | exact below_al2 _ _ _) B4.out.size))).mono ?_; rintro e w5 ⟨rfl, z1⟩
           have b5 : Below w4.heap.size w4 w5 := below_then (by first | exact (Below.refl _ _).drew | exact (below_al _ _).drew | exact (below_al2 _ _ _).drew | exact (Below.refl _ _).drew.alloc (Nat.le_refl _) _ | exact ((Below.refl _ _).drew.alloc (Nat.le_refl _) _).alloc (by simp [World.size_alloc]) _ | exact Below.refl _ _ | exact below_al _ _ | exact below_al2 _ _ _) z1
           have S5 := Lib.hid (S4.out.below b5)
           have sk := sk_of S5.out HS.out HNE0.out
           (first
             | (have PBk := Lib.hid (pb_b (hpb.out _ (by first | exact (Below.refl _ _).drew | exact (below_al _ _).drew | exact (below_al2 _ _ _).drew | exact (Below.refl _ _).drew.alloc (Nat.le_refl _) _ | exact ((Below.refl _ _).drew.alloc (Nat.le_refl _) _).alloc (by simp [World.size_alloc]) _ | exact Below.refl _ _ | exact below_al _ _ | exact below_al2 _ _ _)) z1))
             | (have PBk := Lib.hid (pb_b (hpb.out _ (by first | exact (Below.refl _ _).drew | exact (below_al _ _).drew | exact (below_al2 _ _ _).drew | exact (Below.refl _ _).drew.alloc (Nat.le_refl _) _ | exact ((Below.refl _ _).drew.alloc (Nat.le_refl _) _).alloc (by simp [World.size_alloc]) _ | exact Below.refl _ _ | exact below_al _ _ | exact below_al2 _ _ _)) (below_then (Below.refl _ _).drew z1)))
             | (have PBk := Lib.hid (pb_c (hpb.out _ (by first | exact (Below.refl _ _).drew | exact (below_al _ _).drew | exact (below_al2 _ _ _).drew | exact (Below.refl _ _).drew.alloc (Nat.le_refl _) _ | exact ((Below.refl _ _).drew.alloc (Nat.le_refl _) _).alloc (by simp [World.size_alloc]) _ | exact Below.refl _ _ | exact below_al _ _ | exact below_al2 _ _ _)) z1))
             | (have PBk := Lib.hid (pb_c (hpb.out _ (by first | exact (Below.refl _ _).drew | exact (below_al _ _).drew | exact (below_al2 _ _ _).drew | exact (Below.refl _ _).drew.alloc (Nat.le_refl _) _ | exact ((Below.refl _ _).drew.alloc (Nat.le_refl _) _).alloc (by simp [World.size_alloc]) _ | exact Below.refl _ _ | exact below_al _ _ | exact below_al2 _ _ _)) (below_then (Below.refl _ _).drew z1)))
             | (have PBk := Lib.hid (pb_a (hpb.out _ (by first | exact (Below.refl _ _).drew | exact (below_al _ _).drew | exact (below_al2 _ _ _).drew | exact (Below.refl _ _).drew.alloc (Nat.le_refl _) _ | exact ((Below.refl _ _).drew.alloc (Nat.le_refl _) _).alloc (by simp [World.size_alloc]) _ | exact Below.refl _ _ | exact below_al _ _ | exact below_al2 _ _ _)) z1))
             | (have PBk := Lib.hid (pb_a (hpb.out _ (by first | exact (Below.refl _ _).drew | exact (below_al _ _).drew | exact (below_al2 _ _ _).drew | exact (Below.refl _ _).drew.alloc (Nat.le_refl _) _ | exact ((Below.refl _ _).drew.alloc (Nat.le_refl _) _).alloc (by simp [World.size_alloc]) _ | exact Below.refl _ _ | exact below_al _ _ | exact below_al2 _ _ _)) (below_then (Below.refl _ _).drew z1)))
             | skip)
           (first
             | (have hNewsK := Lib.hid (news_b (b := b) z1))
             | (have hNewsK := Lib.hid (news_b (b := b) (below_then (Below.refl _ _).drew z1)))
             | (have hNewsK := Lib.hid (news_c (b := b) z1))
             | (have hNewsK := Lib.hid (news_c (b := b) (below_then (Below.refl _ _).drew z1)))
             | (have hNewsK := Lib.hid (news_a (b := b) z1))
             | (have hNewsK := Lib.hid (news_a (b := b) (below_then (Below.refl _ _).drew z1)))
             | skip)
           have hpb5 : Hid (∀ W, Below w5.heap.size w5 W → X1.heap.size ≤ W.heap.size) := fun W z => hpb.out W (below_then b5 z)
           clear b5 z1)
        | (go_simp; go_at_call 121; refine (HRec.out _ _ _ _ ((T8.out.below (by first | exact (Below.refl _ _).drew | exact (below_al _ _).drew | exact (below_al2 _ _ _).drew | exact (Below.refl _ _).drew.alloc (Nat.le_refl _) _ | exact ((Below.refl _ _).drew.alloc (Nat.le_refl _) _).alloc (by simp [World.size_alloc]) _ | exact Below.refl _ _ | exact below_al _ _ | exact below_al2 _ _ _)).since q7.out.1 q7.out.2).1 ((T8.out.below (Below.refl _ _)).since q7.out.1 q7.out.2).2 (T8.out.below (by first | exact (Below.refl _ _).drew | exact (below_al _ _).drew | exact (below_al2 _ _ _).drew | exact (Below.refl _ _).drew.alloc (Nat.le_refl _) _ | exact ((Below.refl _ _).drew.alloc (Nat.le_refl _) _).alloc (by simp [World.size_alloc]) _ | exact Below.refl _ _ | exact below_al _ _ | exact below_al2 _ _ _)).way).mono ?_; rintro e w9 ⟨a9, m9, c9, rfl, s9, m9m, k9⟩
           have t9 := (T8.out.below (by first | exact (Below.refl _ _).drew | exact (below_al _ _).drew | exact (below_al2 _ _ _).drew | exact (Below.refl _ _).drew.alloc (Nat.le_refl _) _ | exact ((Below.refl _ _).drew.alloc (Nat.le_refl _) _).alloc (by simp [World.size_alloc]) _ | exact Below.refl _ _ | exact below_al _ _ | exact below_al2 _ _ _)).told m9m k9
           have S9 := Lib.hid (S7.out.told t9.mod t9.base)
           have sk := sk_of S9.out HS.out HNE0.out
           (first
             | (have PBk := Lib.hid (pb_off (PBk.out.next (by first | exact (Below.refl _ _).drew | exact (below_al _ _).drew | exact (below_al2 _ _ _).drew | exact (Below.refl _ _).drew.alloc (Nat.le_refl _) _ | exact ((Below.refl _ _).drew.alloc (Nat.le_refl _) _).alloc (by simp [World.size_alloc]) _ | exact Below.refl _ _ | exact below_al _ _ | exact below_al2 _ _ _)) (T8.out.below (by first | exact (Below.refl _ _).drew | exact (below_al _ _).drew | exact (below_al2 _ _ _).drew | exact (Below.refl _ _).drew.alloc (Nat.le_refl _) _ | exact ((Below.refl _ _).drew.alloc (Nat.le_refl _) _).alloc (by simp [World.size_alloc]) _ | exact Below.refl _ _ | exact below_al _ _ | exact below_al2 _ _ _)).way m9m))
             | (have PBk := Lib.hid (pb_off (pb_a (hpb8.out _ (by first | exact (Below.refl _ _).drew | exact (below_al _ _).drew | exact (below_al2 _ _ _).drew | exact (Below.refl _ _).drew.alloc (Nat.le_refl _) _ | exact ((Below.refl _ _).drew.alloc (Nat.le_refl _) _).alloc (by simp [World.size_alloc]) _ | exact Below.refl _ _ | exact below_al _ _ | exact below_al2 _ _ _)) (Below.refl _ _)) (T8.out.below (by first | exact (Below.refl _ _).drew | exact (below_al _ _).drew | exact (below_al2 _ _ _).drew | exact (Below.refl _ _).drew.alloc (Nat.le_refl _) _ | exact ((Below.refl _ _).drew.alloc (Nat.le_refl _) _).alloc (by simp [World.size_alloc]) _ | exact Below.refl _ _ | exact below_al _ _ | exact below_al2 _ _ _)).way m9m))
             | skip)
           (first | (obtain ⟨x0, x1, x2, x3⟩ := PBk.out.res.facts) | skip)
           have SL9 := Lib.hid s9
           clear s9 m9m k9 t9))
    all_goals
      (try simp only [Exit.then, Exit.inBlock])
      go_wp2_with fail
      go_meet
      case rel => first | exact ⟨_, _, _, _, rfl, rfl, box_old S9.out PBk.out SL9.out⟩ | exact ⟨_, _, _, _, rfl, rfl, box_new S9.out SL9.out⟩
  case rest =>
    obtain ⟨q, a9, m9, c9, rfl, rfl, hbx⟩ := hcut
    clear r0 r1 r2 r3 sk kx B4 S4 SL4
    have S := Lib.hid hbx.out.way
    have b0 := hbx.out.c0
    have b1 := hbx.out.c1
    have SL := Lib.hid hbx.out.sl
    have hrr : ResC wc (X.heap.size + 1) := (S.out.block HXL.out HNE.out).trans HR.out
    obtain ⟨r0, r1, r2, r3⟩ := hrr.facts
    have qs := S.out.since HB1.out HLO.out
    have hB5 := Lib.hid (hBes.out _ _ _ _ _ qs.1 qs.2 S.out.way)
    have QS := Lib.hid qs.1
    clear hbx hrr qs
    rcases AA with _ | ⟨ak1, av1⟩
    · have HO2 : Hid (O = OB) := by show _ = _; rw [HO.out, Option.none_or]
      clear HO
      simp only [Option.isSome_none, Option.getD_none] at b0 b1 SL ⊢
      go_wp2_with (first
        | (go_at_call 175; refine hB5.out.mono ?_; rintro e w6 ⟨a6, m6, c6, rfl, s6, z1, z2⟩
           have S6 := S.out.told z1 z2
           have hrr : ResC w6 (X.heap.size + 1) := (S6.block HXL.out HNE.out).trans HR.out
           obtain ⟨x0, x1, x2, x3⟩ := hrr.facts
           obtain ⟨c0, c1, q⟩ := nr_tell S6 HA.out HR.out (by omega) HNE.out (o := OB) (a := a6) (m := m6) (c := c6) s6 (y := (OB.getD ([], 0)).2) rfl (b := OB.isSome) rfl rfl
           have q := Lib.hid q
           clear hrr S6 s6 z1 z2))
      rw [HO2.out]
      (try simp only [Exit.inBlock, Exit.then])
      exact bodyPost_ret (v := .tuple #[.agg #[.slice a6 m6 c6, .int .u64 (OB.getD ([], 0)).2], .bool OB.isSome]) (by simp [results, Try.results121, go_sem, c0, c1]) rfl q.out
    · have HO2 : Hid (O = some (ak1, av1)) := by show _ = _; rw [HO.out, Option.some_or]
      clear HO
      simp only [Option.isSome_some, Option.getD_some] at b0 b1 SL ⊢
      obtain ⟨c0, c1, q⟩ := nr_tell S.out HA.out HR.out (by omega) HNE.out (o := some (ak1, av1)) (a := a9) (m := m9) (c := c9) SL.out (y := av1) rfl (b := true) rfl rfl
      have q := Lib.hid q
      go_wp2_with fail
      rw [HO2.out]
      (try simp only [Exit.inBlock, Exit.then])
      exact bodyPost_ret (v := .tuple #[.agg #[.slice a9 m9 c9, .int .u64 av1], .bool true]) (by simp [results, Try.results121, go_sem, c0, c1]) rfl q.out
end Go.Proofs.Ytkonbldjmcccmaa
/- near.down where the key goes further down. -/
namespace Go.Proofs.Ytkonbldjmcccmaa
open Go.RowKit
set_option maxHeartbeats 8000000 in
set_option maxRecDepth 100000 in
theorem downIn_t {w0 w X : World} {Q : List NP} (hQ : StoreP NoB w0 w Q) {n : Nat} {bs : List Nat} {val : Int} {leaf : Bool} {ks : Tr} {kk : KV} (hN : NodeW w n bs val true leaf (chain ks).length kk) (hKs : TreeIn Q 0 ks (.pointer none) kk) (o6 : IsK ks) (o7 : TOk ks) (hC : Can ks) (hb8 : ∀ x ∈ bs, x < 256) (hb : Below w.heap.size w X) {v : Value} {k : List Nat} {bo : Option Nat} {cap : Nat} (hW : WayAt X v k bo cap) (hlo : ∀ g, bo = some g → w.heap.size ≤ g) (hk : ∀ x ∈ k, x < 256) (hway : k.length + bs.length + tway ks ≤ 900000) {ka : Option Addr} {kn kc : Nat} {key : List Nat} (hK : Sl w ka kn kc key) (hkn : kn ≤ 1000) (s : Bool) {b : Nat} {r : List Nat} (hkey : key = bs ++ b :: r) {ak : Option Addr} (hkid : (kget kk b).getD (.pointer none) = .pointer ak) (A : PO) (hRec : ∀ W v' bo' cap', Below w.heap.size w W → (∀ g, bo' = some g → w.heap.size ≤ g) → WayAt W v' (k ++ bs ++ [b]) bo' cap' → Calls Try.prog 119 #[.agg #[.bool s], .pointer ak, v', .slice (cutA ka kc (bs.length + 1) 1) (kn - (bs.length + 1)) (kc - (bs.length + 1))] W (nrPost v' (k ++ bs ++ [b]) bo' cap' (prO (k ++ bs ++ [b]) A) W)) : Calls Try.prog 119 #[.agg #[.bool s], .pointer (some ⟨n, 0, none⟩), v, .slice ka kn kc] X (nrPost v k bo cap ((prO (k ++ bs) ((prO [b] A).or (nLast (prvT ks ((b : Int) - 1))))).or (ownO (k ++ bs) val true)) X) := by
  have hl : lcp bs key = bs.length := by rw [hkey]; have := lcp_pre bs [] (b :: r); rw [List.append_nil] at this; rw [this]; simp [lcp]
  obtain ⟨X1, hX1⟩ : ∃ X1, X1 = (X.alloc (.cells #[.bool s] skT)).alloc (.cells #[.slice none 0 0, .int .u64 0] apT) := ⟨_, rfl⟩
  have hSk : SkW s X X1 := by rw [hX1]; exact skw_new s X
  have HS := Lib.hid hSk
  have HA := Lib.hid hSk.since
  have HR := Lib.hid hSk.res
  have HB1 := Lib.hid (hb.trans (hSk.since.mono hb.size))
  have HLO := Lib.hid hlo
  have HNE : Hid (bo ≠ some (X.heap.size + 1)) := fun e => by have := hW.lt e; omega
  have HNE0 : Hid (bo ≠ some X.heap.size) := fun e => by have := hW.lt e; omega
  have HXL : Hid (X.heap.size + 1 < X1.heap.size) := hSk.lt
  have S0 : Hid (WayS X1 v k bo cap v k bo cap X1) := WayS.start (hW.below hSk.since)
  obtain ⟨m, hm⟩ : ∃ m, m = bs.length := ⟨_, rfl⟩
  have hPart := Lib.hid (part_is hN HB1.out hm)
  have hHM : Hid (bs.length = m) := hm.symm
  have hkl : Hid (k.length ≤ 1000000) := by show _ ≤ _; omega
  have hbl : Hid (bs.length ≤ 1000000) := by show _ ≤ _; omega
  have HK := Lib.hid hK
  have hmm : m ≤ 1000000 := by omega
  have HMM := Lib.hid hmm
  have h1m : Hid (1 ≤ 1000000) := by show _ ≤ _; omega
  obtain ⟨kb, hkb⟩ : ∃ kb, kb = k ++ bs := ⟨_, rfl⟩
  have HKB := Lib.hid hkb
  have hkb8 : Hid (∀ x ∈ kb, x < 256) := fun x hx => by
    rw [hkb] at hx
    rcases List.mem_append.1 hx with hx | hx
    · exact hk x hx
    · exact hb8 x hx
  have hkbl : Hid (kb.length + tway ks ≤ 900000) := by show _ ≤ _; rw [hkb, List.length_append]; exact hway
  have hkbL : Hid (kb.length ≤ 1000000) := by show _ ≤ _; have := hkbl.out; omega
  have HQ := Lib.hid hQ
  have HN := Lib.hid hN
  have hCm : Hid (∀ X2 b d, Below w.heap.size w X2 → Sl X2 b m d bs → d ≤ maxLen → Calls Try.prog 174 #[.slice b m d, .slice ka kn kc] X2 fun e w' => e = .returned (.int .i64 (m : Nat)) ∧ Below X2.heap.size X2 w') := fun X2 b d q1 q2 q3 =>
    (keys_common X2 b ka m d kn kc bs key q2.at_ (hK.below q1).at_ q2.len hK.len (Nat.le_trans q2.cap q3) (Nat.le_trans hK.cap hK.capm)).mono fun e w' ⟨e1, q, e2⟩ => ⟨by rw [e1, hl, ← hm], by rw [e2]; exact below_drewN (Below.refl _ _) q⟩
  have hkn2 : kn = m + (r.length + 1) := by rw [← hK.len, hkey, List.length_append, List.length_cons, hm]
  have hb256 : b < 256 := hK.at_.1 b (by rw [hkey]; simp)
  obtain ⟨pk, rfl, y1, y2⟩ := hK.at_.2 m (by rw [hK.len]; omega)
  rw [show key.getD m 0 = b by rw [hkey, hm, List.getD, List.getElem?_append_right (Nat.le_refl _), Nat.sub_self]; rfl] at y2
  have hCc : Hid (∀ X2, Below w.heap.size w X2 → X2.cell? (pk.add m) = some (.int .u8 (b : Nat))) := fun X2 q => (q.cell y1).trans y2
  obtain ⟨p1, hp1⟩ : ∃ p1, p1 = m + 1 := ⟨_, rfl⟩
  have hwp : IntKind.i64.wrap ((m : Int) + 1) = (p1 : Nat) := by rw [hp1, show (m : Int) + 1 = ((m + 1 : Nat) : Int) by omega]; exact IntWalk.i64_in _ (by omega)
  have hcut : ∀ w, (Instr.slice 27 (.slice (some pk) kn kc) (some (.int .i64 (p1 : Nat))) none none).run Try.prog w = .ok (.slice (cutA (some pk) kc p1 1) (kn - p1) (kc - p1)) w := fun w => run_from8 w (some pk) kn kc p1 (by omega)
  have j1 : (m : Int) < (kn : Int) := by omega
  have j0 : (0 : Int) ≤ (m : Int) := by omega
  have j3 : (0 : Int) ≤ (p1 : Int) := by omega
  have j4 : (p1 : Int) ≤ (kn : Int) := by omega
  have j5 : ((m : Int) == (kn : Int)) = false := by rw [beq_eq_false_iff_ne]; omega
  rw [← hm, ← hp1, ← hkb] at hRec
  obtain ⟨kc2, hkc2⟩ : ∃ kc2, kc2 = kb ++ [b] := ⟨_, rfl⟩
  have HKC := Lib.hid hkc2
  rw [← hkc2] at hRec
  have HRec := Lib.hid hRec
  have hKid : Hid (∀ X2, Below w.heap.size w X2 → Calls Try.prog 20 #[.pointer (some ⟨n, 0, none⟩), .int .u8 (b : Nat)] X2 fun e w' => e = .returned (.pointer ak) ∧ Below X2.heap.size X2 w') := fun X2 q => by
    have := HN.out.kid X2 b q hb256
    rw [hkid] at this
    exact this
  obtain ⟨av, hav⟩ : ∃ av, av = A.isSome := ⟨_, rfl⟩
  have HAv := Lib.hid hav
  obtain ⟨c, t2, a, q1, q2, q3, q4, q5, q6, q7, q8⟩ := prev_find' hKs o7 o6 hC ((b : Int) - 1)
  have hNx : ∀ X2, Below w.heap.size w X2 → Calls Try.prog 19 #[.pointer (some ⟨n, 0, none⟩), .int .i64 ((b : Int) - 1)] X2 fun e w' => e = .returned (.tuple #[.int .u8 (c : Nat), .pointer a]) ∧ Below X2.heap.size X2 w' := fun X2 hX => by
    have := HN.out.prev X2 ((b : Int) - 1) hX (by omega) (by omega)
    rw [q1] at this
    exact this
  have hw1 : IntKind.i64.wrap ((b : Int) - 1) = (b : Int) - 1 := IntWalk.i64_in _ (by omega)
  have hwc : IntKind.i64.wrap (b : Int) = (b : Int) := IntWalk.i64_in _ (by omega)
  have hBes : Hid (∀ X2 av vc bo2 cap2, Below w.heap.size w X2 → (∀ g, bo2 = some g → w.heap.size ≤ g) → WayAt X2 (.slice av kb.length vc) kb bo2 cap2 → _) := fun X2 av vc bo2 cap2 z1 z2 z3 => beside_prev HQ.out hNx q2 q3 q4 q5 z1 z3 z2 hkb8.out (by have := hkbl.out; omega) (q7.imp id fun h => by have := hkbl.out; omega)
  rw [q6, ← hkb]
  obtain ⟨OB, hOB⟩ : ∃ OB, OB = prO (kb ++ [c]) (tl t2).getLast? := ⟨_, rfl⟩
  have hsplit : prO kb ((prO [b] A).or (prO [c] (tl t2).getLast?)) = (prO kc2 A).or OB := by rw [prO_or, prO_prO, prO_prO, hkc2, hOB]
  rw [← hOB] at hBes
  rw [hsplit]
  obtain ⟨AA, hAA⟩ : ∃ AA, AA = prO kc2 A := ⟨_, rfl⟩
  have hAs : AA.isSome = av := by rw [hAA, hav]; cases A <;> rfl
  rw [← hAA] at HRec ⊢
  obtain ⟨O, hO⟩ : ∃ O, O = (AA.or OB).or (ownO kb val true) := ⟨_, rfl⟩
  rw [← hO]
  have HO := Lib.hid hO
  clear hO
  have HAs := Lib.hid hAs
  clear q1 q2 q3 q4 q5 q6 q7 q8 hNx hOB hsplit hAA hav HAv hAs hRec y1 y2 hkn2 hb256 hp1 hkc2 hkid hkey
  clear hQ hN hb8 hb hW hlo hk hway hK hl hSk hm hkb
  clear hKs o6 o7 hC
  go_enter Try.func119, Try.ntmps119
  go_upto_region 1 with fail
  rw [← hX1]
  clear hX1
  go_upto_region 6 with (first
    | (at_builtin; have hg := S2; go_loud (refine wpList_append_way rfl (.tmp 26) (.tmp 27) rfl rfl S2.out.way ⟨X1.heap.size, 0, none⟩ m m bs hHM.out rfl hnews.out hkl.out hbl.out ?_); intro v3 w3 bo3 cap3 HW HG HM HKp
       have q1 := S2.out.app HW.out HG.out HM.out HKp.out
       rw [← HKB.out] at q1
       have S3 := Lib.hid q1
       obtain ⟨a3, hv3, sl3⟩ := q1.way.sl hkb8.out
       subst hv3
       have SL3 := Lib.hid sl3
       clear q1 sl3 HW HG HM HKp)
    | (go_at_call 174; refine (hCm.out _ _ _ B1.out P1.out (by unfold maxLen; have := HMM.out; omega)).mono ?_; rintro e w2 ⟨rfl, z2⟩
       have S2 := Lib.hid (S1.out.below z2)
       have hnews := Lib.hid (sl_news (P1.out.below z2) (Below.refl _ w2))
       clear z2)
    | (go_at_call 32; refine hPart.out.mono ?_; rintro e w1 ⟨rfl, s1, b1⟩
       have S1 := Lib.hid (S0.out.below b1)
       have P1 := Lib.hid s1
       have B1 := Lib.hid (HB1.out.trans (b1.mono HB1.out.size))
       clear s1 b1))
  clear hnews hPart hCm S0 S1 S2 P1
  go_quiet (fail)
  have S4 : Hid (WayS X1 v k bo cap (.slice a3 kb.length cap3) kb bo3 cap3 (w3.drewN nq)) := S3.out.below (below_drewN (Below.refl _ _) nq)
  have SL4 : Hid (Sl (w3.drewN nq) a3 kb.length cap3 kb) := SL3.out.drewN nq
  generalize w3.drewN nq = w4 at *
  clear S3 SL3
  have B4 := Lib.hid (S4.out.since HB1.out HLO.out).1
  have BO4 := Lib.hid (S4.out.since HB1.out HLO.out).2
  have hrr : ResC w4 (X.heap.size + 1) := (S4.out.block HXL.out HNE.out).trans HR.out
  obtain ⟨r0, r1, r2, r3⟩ := hrr.facts
  have sk : w4.cell? ⟨X.heap.size, 0, none⟩ = some (.bool s) := by rw [cell_of_blk ((S4.out.block (by have := HXL.out; omega) HNE0.out).trans HS.out.box)]; rfl
  clear hrr
  have kx := hCc.out w4 B4.out
  go_upto_region 13 with fail
  go_cut [14, 15] from 86 to 101 (fun s14 s15 w' => ∃ q a9 m9 c9, s14 = .pointer (some ⟨q, 0, none⟩) ∧ s15 = .bool AA.isSome ∧ Hid (BoxR X1 v k bo cap (.slice a3 kb.length cap3) kb bo3 cap3 q a9 m9 c9 (AA.getD ([], 0)).2 (AA.getD ([], 0)).1 w'))
  case first =>
    have hpb : Hid (∀ W, Below w4.heap.size w4 W → X1.heap.size ≤ W.heap.size) := fun W z => Nat.le_trans S4.out.mod.size z.size
    go_region_held3 (fun w' => w'.cell? ⟨X.heap.size, 0, none⟩ = some (.bool s)) (first | go_keep | exact sk_store PBk.out.res sk _ _ _ _)
      (first
        | (refine step_append_way (v := .slice a3 kb.length cap3) (by rfl) (.tmp 91) (.tmp 93) (by rfl) (by rfl) ((S5.out.below (by first | exact (Below.refl _ _).drew | exact (below_al _ _).drew | exact (below_al2 _ _ _).drew | exact (Below.refl _ _).drew.alloc (Nat.le_refl _) _ | exact ((Below.refl _ _).drew.alloc (Nat.le_refl _) _).alloc (by simp [World.size_alloc]) _ | exact Below.refl _ _ | exact below_al _ _ | exact below_al2 _ _ _))).way ⟨_, 0, none⟩ 1 1 [b] rfl (by rfl) (by first | exact hNewsK.out | exact news_b (Below.refl _ _) | exact news_c (Below.refl _ _) | exact news_a (Below.refl _ _) | exact fun j u h => ((below_al _ _).cell (cell_lt (hNewsK.out j u h))).trans (hNewsK.out j u h)) hkbL.out h1m.out ?_; intro v8 w8 bo8 cap8 HW HG HM HKp
           obtain ⟨W7, s7, t8⟩ := app_pack (S5.out.below (by first | exact (Below.refl _ _).drew | exact (below_al _ _).drew | exact (below_al2 _ _ _).drew | exact (Below.refl _ _).drew.alloc (Nat.le_refl _) _ | exact ((Below.refl _ _).drew.alloc (Nat.le_refl _) _).alloc (by simp [World.size_alloc]) _ | exact Below.refl _ _ | exact below_al _ _ | exact below_al2 _ _ _)) HW.out HG.out HM.out HKp.out
           rw [← HKC.out] at t8
           (first
             | (have PBk := Lib.hid (pb_off (PBk.out.next (by first | exact (Below.refl _ _).drew | exact (below_al _ _).drew | exact (below_al2 _ _ _).drew | exact (Below.refl _ _).drew.alloc (Nat.le_refl _) _ | exact ((Below.refl _ _).drew.alloc (Nat.le_refl _) _).alloc (by simp [World.size_alloc]) _ | exact Below.refl _ _ | exact below_al _ _ | exact below_al2 _ _ _)) (S5.out.below (by first | exact (Below.refl _ _).drew | exact (below_al _ _).drew | exact (below_al2 _ _ _).drew | exact (Below.refl _ _).drew.alloc (Nat.le_refl _) _ | exact ((Below.refl _ _).drew.alloc (Nat.le_refl _) _).alloc (by simp [World.size_alloc]) _ | exact Below.refl _ _ | exact below_al _ _ | exact below_al2 _ _ _)).way HM.out))
             | (have PBk := Lib.hid (pb_off (pb_b (hpb5.out _ (by first | exact (Below.refl _ _).drew | exact (below_al _ _).drew | exact (below_al2 _ _ _).drew | exact (Below.refl _ _).drew.alloc (Nat.le_refl _) _ | exact ((Below.refl _ _).drew.alloc (Nat.le_refl _) _).alloc (by simp [World.size_alloc]) _ | exact Below.refl _ _ | exact below_al _ _ | exact below_al2 _ _ _)) (Below.refl _ _)) (S5.out.below (by first | exact (Below.refl _ _).drew | exact (below_al _ _).drew | exact (below_al2 _ _ _).drew | exact (Below.refl _ _).drew.alloc (Nat.le_refl _) _ | exact ((Below.refl _ _).drew.alloc (Nat.le_refl _) _).alloc (by simp [World.size_alloc]) _ | exact Below.refl _ _ | exact below_al _ _ | exact below_al2 _ _ _)).way HM.out))
             | (have PBk := Lib.hid (pb_off (pb_c (hpb5.out _ (by first | exact (Below.refl _ _).drew | exact (below_al _ _).drew | exact (below_al2 _ _ _).drew | exact (Below.refl _ _).drew.alloc (Nat.le_refl _) _ | exact ((Below.refl _ _).drew.alloc (Nat.le_refl _) _).alloc (by simp [World.size_alloc]) _ | exact Below.refl _ _ | exact below_al _ _ | exact below_al2 _ _ _)) (Below.refl _ _)) (S5.out.below (by first | exact (Below.refl _ _).drew | exact (below_al _ _).drew | exact (below_al2 _ _ _).drew | exact (Below.refl _ _).drew.alloc (Nat.le_refl _) _ | exact ((Below.refl _ _).drew.alloc (Nat.le_refl _) _).alloc (by simp [World.size_alloc]) _ | exact Below.refl _ _ | exact below_al _ _ | exact below_al2 _ _ _)).way HM.out))
             | (have PBk := Lib.hid (pb_off (pb_a (hpb5.out _ (by first | exact (Below.refl _ _).drew | exact (below_al _ _).drew | exact (below_al2 _ _ _).drew | exact (Below.refl _ _).drew.alloc (Nat.le_refl _) _ | exact ((Below.refl _ _).drew.alloc (Nat.le_refl _) _).alloc (by simp [World.size_alloc]) _ | exact Below.refl _ _ | exact below_al _ _ | exact below_al2 _ _ _)) (Below.refl _ _)) (S5.out.below (by first | exact (Below.refl _ _).drew | exact (below_al _ _).drew | exact (below_al2 _ _ _).drew | exact (Below.refl _ _).drew.alloc (Nat.le_refl _) _ | exact ((Below.refl _ _).drew.alloc (Nat.le_refl _) _).alloc (by simp [World.size_alloc]) _ | exact Below.refl _ _ | exact below_al _ _ | exact below_al2 _ _ _)).way HM.out))
             | skip)
           have sk := sk_of (s7.told t8.mod t8.base) HS.out HNE0.out
           have S7 := Lib.hid s7
           have T8 := Lib.hid t8
           have q7 := Lib.hid (s7.since HB1.out HLO.out)
           have hpb8 : Hid (∀ W, Below w8.heap.size w8 W → X1.heap.size ≤ W.heap.size) := fun W z => Nat.le_trans (s7.told t8.mod t8.base).mod.size z.size
           clear s7 t8 HW HG HM HKp)
        | (go_simp; go_at_call 20; refine (hKid.out _ (B4.out.trans (Below.mono (by first | exact (Below.refl _ _).drew | exact (below_al _ _).drew | exact (below_al2 _ _ _).drew | exact (Below.refl _ _).drew.alloc (Nat.le_refl _) _ | exact ((Below.refl _ _).drew.alloc (Nat.le_refl _) _).alloc (by simp [World.size_alloc]) _ | exact Below.refl _ _ | exact below_al _ _ | exact below_al2 _ _ _) B4.out.size))).mono ?_; rintro e w5 ⟨rfl, z1⟩
           have b5 : Below w4.heap.size w4 w5 := below_then (by first | exact (Below.refl _ _).drew | exact (below_al _ _).drew | exact (below_al2 _ _ _).drew | exact (Below.refl _ _).drew.alloc (Nat.le_refl _) _ | exact ((Below.refl _ _).drew.alloc (Nat.le_refl _) _).alloc (by simp [World.size_alloc]) _ | exact Below.refl _ _ | exact below_al _ _ | exact below_al2 _ _ _) z1
           have S5 := Lib.hid (S4.out.below b5)
           have sk := sk_of S5.out HS.out HNE0.out
           (first
             | (have PBk := Lib.hid (pb_b (hpb.out _ (by first | exact (Below.refl _ _).drew | exact (below_al _ _).drew | exact (below_al2 _ _ _).drew | exact (Below.refl _ _).drew.alloc (Nat.le_refl _) _ | exact ((Below.refl _ _).drew.alloc (Nat.le_refl _) _).alloc (by simp [World.size_alloc]) _ | exact Below.refl _ _ | exact below_al _ _ | exact below_al2 _ _ _)) z1))
             | (have PBk := Lib.hid (pb_b (hpb.out _ (by first | exact (Below.refl _ _).drew | exact (below_al _ _).drew | exact (below_al2 _ _ _).drew | exact (Below.refl _ _).drew.alloc (Nat.le_refl _) _ | exact ((Below.refl _ _).drew.alloc (Nat.le_refl _) _).alloc (by simp [World.size_alloc]) _ | exact Below.refl _ _ | exact below_al _ _ | exact below_al2 _ _ _)) (below_then (Below.refl _ _).drew z1)))
             | (have PBk := Lib.hid (pb_c (hpb.out _ (by first | exact (Below.refl _ _).drew | exact (below_al _ _).drew | exact (below_al2 _ _ _).drew | exact (Below.refl _ _).drew.alloc (Nat.le_refl _) _ | exact ((Below.refl _ _).drew.alloc (Nat.le_refl _) _).alloc (by simp [World.size_alloc]) _ | exact Below.refl _ _ | exact below_al _ _ | exact below_al2 _ _ _)) z1))
             | (have PBk := Lib.hid (pb_c (hpb.out _ (by first | exact (Below.refl _ _).drew | exact (below_al _ _).drew | exact (below_al2 _ _ _).drew | exact (Below.refl _ _).drew.alloc (Nat.le_refl _) _ | exact ((Below.refl _ _).drew.alloc (Nat.le_refl _) _).alloc (by simp [World.size_alloc]) _ | exact Below.refl _ _ | exact below_al _ _ | exact below_al2 _ _ _)) (below_then (Below.refl _ _).drew z1)))
             | (have PBk := Lib.hid (pb_a (hpb.out _ (by first | exact (Below.refl _ _).drew | exact (below_al _ _).drew | exact (below_al2 _ _ _).drew | exact (Below.refl _ _).drew.alloc (Nat.le_refl _) _ | exact ((Below.refl _ _).drew.alloc (Nat.le_refl _) _).alloc (by simp [World.size_alloc]) _ | exact Below.refl _ _ | exact below_al _ _ | exact below_al2 _ _ _)) z1))
             | (have PBk := Lib.hid (pb_a (hpb.out _ (by first | exact (Below.refl _ _).drew | exact (below_al _ _).drew | exact (below_al2 _ _ _).drew | exact (Below.refl _ _).drew.alloc (Nat.le_refl _) _ | exact ((Below.refl _ _).drew.alloc (Nat.le_refl _) _).alloc (by simp [World.size_alloc]) _ | exact Below.refl _ _ | exact below_al _ _ | exact below_al2 _ _ _)) (below_then (Below.refl _ _).drew z1)))
             | skip)
           (first
             | (have hNewsK := Lib.hid (news_b (b := b) z1))
             | (have hNewsK := Lib.hid (news_b (b := b) (below_then (Below.refl _ _).drew z1)))
             | (have hNewsK := Lib.hid (news_c (b := b) z1))
             | (have hNewsK := Lib.hid (news_c (b := b) (below_then (Below.refl _ _).drew z1)))
             | (have hNewsK := Lib.hid (news_a (b := b) z1))
             | (have hNewsK := Lib.hid (news_a (b := b) (below_then (Below.refl _ _).drew z1)))
             | skip)
           have hpb5 : Hid (∀ W, Below w5.heap.size w5 W → X1.heap.size ≤ W.heap.size) := fun W z => hpb.out W (below_then b5 z)
           clear b5 z1)
        | (go_simp; go_at_call 119; refine (HRec.out _ _ _ _ ((T8.out.below (by first | exact (Below.refl _ _).drew | exact (below_al _ _).drew | exact (below_al2 _ _ _).drew | exact (Below.refl _ _).drew.alloc (Nat.le_refl _) _ | exact ((Below.refl _ _).drew.alloc (Nat.le_refl _) _).alloc (by simp [World.size_alloc]) _ | exact Below.refl _ _ | exact below_al _ _ | exact below_al2 _ _ _)).since q7.out.1 q7.out.2).1 ((T8.out.below (Below.refl _ _)).since q7.out.1 q7.out.2).2 (T8.out.below (by first | exact (Below.refl _ _).drew | exact (below_al _ _).drew | exact (below_al2 _ _ _).drew | exact (Below.refl _ _).drew.alloc (Nat.le_refl _) _ | exact ((Below.refl _ _).drew.alloc (Nat.le_refl _) _).alloc (by simp [World.size_alloc]) _ | exact Below.refl _ _ | exact below_al _ _ | exact below_al2 _ _ _)).way).mono ?_; rintro e w9 ⟨a9, m9, c9, rfl, s9, m9m, k9⟩
           have t9 := (T8.out.below (by first | exact (Below.refl _ _).drew | exact (below_al _ _).drew | exact (below_al2 _ _ _).drew | exact (Below.refl _ _).drew.alloc (Nat.le_refl _) _ | exact ((Below.refl _ _).drew.alloc (Nat.le_refl _) _).alloc (by simp [World.size_alloc]) _ | exact Below.refl _ _ | exact below_al _ _ | exact below_al2 _ _ _)).told m9m k9
           have S9 := Lib.hid (S7.out.told t9.mod t9.base)
           have sk := sk_of S9.out HS.out HNE0.out
           (first
             | (have PBk := Lib.hid (pb_off (PBk.out.next (by first | exact (Below.refl _ _).drew | exact (below_al _ _).drew | exact (below_al2 _ _ _).drew | exact (Below.refl _ _).drew.alloc (Nat.le_refl _) _ | exact ((Below.refl _ _).drew.alloc (Nat.le_refl _) _).alloc (by simp [World.size_alloc]) _ | exact Below.refl _ _ | exact below_al _ _ | exact below_al2 _ _ _)) (T8.out.below (by first | exact (Below.refl _ _).drew | exact (below_al _ _).drew | exact (below_al2 _ _ _).drew | exact (Below.refl _ _).drew.alloc (Nat.le_refl _) _ | exact ((Below.refl _ _).drew.alloc (Nat.le_refl _) _).alloc (by simp [World.size_alloc]) _ | exact Below.refl _ _ | exact below_al _ _ | exact below_al2 _ _ _)).way m9m))
             | (have PBk := Lib.hid (pb_off (pb_a (hpb8.out _ (by first | exact (Below.refl _ _).drew | exact (below_al _ _).drew | exact (below_al2 _ _ _).drew | exact (Below.refl _ _).drew.alloc (Nat.le_refl _) _ | exact ((Below.refl _ _).drew.alloc (Nat.le_refl _) _).alloc (by simp [World.size_alloc]) _ | exact Below.refl _ _ | exact below_al _ _ | exact below_al2 _ _ _)) (Below.refl _ _)) (T8.out.below (by first | exact (Below.refl _ _).drew | exact (below_al _ _).drew | exact (below_al2 _ _ _).drew | exact (Below.refl _ _).drew.alloc (Nat.le_refl _) _ | exact ((Below.refl _ _).drew.alloc (Nat.le_refl _) _).alloc (by simp [World.size_alloc]) _ | exact Below.refl _ _ | exact below_al _ _ | exact below_al2 _ _ _)).way m9m))
             | skip)
           (first | (obtain ⟨x0, x1, x2, x3⟩ := PBk.out.res.facts) | skip)
           have SL9 := Lib.hid s9
           clear s9 m9m k9 t9))
    all_goals
      (try simp only [Exit.then, Exit.inBlock])
      go_wp2_with fail
      go_meet
      case rel => first | exact ⟨_, _, _, _, rfl, rfl, box_old S9.out PBk.out SL9.out⟩ | exact ⟨_, _, _, _, rfl, rfl, box_new S9.out SL9.out⟩
  case rest =>
    obtain ⟨q, a9, m9, c9, rfl, rfl, hbx⟩ := hcut
    clear r0 r1 r2 r3 sk kx B4 S4 SL4
    have S := Lib.hid hbx.out.way
    have b0 := hbx.out.c0
    have b1 := hbx.out.c1
    have SL := Lib.hid hbx.out.sl
    have hrr : ResC wc (X.heap.size + 1) := (S.out.block HXL.out HNE.out).trans HR.out
    obtain ⟨r0, r1, r2, r3⟩ := hrr.facts
    have qs := S.out.since HB1.out HLO.out
    have hB5 := Lib.hid (hBes.out _ _ _ _ _ qs.1 qs.2 S.out.way)
    have QS := Lib.hid qs.1
    clear hbx hrr qs
    rcases AA with _ | ⟨ak1, av1⟩
    · have HO2 : Hid (O = OB.or (ownO kb val true)) := by show _ = _; rw [HO.out, Option.none_or]
      clear HO
      simp only [Option.isSome_none, Option.getD_none] at b0 b1 SL ⊢
      rcases OB with _ | ⟨bk1, bv1⟩
      · have HO3 : Hid (O = some (kb, val)) := by show _ = _; rw [HO2.out, Option.none_or]; rfl
        clear HO2
        go_wp2_with (first
          | (go_at_call 173; refine (hOwn.out _ _ _).mono ?_; rintro e w7 ⟨rfl, b7⟩
             have S7 := S6.out.below b7
             have hrr : ResC w7 (X.heap.size + 1) := (S7.block HXL.out HNE.out).trans HR.out
             obtain ⟨x0, x1, x2, x3⟩ := hrr.facts
             obtain ⟨a0, h0, sl0⟩ := S7.way.sl hkb8.out
             have h0 : a3 = a0 := by injection h0
             subst h0
             obtain ⟨c0, c1, q⟩ := nr_tell S7 HA.out HR.out (by omega) HNE.out (o := some (kb, val)) (a := a3) (m := kb.length) (c := cap3) sl0 (y := val) rfl (b := true) rfl rfl
             have q := Lib.hid q
             clear hrr S7 b7 sl0)
          | (go_at_call 175; refine hB5.out.mono ?_; rintro e w6 ⟨a6, m6, c6, rfl, s6, z1, z2⟩
             have S6 := Lib.hid ((S.out.told z1 z2).below (below_al w6 (.cells #[.slice a6 m6 c6, .int .u64 0] apT)))
             have hOwn := Lib.hid (own_some HN.out (S6.out.since HB1.out HLO.out).1)
             clear s6 z1 z2))
        rw [HO3.out]
        (try simp only [Exit.inBlock, Exit.then])
        exact bodyPost_ret (v := .tuple #[.agg #[.slice a3 kb.length cap3, .int .u64 val], .bool true]) (by simp [results, Try.results119, go_sem, c0, c1]) rfl q.out
      · have HO3 : Hid (O = some (bk1, bv1)) := by show _ = _; rw [HO2.out, Option.some_or]
        clear HO2
        go_wp2_with (first
          | (go_at_call 175; refine hB5.out.mono ?_; rintro e w6 ⟨a6, m6, c6, rfl, s6, z1, z2⟩
             have S6 := (S.out.told z1 z2).below (below_al w6 (.cells #[.slice a6 m6 c6, .int .u64 bv1] apT))
             have hrr : ResC (w6.alloc (.cells #[.slice a6 m6 c6, .int .u64 bv1] apT)) (X.heap.size + 1) := (S6.block HXL.out HNE.out).trans HR.out
             obtain ⟨x0, x1, x2, x3⟩ := hrr.facts
             obtain ⟨c0, c1, q⟩ := nr_tell S6 HA.out HR.out (by omega) HNE.out (o := some (bk1, bv1)) (a := a6) (m := m6) (c := c6) (s6.below (below_al _ _)) (y := bv1) rfl (b := true) rfl rfl
             have q := Lib.hid q
             clear hrr S6 s6 z1 z2))
        rw [HO3.out]
        (try simp only [Exit.inBlock, Exit.then])
        exact bodyPost_ret (v := .tuple #[.agg #[.slice a6 m6 c6, .int .u64 bv1], .bool true]) (by simp [results, Try.results119, go_sem, c0, c1]) rfl q.out
    · have HO2 : Hid (O = some (ak1, av1)) := by show _ = _; rw [HO.out, Option.some_or]; rfl
      clear HO
      simp only [Option.isSome_some, Option.getD_some] at b0 b1 SL ⊢
      obtain ⟨c0, c1, q⟩ := nr_tell S.out HA.out HR.out (by omega) HNE.out (o := some (ak1, av1)) (a := a9) (m := m9) (c := c9) SL.out (y := av1) rfl (b := true) rfl rfl
      have q := Lib.hid q
      go_wp2_with fail
      rw [HO2.out]
      (try simp only [Exit.inBlock, Exit.then])
      exact bodyPost_ret (v := .tuple #[.agg #[.slice a9 m9 c9, .int .u64 av1], .bool true]) (by simp [results, Try.results119, go_sem, c0, c1]) rfl q.out
end Go.Proofs.Ytkonbldjmcccmaa
/- near.down where the key goes further down. -/
namespace Go.Proofs.Ytkonbldjmcccmaa
open Go.RowKit
set_option maxHeartbeats 8000000 in
set_option maxRecDepth 100000 in
theorem downIn_f {w0 w X : World} {Q : List NP} (hQ : StoreP NoB w0 w Q) {n : Nat} {bs : List Nat} {val : Int} {leaf : Bool} {ks : Tr} {kk : KV} (hN : NodeW w n bs val false leaf (chain ks).length kk) (hKs : TreeIn Q 0 ks (.pointer none) kk) (o6 : IsK ks) (o7 : TOk ks) (hC : Can ks) (hb8 : ∀ x ∈ bs, x < 256) (hb : Below w.heap.size w X) {v : Value} {k : List Nat} {bo : Option Nat} {cap : Nat} (hW : WayAt X v k bo cap) (hlo : ∀ g, bo = some g → w.heap.size ≤ g) (hk : ∀ x ∈ k, x < 256) (hway : k.length + bs.length + tway ks ≤ 900000) {ka : Option Addr} {kn kc : Nat} {key : List Nat} (hK : Sl w ka kn kc key) (hkn : kn ≤ 1000) (s : Bool) {b : Nat} {r : List Nat} (hkey : key = bs ++ b :: r) {ak : Option Addr} (hkid : (kget kk b).getD (.pointer none) = .pointer ak) (A : PO) (hRec : ∀ W v' bo' cap', Below w.heap.size w W → (∀ g, bo' = some g → w.heap.size ≤ g) → WayAt W v' (k ++ bs ++ [b]) bo' cap' → Calls Try.prog 119 #[.agg #[.bool s], .pointer ak, v', .slice (cutA ka kc (bs.length + 1) 1) (kn - (bs.length + 1)) (kc - (bs.length + 1))] W (nrPost v' (k ++ bs ++ [b]) bo' cap' (prO (k ++ bs ++ [b]) A) W)) : Calls Try.prog 119 #[.agg #[.bool s], .pointer (some ⟨n, 0, none⟩), v, .slice ka kn kc] X (nrPost v k bo cap ((prO (k ++ bs) ((prO [b] A).or (nLast (prvT ks ((b : Int) - 1))))).or (ownO (k ++ bs) val false)) X) := by
  have hl : lcp bs key = bs.length := by rw [hkey]; have := lcp_pre bs [] (b :: r); rw [List.append_nil] at this; rw [this]; simp [lcp]
  obtain ⟨X1, hX1⟩ : ∃ X1, X1 = (X.alloc (.cells #[.bool s] skT)).alloc (.cells #[.slice none 0 0, .int .u64 0] apT) := ⟨_, rfl⟩
  have hSk : SkW s X X1 := by rw [hX1]; exact skw_new s X
  have HS := Lib.hid hSk
  have HA := Lib.hid hSk.since
  have HR := Lib.hid hSk.res
  have HB1 := Lib.hid (hb.trans (hSk.since.mono hb.size))
  have HLO := Lib.hid hlo
  have HNE : Hid (bo ≠ some (X.heap.size + 1)) := fun e => by have := hW.lt e; omega
  have HNE0 : Hid (bo ≠ some X.heap.size) := fun e => by have := hW.lt e; omega
  have HXL : Hid (X.heap.size + 1 < X1.heap.size) := hSk.lt
  have S0 : Hid (WayS X1 v k bo cap v k bo cap X1) := WayS.start (hW.below hSk.since)
  obtain ⟨m, hm⟩ : ∃ m, m = bs.length := ⟨_, rfl⟩
  have hPart := Lib.hid (part_is hN HB1.out hm)
  have hHM : Hid (bs.length = m) := hm.symm
  have hkl : Hid (k.length ≤ 1000000) := by show _ ≤ _; omega
  have hbl : Hid (bs.length ≤ 1000000) := by show _ ≤ _; omega
  have HK := Lib.hid hK
  have hmm : m ≤ 1000000 := by omega
  have HMM := Lib.hid hmm
  have h1m : Hid (1 ≤ 1000000) := by show _ ≤ _; omega
  obtain ⟨kb, hkb⟩ : ∃ kb, kb = k ++ bs := ⟨_, rfl⟩
  have HKB := Lib.hid hkb
  have hkb8 : Hid (∀ x ∈ kb, x < 256) := fun x hx => by
    rw [hkb] at hx
    rcases List.mem_append.1 hx with hx | hx
    · exact hk x hx
    · exact hb8 x hx
  have hkbl : Hid (kb.length + tway ks ≤ 900000) := by show _ ≤ _; rw [hkb, List.length_append]; exact hway
  have hkbL : Hid (kb.length ≤ 1000000) := by show _ ≤ _; have := hkbl.out; omega
  have HQ := Lib.hid hQ
  have HN := Lib.hid hN
  have hCm : Hid (∀ X2 b d, Below w.heap.size w X2 → Sl X2 b m d bs → d ≤ maxLen → Calls Try.prog 174 #[.slice b m d, .slice ka kn kc] X2 fun e w' => e = .returned (.int .i64 (m : Nat)) ∧ Below X2.heap.size X2 w') := fun X2 b d q1 q2 q3 =>
    (keys_common X2 b ka m d kn kc bs key q2.at_ (hK.below q1).at_ q2.len hK.len (Nat.le_trans q2.cap q3) (Nat.le_trans hK.cap hK.capm)).mono fun e w' ⟨e1, q, e2⟩ => ⟨by rw [e1, hl, ← hm], by rw [e2]; exact below_drewN (Below.refl _ _) q⟩
  have hkn2 : kn = m + (r.length + 1) := by rw [← hK.len, hkey, List.length_append, List.length_cons, hm]
  have hb256 : b < 256 := hK.at_.1 b (by rw [hkey]; simp)
  obtain ⟨pk, rfl, y1, y2⟩ := hK.at_.2 m (by rw [hK.len]; omega)
  rw [show key.getD m 0 = b by rw [hkey, hm, List.getD, List.getElem?_append_right (Nat.le_refl _), Nat.sub_self]; rfl] at y2
  have hCc : Hid (∀ X2, Below w.heap.size w X2 → X2.cell? (pk.add m) = some (.int .u8 (b : Nat))) := fun X2 q => (q.cell y1).trans y2
  obtain ⟨p1, hp1⟩ : ∃ p1, p1 = m + 1 := ⟨_, rfl⟩
  have hwp : IntKind.i64.wrap ((m : Int) + 1) = (p1 : Nat) := by rw [hp1, show (m : Int) + 1 = ((m + 1 : Nat) : Int) by omega]; exact IntWalk.i64_in _ (by omega)
  have hcut : ∀ w, (Instr.slice 27 (.slice (some pk) kn kc) (some (.int .i64 (p1 : Nat))) none none).run Try.prog w = .ok (.slice (cutA (some pk) kc p1 1) (kn - p1) (kc - p1)) w := fun w => run_from8 w (some pk) kn kc p1 (by omega)
  have j1 : (m : Int) < (kn : Int) := by omega
  have j0 : (0 : Int) ≤ (m : Int) := by omega
  have j3 : (0 : Int) ≤ (p1 : Int) := by omega
  have j4 : (p1 : Int) ≤ (kn : Int) := by omega
  have j5 : ((m : Int) == (kn : Int)) = false := by rw [beq_eq_false_iff_ne]; omega
  rw [← hm, ← hp1, ← hkb] at hRec
  obtain ⟨kc2, hkc2⟩ : ∃ kc2, kc2 = kb ++ [b] := ⟨_, rfl⟩
  have HKC := Lib.hid hkc2
  rw [← hkc2] at hRec
  have HRec := Lib.hid hRec
  have hKid : Hid (∀ X2, Below w.heap.size w X2 → Calls Try.prog 20 #[.pointer (some ⟨n, 0, none⟩), .int .u8 (b : Nat)] X2 fun e w' => e = .returned (.pointer ak) ∧ Below X2.heap.size X2 w') := fun X2 q => by
    have := HN.out.kid X2 b q hb256
    rw [hkid] at this
    exact this
  obtain ⟨av, hav⟩ : ∃ av, av = A.isSome := ⟨_, rfl⟩
  have HAv := Lib.hid hav
  obtain ⟨c, t2, a, q1, q2, q3, q4, q5, q6, q7, q8⟩ := prev_find' hKs o7 o6 hC ((b : Int) - 1)
  have hNx : ∀ X2, Below w.heap.size w X2 → Calls Try.prog 19 #[.pointer (some ⟨n, 0, none⟩), .int .i64 ((b : Int) - 1)] X2 fun e w' => e = .returned (.tuple #[.int .u8 (c : Nat), .pointer a]) ∧ Below X2.heap.size X2 w' := fun X2 hX => by
    have := HN.out.prev X2 ((b : Int) - 1) hX (by omega) (by omega)
    rw [q1] at this
    exact this
  have hw1 : IntKind.i64.wrap ((b : Int) - 1) = (b : Int) - 1 := IntWalk.i64_in _ (by omega)
  have hwc : IntKind.i64.wrap (b : Int) = (b : Int) := IntWalk.i64_in _ (by omega)
  have hBes : Hid (∀ X2 av vc bo2 cap2, Below w.heap.size w X2 → (∀ g, bo2 = some g → w.heap.size ≤ g) → WayAt X2 (.slice av kb.length vc) kb bo2 cap2 → _) := fun X2 av vc bo2 cap2 z1 z2 z3 => beside_prev HQ.out hNx q2 q3 q4 q5 z1 z3 z2 hkb8.out (by have := hkbl.out; omega) (q7.imp id fun h => by have := hkbl.out; omega)
  rw [q6, ← hkb]
  obtain ⟨OB, hOB⟩ : ∃ OB, OB = prO (kb ++ [c]) (tl t2).getLast? := ⟨_, rfl⟩
  have hsplit : prO kb ((prO [b] A).or (prO [c] (tl t2).getLast?)) = (prO kc2 A).or OB := by rw [prO_or, prO_prO, prO_prO, hkc2, hOB]
  rw [← hOB] at hBes
  rw [hsplit]
  obtain ⟨AA, hAA⟩ : ∃ AA, AA = prO kc2 A := ⟨_, rfl⟩
  have hAs : AA.isSome = av := by rw [hAA, hav]; cases A <;> rfl
  rw [← hAA] at HRec ⊢
  obtain ⟨O, hO⟩ : ∃ O, O = (AA.or OB).or (ownO kb val false) := ⟨_, rfl⟩
  rw [← hO]
  have HO := Lib.hid hO
  clear hO
  have HAs := Lib.hid hAs
  clear q1 q2 q3 q4 q5 q6 q7 q8 hNx hOB hsplit hAA hav HAv hAs hRec y1 y2 hkn2 hb256 hp1 hkc2 hkid hkey
  clear hQ hN hb8 hb hW hlo hk hway hK hl hSk hm hkb
  clear hKs o6 o7 hC
  go_enter Try.func119, Try.ntmps119
  go_upto_region 1 with fail
  rw [← hX1]
  clear hX1
  go_upto_region 6 with (first
    | (at_builtin; have hg := S2; go_loud (refine wpList_append_way rfl (.tmp 26) (.tmp 27) rfl rfl S2.out.way ⟨X1.heap.size, 0, none⟩ m m bs hHM.out rfl hnews.out hkl.out hbl.out ?_); intro v3 w3 bo3 cap3 HW HG HM HKp
       have q1 := S2.out.app HW.out HG.out HM.out HKp.out
       rw [← HKB.out] at q1
       have S3 := Lib.hid q1
       obtain ⟨a3, hv3, sl3⟩ := q1.way.sl hkb8.out
       subst hv3
       have SL3 := Lib.hid sl3
       clear q1 sl3 HW HG HM HKp)
    | (go_at_call 174; refine (hCm.out _ _ _ B1.out P1.out (by unfold maxLen; have := HMM.out; omega)).mono ?_; rintro e w2 ⟨rfl, z2⟩
       have S2 := Lib.hid (S1.out.below z2)
       have hnews := Lib.hid (sl_news (P1.out.below z2) (Below.refl _ w2))
       clear z2)
    | (go_at_call 32; refine hPart.out.mono ?_; rintro e w1 ⟨rfl, s1, b1⟩
       have S1 := Lib.hid (S0.out.below b1)
       have P1 := Lib.hid s1
       have B1 := Lib.hid (HB1.out.trans (b1.mono HB1.out.size))
       clear s1 b1))
  clear hnews hPart hCm S0 S1 S2 P1
  go_quiet (fail)
  have S4 : Hid (WayS X1 v k bo cap (.slice a3 kb.length cap3) kb bo3 cap3 (w3.drewN nq)) := S3.out.below (below_drewN (Below.refl _ _) nq)
  have SL4 : Hid (Sl (w3.drewN nq) a3 kb.length cap3 kb) := SL3.out.drewN nq
  generalize w3.drewN nq = w4 at *
  clear S3 SL3
  have B4 := Lib.hid (S4.out.since HB1.out HLO.out).1
  have BO4 := Lib.hid (S4.out.since HB1.out HLO.out).2
  have hrr : ResC w4 (X.heap.size + 1) := (S4.out.block HXL.out HNE.out).trans HR.out
  obtain ⟨r0, r1, r2, r3⟩ := hrr.facts
  have sk : w4.cell? ⟨X.heap.size, 0, none⟩ = some (.bool s) := by rw [cell_of_blk ((S4.out.block (by have := HXL.out; omega) HNE0.out).trans HS.out.box)]; rfl
  clear hrr
  have kx := hCc.out w4 B4.out
  go_upto_region 13 with fail
  go_cut [14, 15] from 86 to 101 (fun s14 s15 w' => ∃ q a9 m9 c9, s14 = .pointer (some ⟨q, 0, none⟩) ∧ s15 = .bool AA.isSome ∧ Hid (BoxR X1 v k bo cap (.slice a3 kb.length cap3) kb bo3 cap3 q a9 m9 c9 (AA.getD ([], 0)).2 (AA.getD ([], 0)).1 w'))
  case first =>
    have hpb : Hid (∀ W, Below w4.heap.size w4 W → X1.heap.size ≤ W.heap.size) := fun W z => Nat.le_trans S4.out.mod.size z.size
    go_region_held3 (fun w' => w'.cell? ⟨X.heap.size, 0, none⟩ = some (.bool s)) (first | go_keep | exact sk_store PBk.out.res sk _ _ _ _)
      (first
        | (refine step_append_way (v := .slice a3 kb.length cap3) (by rfl) (.tmp 91) (.tmp 93) (by rfl) (by rfl) ((S5.out.below (by first | exact (Below.refl _ _).drew | exact (below_al _ _).drew | exact (below_al2 _ _ _).drew | exact (Below.refl _ _).drew.alloc (Nat.le_refl _) _ | exact ((Below.refl _ _).drew.alloc (Nat.le_refl _) _).alloc (by simp [World.size_alloc]) _ | exact Below.refl _ _ | exact below_al _ _ | exact below_al2 _ _ _))).way ⟨_, 0, none⟩ 1 1 [b] rfl (by rfl) (by first | exact hNewsK.out | exact news_b (Below.refl _ _) | exact news_c (Below.refl _ _) | exact news_a (Below.refl _ _) | exact fun j u h => ((below_al _ _).cell (cell_lt (hNewsK.out j u h))).trans (hNewsK.out j u h)) hkbL.out h1m.out ?_; intro v8 w8 bo8 cap8 HW HG HM HKp
           obtain ⟨W7, s7, t8⟩ := app_pack (S5.out.below (by first | exact (Below.refl _ _).drew | exact (below_al _ _).drew | exact (below_al2 _ _ _).drew | exact (Below.refl _ _).drew.alloc (Nat.le_refl _) _ | exact ((Below.refl _ _).drew.alloc (Nat.le_refl _) _).alloc (by simp [World.size_alloc]) _ | exact Below.refl _ _ | exact below_al _ _ | exact below_al2 _ _ _)) HW.out HG.out HM.out HKp.out
           rw [← HKC.out] at t8
           (first
             | (have PBk := Lib.hid (pb_off (PBk.out.next (by first | exact (Below.refl _ _).drew | exact (below_al _ _).drew | exact (below_al2 _ _ _).drew | exact (Below.refl _ _).drew.alloc (Nat.le_refl _) _ | exact ((Below.refl _ _).drew.alloc (Nat.le_refl _) _).alloc (by simp [World.size_alloc]) _ | exact Below.refl _ _ | exact below_al _ _ | exact below_al2 _ _ _)) (S5.out.below (by first | exact (Below.refl _ _).drew | exact (below_al _ _).drew | exact (below_al2 _ _ _).drew | exact (Below.refl _ _).drew.alloc (Nat.le_refl _) _ | exact ((Below.refl _ _).drew.alloc (Nat.le_refl _) _).alloc (by simp [World.size_alloc]) _ | exact Below.refl _ _ | exact below_al _ _ | exact below_al2 _ _ _)).way HM.out))
             | (have PBk := Lib.hid (pb_off (pb_b (hpb5.out _ (by first | exact (Below.refl _ _).drew | exact (below_al _ _).drew | exact (below_al2 _ _ _).drew | exact (Below.refl _ _).drew.alloc (Nat.le_refl _) _ | exact ((Below.refl _ _).drew.alloc (Nat.le_refl _) _).alloc (by simp [World.size_alloc]) _ | exact Below.refl _ _ | exact below_al _ _ | exact below_al2 _ _ _)) (Below.refl _ _)) (S5.out.below (by first | exact (Below.refl _ _).drew | exact (below_al _ _).drew | exact (below_al2 _ _ _).drew | exact (Below.refl _ _).drew.alloc (Nat.le_refl _) _ | exact ((Below.refl _ _).drew.alloc (Nat.le_refl _) _).alloc (by simp [World.size_alloc]) _ | exact Below.refl _ _ | exact below_al _ _ | exact below_al2 _ _ _)).way HM.out))
             | (have PBk := Lib.hid (pb_off (pb_c (hpb5.out _ (by first | exact (Below.refl _ _).drew | exact (below_al _ _).drew | exact (below_al2 _ _ _).drew | exact (Below.refl _ _).drew.alloc (Nat.le_refl _) _ | exact ((Below.refl _ _).drew.alloc (Nat.le_refl _) _).alloc (by simp [World.size_alloc]) _ | exact Below.refl _ _ | exact below_al _ _ | exact below_al2 _ _ _)) (Below.refl _ _)) (S5.out.below (by first | exact (Below.refl _ _).drew | exact (below_al _ _).drew | exact (below_al2 _ _ _).drew | exact (Below.refl _ _).drew.alloc (Nat.le_refl _) _ | exact ((Below.refl _ _).drew.alloc (Nat.le_refl _) _).alloc (by simp [World.size_alloc]) _ | exact Below.refl _ _ | exact below_al _ _ | exact below_al2 _ _ _)).way HM.out))
             | (have PBk := Lib.hid (pb_off (pb_a (hpb5.out _ (by first | exact (Below.refl _ _).drew | exact (below_al _ _).drew | exact (below_al2 _ _ _).drew | exact (Below.refl _ _).drew.alloc (Nat.le_refl _) _ | exact ((Below.refl _ _).drew.alloc (Nat.le_refl _) _).alloc (by simp [World.size_alloc]) _ | exact Below.refl _ _ | exact below_al _ _ | exact below_al2 _ _ _)) (Below.refl _ _)) (S5.out.below (by first | exact (Below.refl _ _).drew | exact (below_al _ _).drew | exact (below_al2 _ _ _).drew | exact (Below.refl _ _).drew.alloc (Nat.le_refl _) _ | exact ((Below.refl _ _).drew.alloc (Nat.le_refl _) _).alloc (by simp [World.size_alloc]) _ | exact Below.refl _ _ | exact below_al _ _ | exact below_al2 _ _ _)).way HM.out))
             | skip)
           have sk := sk_of (s7.told t8.mod t8.base) HS.out HNE0.out
           have S7 := Lib.hid s7
           have T8 := Lib.hid t8
           have q7 := Lib.hid (s7.since HB1.out HLO.out)
           have hpb8 : Hid (∀ W, Below w8.heap.size w8 W → X1.heap.size ≤ W.heap.size) := fun W z => Nat.le_trans (s7.told t8.mod t8.base).mod.size z.size
           clear s7 t8 HW HG HM HKp)
        | (go_simp; go_at_call 20; refine (hKid.out _ (B4.out.trans (Below.mono (by first | exact (Below.refl _ _).drew | exact (below_al _ _).drew | exact (below_al2 _ _ _).drew | exact (Below.refl _ _).drew.alloc (Nat.le_refl _) _ | exact ((Below.refl _ _).drew.alloc (Nat.le_refl _) _).alloc (by simp [World.size_alloc]) _ | exact Below.refl _ _ | exact below_al _ _ | exact below_al2 _ _ _) B4.out.size))).mono ?_; rintro e w5 ⟨rfl, z1⟩
           have b5 : Below w4.heap.size w4 w5 := below_then (by first | exact (Below.refl _ _).drew | exact (below_al _ _).drew | exact (below_al2 _ _ _).drew | exact (Below.refl _ _).drew.alloc (Nat.le_refl _) _ | exact ((Below.refl _ _).drew.alloc (Nat.le_refl _) _).alloc (by simp [World.size_alloc]) _ | exact Below.refl _ _ | exact below_al _ _ | exact below_al2 _ _ _) z1
           have S5 := Lib.hid (S4.out.below b5)
           have sk := sk_of S5.out HS.out HNE0.out
           (first
             | (have PBk := Lib.hid (pb_b (hpb.out _ (by first | exact (Below.refl _ _).drew | exact (below_al _ _).drew | exact (below_al2 _ _ _).drew | exact (Below.refl _ _).drew.alloc (Nat.le_refl _) _ | exact ((Below.refl _ _).drew.alloc (Nat.le_refl _) _).alloc (by simp [World.size_alloc]) _ | exact Below.refl _ _ | exact below_al _ _ | exact below_al2 _ _ _)) z1))
             | (have PBk := Lib.hid (pb_b (hpb.out _ (by first | exact (Below.refl _ _).drew | exact (below_al _ _).drew | exact (below_al2 _ _ _).drew | exact (Below.refl _ _).drew.alloc (Nat.le_refl _) _ | exact ((Below.refl _ _).drew.alloc (Nat.le_refl _) _).alloc (by simp [World.size_alloc]) _ | exact Below.refl _ _ | exact below_al _ _ | exact below_al2 _ _ _)) (below_then (Below.refl _ _).drew z1)))
             | (have PBk := Lib.hid (pb_c (hpb.out _ (by first | exact (Below.refl _ _).drew | exact (below_al _ _).drew | exact (below_al2 _ _ _).drew | exact (Below.refl _ _).drew.alloc (Nat.le_refl _) _ | exact ((Below.refl _ _).drew.alloc (Nat.le_refl _) _).alloc (by simp [World.size_alloc]) _ | exact Below.refl _ _ | exact below_al _ _ | exact below_al2 _ _ _)) z1))
             | (have PBk := Lib.hid (pb_c (hpb.out _ (by first | exact (Below.refl _ _).drew | exact (below_al _ _).drew | exact (below_al2 _ _ _).drew | exact (Below.refl _ _).drew.alloc (Nat.le_refl _) _ | exact ((Below.refl _ _).drew.alloc (Nat.le_refl _) _).alloc (by simp [World.size_alloc]) _ | exact Below.refl _ _ | exact below_al _ _ | exact below_al2 _ _ _)) (below_then (Below.refl _ _).drew z1)))
             | (have PBk := Lib.hid (pb_a (hpb.out _ (by first | exact (Below.refl _ _).drew | exact (below_al _ _).drew | exact (below_al2 _ _ _).drew | exact (Below.refl _ _).drew.alloc (Nat.le_refl _) _ | exact ((Below.refl _ _).drew.alloc (Nat.le_refl _) _).alloc (by simp [World.size_alloc]) _ | exact Below.refl _ _ | exact below_al _ _ | exact below_al2 _ _ _)) z1))
             | (have PBk := Lib.hid (pb_a (hpb.out _ (by first | exact (Below.refl _ _).drew | exact (below_al _ _).drew | exact (below_al2 _ _ _).drew | exact (Below.refl _ _).drew.alloc (Nat.le_refl _) _ | exact ((Below.refl _ _).drew.alloc (Nat.le_refl _) _).alloc (by simp [World.size_alloc]) _ | exact Below.refl _ _ | exact below_al _ _ | exact below_al2 _ _ _)) (below_then (Below.refl _ _).drew z1)))
             | skip)
           (first
             | (have hNewsK := Lib.hid (news_b (b := b) z1))
             | (have hNewsK := Lib.hid (news_b (b := b) (below_then (Below.refl _ _).drew z1)))
             | (have hNewsK := Lib.hid (news_c (b := b) z1))
             | (have hNewsK := Lib.hid (news_c (b := b) (below_then (Below.refl _ _).drew z1)))
             | (have hNewsK := Lib.hid (news_a (b := b) z1))
             | (have hNewsK := Lib.hid (news_a (b := b) (below_then (Below.refl _ _).drew z1)))
             | skip)
           have hpb5 : Hid (∀ W, Below w5.heap.size w5 W → X1.heap.size ≤ W.heap.size) := fun W z => hpb.out W (below_then b5 z)
           clear b5 z1)
        | (go_simp; go_at_call 119; refine (HRec.out _ _ _ _ ((T8.out.below (by first | exact (Below.refl _ _).drew | exact (below_al _ _).drew | exact (below_al2 _ _ _).drew | exact (Below.refl _ _).drew.alloc (Nat.le_refl _) _ | exact ((Below.refl _ _).drew.alloc (Nat.le_refl _) _).alloc (by simp [World.size_alloc]) _ | exact Below.refl _ _ | exact below_al _ _ | exact below_al2 _ _ _)).since q7.out.1 q7.out.2).1 ((T8.out.below (Below.refl _ _)).since q7.out.1 q7.out.2).2 (T8.out.below (by first | exact (Below.refl _ _).drew | exact (below_al _ _).drew | exact (below_al2 _ _ _).drew | exact (Below.refl _ _).drew.alloc (Nat.le_refl _) _ | exact ((Below.refl _ _).drew.alloc (Nat.le_refl _) _).alloc (by simp [World.size_alloc]) _ | exact Below.refl _ _ | exact below_al _ _ | exact below_al2 _ _ _)).way).mono ?_; rintro e w9 ⟨a9, m9, c9, rfl, s9, m9m, k9⟩
           have t9 := (T8.out.below (by first | exact (Below.refl _ _).drew | exact (below_al _ _).drew | exact (below_al2 _ _ _).drew | exact (Below.refl _ _).drew.alloc (Nat.le_refl _) _ | exact ((Below.refl _ _).drew.alloc (Nat.le_refl _) _).alloc (by simp [World.size_alloc]) _ | exact Below.refl _ _ | exact below_al _ _ | exact below_al2 _ _ _)).told m9m k9
           have S9 := Lib.hid (S7.out.told t9.mod t9.base)
           have sk := sk_of S9.out HS.out HNE0.out
           (first
             | (have PBk := Lib.hid (pb_off (PBk.out.next (by first | exact (Below.refl _ _).drew | exact (below_al _ _).drew | exact (below_al2 _ _ _).drew | exact (Below.refl _ _).drew.alloc (Nat.le_refl _) _ | exact ((Below.refl _ _).drew.alloc (Nat.le_refl _) _).alloc (by simp [World.size_alloc]) _ | exact Below.refl _ _ | exact below_al _ _ | exact below_al2 _ _ _)) (T8.out.below (by first | exact (Below.refl _ _).drew | exact (below_al _ _).drew | exact (below_al2 _ _ _).drew | exact (Below.refl _ _).drew.alloc (Nat.le_refl _) _ | exact ((Below.refl _ _).drew.alloc (Nat.le_refl _) _).alloc (by simp [World.size_alloc]) _ | exact Below.refl _ _ | exact below_al _ _ | exact below_al2 _ _ _)).way m9m))
             | (have PBk := Lib.hid (pb_off (pb_a (hpb8.out _ (by first | exact (Below.refl _ _).drew | exact (below_al _ _).drew | exact (below_al2 _ _ _).drew | exact (Below.refl _ _).drew.alloc (Nat.le_refl _) _ | exact ((Below.refl _ _).drew.alloc (Nat.le_refl _) _).alloc (by simp [World.size_alloc]) _ | exact Below.refl _ _ | exact below_al _ _ | exact below_al2 _ _ _)) (Below.refl _ _)) (T8.out.below (by first | exact (Below.refl _ _).drew | exact (below_al _ _).drew | exact (below_al2 _ _ _).drew | exact (Below.refl _ _).drew.alloc (Nat.le_refl _) _ | exact ((Below.refl _ _).drew.alloc (Nat.le_refl _) _).alloc (by simp [World.size_alloc]) _ | exact Below.refl _ _ | exact below_al _ _ | exact below_al2 _ _ _)).way m9m))
             | skip)
           (first | (obtain ⟨x0, x1, x2, x3⟩ := PBk.out.res.facts) | skip)
           have SL9 := Lib.hid s9
           clear s9 m9m k9 t9))
    all_goals
      (try simp only [Exit.then, Exit.inBlock])
      go_wp2_with fail
      go_meet
      case rel => first | exact ⟨_, _, _, _, rfl, rfl, box_old S9.out PBk.out SL9.out⟩ | exact ⟨_, _, _, _, rfl, rfl, box_new S9.out SL9.out⟩
  case rest =>
    obtain ⟨q, a9, m9, c9, rfl, rfl, hbx⟩ := hcut
    clear r0 r1 r2 r3 sk kx B4 S4 SL4
    have S := Lib.hid hbx.out.way
    have b0 := hbx.out.c0
    have b1 := hbx.out.c1
    have SL := Lib.hid hbx.out.sl
    have hrr : ResC wc (X.heap.size + 1) := (S.out.block HXL.out HNE.out).trans HR.out
    obtain ⟨r0, r1, r2, r3⟩ := hrr.facts
    have qs := S.out.since HB1.out HLO.out
    have hB5 := Lib.hid (hBes.out _ _ _ _ _ qs.1 qs.2 S.out.way)
    have QS := Lib.hid qs.1
    clear hbx hrr qs
    rcases AA with _ | ⟨ak1, av1⟩
    · have HO2 : Hid (O = OB.or (ownO kb val false)) := by show _ = _; rw [HO.out, Option.none_or]
      clear HO
      simp only [Option.isSome_none, Option.getD_none] at b0 b1 SL ⊢
      rcases OB with _ | ⟨bk1, bv1⟩
      · have HO3 : Hid (O = none) := by show _ = _; rw [HO2.out, Option.none_or]; rfl
        clear HO2
        go_wp2_with (first
          | (go_at_call 173; refine (hOwn.out _ _ _).mono ?_; rintro e w7 ⟨rfl, b7⟩
             have S7 := S6.out.below b7
             have hrr : ResC w7 (X.heap.size + 1) := (S7.block HXL.out HNE.out).trans HR.out
             obtain ⟨x0, x1, x2, x3⟩ := hrr.facts
             obtain ⟨a0, h0, sl0⟩ := S7.way.sl hkb8.out
             have h0 : a3 = a0 := by injection h0
             subst h0
             obtain ⟨c0, c1, q⟩ := nr_tell S7 HA.out HR.out (by omega) HNE.out (o := none) (a := none) (m := 0) (c := 0) (sl_nil _) (y := 0) rfl (b := false) rfl rfl
             have q := Lib.hid q
             clear hrr S7 b7 sl0)
          | (go_at_call 175; refine hB5.out.mono ?_; rintro e w6 ⟨a6, m6, c6, rfl, s6, z1, z2⟩
             have S6 := Lib.hid ((S.out.told z1 z2).below (below_al w6 (.cells #[.slice a6 m6 c6, .int .u64 0] apT)))
             have hOwn := Lib.hid (own_none HN.out (S6.out.since HB1.out HLO.out).1)
             clear s6 z1 z2))
        rw [HO3.out]
        (try simp only [Exit.inBlock, Exit.then])
        exact bodyPost_ret (v := .tuple #[.agg #[.slice none 0 0, .int .u64 0], .bool false]) (by simp [results, Try.results119, go_sem, c0, c1]) rfl q.out
      · have HO3 : Hid (O = some (bk1, bv1)) := by show _ = _; rw [HO2.out, Option.some_or]
        clear HO2
        go_wp2_with (first
          | (go_at_call 175; refine hB5.out.mono ?_; rintro e w6 ⟨a6, m6, c6, rfl, s6, z1, z2⟩
             have S6 := (S.out.told z1 z2).below (below_al w6 (.cells #[.slice a6 m6 c6, .int .u64 bv1] apT))
             have hrr : ResC (w6.alloc (.cells #[.slice a6 m6 c6, .int .u64 bv1] apT)) (X.heap.size + 1) := (S6.block HXL.out HNE.out).trans HR.out
             obtain ⟨x0, x1, x2, x3⟩ := hrr.facts
             obtain ⟨c0, c1, q⟩ := nr_tell S6 HA.out HR.out (by omega) HNE.out (o := some (bk1, bv1)) (a := a6) (m := m6) (c := c6) (s6.below (below_al _ _)) (y := bv1) rfl (b := true) rfl rfl
             have q := Lib.hid q
             clear hrr S6 s6 z1 z2))
        rw [HO3.out]
        (try simp only [Exit.inBlock, Exit.then])
        exact bodyPost_ret (v := .tuple #[.agg #[.slice a6 m6 c6, .int .u64 bv1], .bool true]) (by simp [results, Try.results119, go_sem, c0, c1]) rfl q.out
    · have HO2 : Hid (O = some (ak1, av1)) := by show _ = _; rw [HO.out, Option.some_or]; rfl
      clear HO
      simp only [Option.isSome_some, Option.getD_some] at b0 b1 SL ⊢
      obtain ⟨c0, c1, q⟩ := nr_tell S.out HA.out HR.out (by omega) HNE.out (o := some (ak1, av1)) (a := a9) (m := m9) (c := c9) SL.out (y := av1) rfl (b := true) rfl rfl
      have q := Lib.hid q
      go_wp2_with fail
      rw [HO2.out]
      (try simp only [Exit.inBlock, Exit.then])
      exact bodyPost_ret (v := .tuple #[.agg #[.slice a9 m9 c9, .int .u64 av1], .bool true]) (by simp [results, Try.results119, go_sem, c0, c1]) rfl q.out
end Go.Proofs.Ytkonbldjmcccmaa
/- near.up and near.down of any canonical tree; the calls of the package. -/
namespace Go.Proofs.Ytkonbldjmcccmaa
open Go.RowKit
theorem lcp_full {bs key : List Nat} (h : lcp bs key = bs.length) : bs <+: key := by
  have := lcp_take bs key
  rw [h, List.take_length] at this
  rw [this]
  exact List.take_prefix _ _
set_option maxHeartbeats 1000000 in
theorem up_nil (s : Bool) (X : World) {v : Value} {k : List Nat} {bo : Option Nat} {cap : Nat} (hW : WayAt X v k bo cap) (ka : Option Addr) (kn kc : Nat) : Calls Try.prog 121 #[.agg #[.bool s], .pointer none, v, .slice ka kn kc] X (nrPost v k bo cap none X) := by
  obtain ⟨X1, hX1⟩ : ∃ X1, X1 = (X.alloc (.cells #[.bool s] skT)).alloc (.cells #[.slice none 0 0, .int .u64 0] apT) := ⟨_, rfl⟩
  have hSk : SkW s X X1 := by rw [hX1]; exact skw_new s X
  obtain ⟨r0, r1, r2, r3⟩ := hSk.res.facts
  obtain ⟨c0, c1, q⟩ := nr_tell (WayS.start (hW.below hSk.since)) hSk.since hSk.res (by omega) (fun e => by have := hW.lt e; omega) (o := none) (a := none) (m := 0) (c := 0) (sl_nil _) (y := 0) rfl (b := false) rfl rfl
  have q := Lib.hid q
  clear hSk hW
  go_enter Try.func121, Try.ntmps121
  go_upto_region 1 with fail
  rw [← hX1]
  clear hX1
  go_wp2_with fail
  (try simp only [Exit.inBlock, Exit.then])
  exact bodyPost_ret (v := .tuple #[.agg #[.slice none 0 0, .int .u64 0], .bool false]) (by simp [results, Try.results121, go_sem, c0, c1]) rfl q.out
def Seek_up (N : Nat) : Prop := ∀ (t : Tr) {w0 w X : World} {Q : List NP} {p : Option Addr}, tdep t ≤ N → StoreP NoB w0 w Q → TreeV Q t (.pointer p) → TOk t → Can t → Below w.heap.size w X → ∀ (s : Bool) {v : Value} {k : List Nat} {bo : Option Nat} {cap : Nat}, WayAt X v k bo cap → (∀ g, bo = some g → w.heap.size ≤ g) → (∀ x ∈ k, x < 256) → (t = .nil ∨ k.length + tway t ≤ 900000) → ∀ {ka : Option Addr} {kn kc : Nat} {key : List Nat}, Sl w ka kn kc key → kn ≤ 1000 → Calls Try.prog 121 #[.agg #[.bool s], .pointer p, v, .slice ka kn kc] X (nrPost v k bo cap (prO k (upL s key (tl t))) X)
theorem seek_up : ∀ N, Seek_up N := fun N => Nat.strongRecOn N fun N IH t w0 w X Q p hd hQ hT hO hC hb s v k bo cap hW hlo hk hway ka kn kc key hK hkn => by
  rcases hT with ⟨rfl, e⟩ | ⟨hn, hin⟩
  · obtain rfl : p = none := by simpa using e
    exact up_nil s X hW ka kn kc
  · cases t with
    | nil => exact hn.elim
    | kid => exact hn.elim
    | node bs val has leaf ks =>
      obtain ⟨n, kk, rfl, hN, hKs, hk0, _⟩ := nodew_of hQ hin hO
      have hT : TreeV Q (.node bs val has leaf ks) (.pointer (some ⟨n, 0, none⟩)) := Or.inr ⟨hn, hin⟩
      have hw := nil_lt hway bs val has leaf ks rfl
      have o := hO
      obtain ⟨o1, o2, o3, o4, o5, o6, o7⟩ := o
      have hlk := hK.len
      have hle := lcp_le bs key
      by_cases h1 : lcp bs key < bs.length
      · by_cases h2 : lcp bs key < kn
        · by_cases h3 : bs.getD (lcp bs key) 0 < key.getD (lcp bs key) 0
          · have e := up_lt (v := val) (has := has) (leaf := leaf) (ks := ks) s h1 ⟨by omega, h3⟩
            rw [e.1]
            exact up_lt_w hQ s hN hT hO hC hb hW hlo hk hw hK hkn rfl h1 h2 h3
          · have e := up_gt (v := val) (has := has) (leaf := leaf) (ks := ks) s h1 (by rw [hlk]; exact fun q => h3 q.2)
            rw [e.1]
            exact up_ge_w hQ s hN hT hO hC hb hW hlo hk hw hK hkn rfl h1 h2 h3
        · have e := up_gt (v := val) (has := has) (leaf := leaf) (ks := ks) s h1 (by rw [hlk]; exact fun q => h2 q.1)
          rw [e.1]
          exact up_end_w hQ s hN hT hO hC hb hW hlo hk hw hK hkn rfl h1 h2
      · have hl : lcp bs key = bs.length := by omega
        obtain ⟨r, hr⟩ := lcp_full hl
        have hkl : key.length = bs.length + r.length := by rw [← hr, List.length_append]
        cases r with
        | nil =>
          have e0 : key = bs := by rw [← hr, List.append_nil]
          have hkb0 : kn = bs.length := by rw [← hlk, e0]
          have e := up_at (bs := bs) (v := val) (has := has) (leaf := leaf) s o6 o7
          subst e0
          rw [e.1]
          cases s with
          | true =>
            simp only [if_true, Option.none_or, prO_prO]
            cases has with
            | true => exact upAt_tt hQ hN hKs.tree o6 o7 hC.1 o1 hb hW hlo hk hw hK hkn hl hkb0
            | false => exact upAt_tf hQ hN hKs.tree o6 o7 hC.1 o1 hb hW hlo hk hw hK hkn hl hkb0
          | false =>
            cases has with
            | true => exact upAt_ft hQ hN hKs.tree o6 o7 hC.1 o1 hb hW hlo hk hw hK hkn hl hkb0
            | false =>
              simp only [Bool.false_eq_true, if_false, ownO, Option.none_or, prO_prO]
              exact upAt_ff hQ hN hKs.tree o6 o7 hC.1 o1 hb hW hlo hk hw hK hkn hl hkb0
        | cons b r =>
          have hkey : key = bs ++ b :: r := hr.symm
          have hb256 : b < 256 := hK.at_.1 b (by rw [hkey]; simp)
          obtain ⟨ak, g1, g2, g3, g4, g5, g6⟩ := kid_at hKs.tree o7 o6 hC.1 b
          have hdrop : key.drop (bs.length + 1) = r := by rw [hkey, show bs ++ b :: r = (bs ++ [b]) ++ r by simp, show bs.length + 1 = (bs ++ [b]).length by simp, List.drop_left]
          have hRec : ∀ W v' bo' cap', Below w.heap.size w W → (∀ g, bo' = some g → w.heap.size ≤ g) → WayAt W v' (k ++ bs ++ [b]) bo' cap' → Calls Try.prog 121 #[.agg #[.bool s], .pointer ak, v', .slice (cutA ka kc (bs.length + 1) 1) (kn - (bs.length + 1)) (kc - (bs.length + 1))] W (nrPost v' (k ++ bs ++ [b]) bo' cap' (prO (k ++ bs ++ [b]) (upL s r (tl (kidT ks b)))) W) := fun W v' bo' cap' z1 z2 z3 => by
            have hs := hK.from_ (lo := bs.length + 1) (by rw [List.length_cons] at hkl; omega)
            rw [hdrop] at hs
            refine IH (N - 1) (by simp only [tdep] at hd; omega) (kidT ks b) (by simp only [tdep] at hd; omega) hQ g2 g3 g4 z1 s z3 z2 (fun x hx => ?_) (g5.imp id fun q => ?_) hs (by omega)
            · rcases List.mem_append.1 hx with hx | hx
              · rcases List.mem_append.1 hx with hx | hx
                · exact hk x hx
                · exact o1 x hx
              · obtain rfl := List.mem_singleton.1 hx; exact hb256
            · rw [List.length_append, List.length_append, List.length_singleton]; omega
          have e := up_in (bs := bs) (v := val) (has := has) (leaf := leaf) (ks := ks) s b r
          rw [← hkey] at e
          rw [e.1, up_row s b r o6 o7 hC.1, prO_prO]
          exact upIn hQ hN hKs.tree o6 o7 hC.1 o1 hb hW hlo hk hw hK hkn s hkey g1 _ hRec

set_option maxHeartbeats 1000000 in
theorem down_nil (s : Bool) (X : World) {v : Value} {k : List Nat} {bo : Option Nat} {cap : Nat} (hW : WayAt X v k bo cap) (ka : Option Addr) (kn kc : Nat) : Calls Try.prog 119 #[.agg #[.bool s], .pointer none, v, .slice ka kn kc] X (nrPost v k bo cap none X) := by
  obtain ⟨X1, hX1⟩ : ∃ X1, X1 = (X.alloc (.cells #[.bool s] skT)).alloc (.cells #[.slice none 0 0, .int .u64 0] apT) := ⟨_, rfl⟩
  have hSk : SkW s X X1 := by rw [hX1]; exact skw_new s X
  obtain ⟨r0, r1, r2, r3⟩ := hSk.res.facts
  obtain ⟨c0, c1, q⟩ := nr_tell (WayS.start (hW.below hSk.since)) hSk.since hSk.res (by omega) (fun e => by have := hW.lt e; omega) (o := none) (a := none) (m := 0) (c := 0) (sl_nil _) (y := 0) rfl (b := false) rfl rfl
  have q := Lib.hid q
  clear hSk hW
  go_enter Try.func119, Try.ntmps119
  go_upto_region 1 with fail
  rw [← hX1]
  clear hX1
  go_wp2_with fail
  (try simp only [Exit.inBlock, Exit.then])
  exact bodyPost_ret (v := .tuple #[.agg #[.slice none 0 0, .int .u64 0], .bool false]) (by simp [results, Try.results119, go_sem, c0, c1]) rfl q.out
def Seek_down (N : Nat) : Prop := ∀ (t : Tr) {w0 w X : World} {Q : List NP} {p : Option Addr}, tdep t ≤ N → StoreP NoB w0 w Q → TreeV Q t (.pointer p) → TOk t → Can t → Below w.heap.size w X → ∀ (s : Bool) {v : Value} {k : List Nat} {bo : Option Nat} {cap : Nat}, WayAt X v k bo cap → (∀ g, bo = some g → w.heap.size ≤ g) → (∀ x ∈ k, x < 256) → (t = .nil ∨ k.length + tway t ≤ 900000) → ∀ {ka : Option Addr} {kn kc : Nat} {key : List Nat}, Sl w ka kn kc key → kn ≤ 1000 → Calls Try.prog 119 #[.agg #[.bool s], .pointer p, v, .slice ka kn kc] X (nrPost v k bo cap (prO k (dnL s key (tl t))) X)
theorem seek_down : ∀ N, Seek_down N := fun N => Nat.strongRecOn N fun N IH t w0 w X Q p hd hQ hT hO hC hb s v k bo cap hW hlo hk hway ka kn kc key hK hkn => by
  rcases hT with ⟨rfl, e⟩ | ⟨hn, hin⟩
  · obtain rfl : p = none := by simpa using e
    exact down_nil s X hW ka kn kc
  · cases t with
    | nil => exact hn.elim
    | kid => exact hn.elim
    | node bs val has leaf ks =>
      obtain ⟨n, kk, rfl, hN, hKs, hk0, _⟩ := nodew_of hQ hin hO
      have hT : TreeV Q (.node bs val has leaf ks) (.pointer (some ⟨n, 0, none⟩)) := Or.inr ⟨hn, hin⟩
      have hw := nil_lt hway bs val has leaf ks rfl
      have o := hO
      obtain ⟨o1, o2, o3, o4, o5, o6, o7⟩ := o
      have hlk := hK.len
      have hle := lcp_le bs key
      by_cases h1 : lcp bs key < bs.length
      · by_cases h2 : lcp bs key < kn
        · by_cases h3 : bs.getD (lcp bs key) 0 < key.getD (lcp bs key) 0
          · have e := up_lt (v := val) (has := has) (leaf := leaf) (ks := ks) s h1 ⟨by omega, h3⟩
            rw [e.2]
            exact down_lt_w hQ s hN hT hO hC hb hW hlo hk hw hK hkn rfl h1 h2 h3
          · have e := up_gt (v := val) (has := has) (leaf := leaf) (ks := ks) s h1 (by rw [hlk]; exact fun q => h3 q.2)
            rw [e.2]
            exact down_ge_w hQ s hN hT hO hC hb hW hlo hk hw hK hkn rfl h1 h2 h3
        · have e := up_gt (v := val) (has := has) (leaf := leaf) (ks := ks) s h1 (by rw [hlk]; exact fun q => h2 q.1)
          rw [e.2]
          exact down_end_w hQ s hN hT hO hC hb hW hlo hk hw hK hkn rfl h1 h2
      · have hl : lcp bs key = bs.length := by omega
        obtain ⟨r, hr⟩ := lcp_full hl
        have hkl : key.length = bs.length + r.length := by rw [← hr, List.length_append]
        cases r with
        | nil =>
          have e0 : key = bs := by rw [← hr, List.append_nil]
          have hkb0 : kn = bs.length := by rw [← hlk, e0]
          have e := up_at (bs := bs) (v := val) (has := has) (leaf := leaf) s o6 o7
          subst e0
          rw [e.2]
          cases s with
          | true =>
            cases has with
            | true => exact downAt_tt hQ hN hKs.tree o6 o7 hC.1 o1 hb hW hlo hk hw hK hkn hl hkb0
            | false => exact downAt_tf hQ hN hKs.tree o6 o7 hC.1 o1 hb hW hlo hk hw hK hkn hl hkb0
          | false =>
            cases has with
            | true => exact downAt_ft hQ hN hKs.tree o6 o7 hC.1 o1 hb hW hlo hk hw hK hkn hl hkb0
            | false => exact downAt_ff hQ hN hKs.tree o6 o7 hC.1 o1 hb hW hlo hk hw hK hkn hl hkb0
        | cons b r =>
          have hkey : key = bs ++ b :: r := hr.symm
          have hb256 : b < 256 := hK.at_.1 b (by rw [hkey]; simp)
          obtain ⟨ak, g1, g2, g3, g4, g5, g6⟩ := kid_at hKs.tree o7 o6 hC.1 b
          have hdrop : key.drop (bs.length + 1) = r := by rw [hkey, show bs ++ b :: r = (bs ++ [b]) ++ r by simp, show bs.length + 1 = (bs ++ [b]).length by simp, List.drop_left]
          have hRec : ∀ W v' bo' cap', Below w.heap.size w W → (∀ g, bo' = some g → w.heap.size ≤ g) → WayAt W v' (k ++ bs ++ [b]) bo' cap' → Calls Try.prog 119 #[.agg #[.bool s], .pointer ak, v', .slice (cutA ka kc (bs.length + 1) 1) (kn - (bs.length + 1)) (kc - (bs.length + 1))] W (nrPost v' (k ++ bs ++ [b]) bo' cap' (prO (k ++ bs ++ [b]) (dnL s r (tl (kidT ks b)))) W) := fun W v' bo' cap' z1 z2 z3 => by
            have hs := hK.from_ (lo := bs.length + 1) (by rw [List.length_cons] at hkl; omega)
            rw [hdrop] at hs
            refine IH (N - 1) (by simp only [tdep] at hd; omega) (kidT ks b) (by simp only [tdep] at hd; omega) hQ g2 g3 g4 z1 s z3 z2 (fun x hx => ?_) (g5.imp id fun q => ?_) hs (by omega)
            · rcases List.mem_append.1 hx with hx | hx
              · rcases List.mem_append.1 hx with hx | hx
                · exact hk x hx
                · exact o1 x hx
              · obtain rfl := List.mem_singleton.1 hx; exact hb256
            · rw [List.length_append, List.length_append, List.length_singleton]; omega
          have e := up_in (bs := bs) (v := val) (has := has) (leaf := leaf) (ks := ks) s b r
          rw [← hkey] at e
          have e3 : prO k (dnL s key (tl (.node bs val has leaf ks))) = (prO (k ++ bs) ((prO [b] (dnL s r (tl (kidT ks b)))).or (nLast (prvT ks ((b : Int) - 1))))).or (ownO (k ++ bs) val has) := by
            rw [e.2, dn_row s b r o6 o7 hC.1, prO_or, prO_prO]
            cases has <;> rfl
          rw [e3]
          cases has with
          | true => exact downIn_t hQ hN hKs.tree o6 o7 hC.1 o1 hb hW hlo hk hw hK hkn s hkey g1 _ hRec
          | false => exact downIn_f hQ hN hKs.tree o6 o7 hC.1 o1 hb hW hlo hk hw hK hkn s hkey g1 _ hRec
theorem np_of_nr {X X' : World} {v : Value} {k : List Nat} {cap : Nat} {o : PO} {e : Ending} (h : nrPost v k none cap o X e X') : npPost o X e X' := by
  obtain ⟨a, m, c, q1, q2, q3, q4⟩ := h
  exact ⟨a, m, c, q1, q2, mod_lo q3 (fun g e => by cases e) (Nat.le_refl _)⟩
set_option maxHeartbeats 1000000 in
theorem near_Min {w0 w : World} {Q : List NP} (hQ : StoreP NoB w0 w Q) {t : Tr} {p : Option Addr} (hT : TreeV Q t (.pointer p)) (hO : TOk t) (hC : Can t) (hway : tway t ≤ 900000) : Calls Try.prog 51 #[.pointer p] w (npPost (tl t).head? w) := by
  obtain ⟨w1, hw1⟩ : ∃ w1, w1 = w.alloc (.cells #[.slice none 0 0, .int .u64 0] apT) := ⟨_, rfl⟩
  have hA : Below w.heap.size w w1 := by rw [hw1]; exact (Below.refl _ w).alloc (Nat.le_refl _) _
  have hR : ResC w1 w.heap.size := by rw [hw1]; exact resC_new w
  have hE := Lib.hid ((near_least (hQ.below hA) hT hO hC (Below.refl _ w1) (WayAt.nil w1) (fun g e => by cases e) (by simp) (Or.inr (by simpa using hway))).mono fun e w' q => np_of_nr q)
  rw [prO_nil] at hE
  generalize (tl t).head? = O at *
  have HA := Lib.hid hA
  have HR := Lib.hid hR
  clear hQ hT hO hC hway hA hR
  go_enter Try.func51, Try.ntmps51
  go_upto_region 1 with fail
  rw [← hw1]
  clear hw1
  go_wp2_with (first
    | (go_at_call 116; refine hE.out.mono ?_; rintro e w2 ⟨a2, m2, c2, rfl, s2, b2⟩
       have hr2 := HR.out.below b2
       obtain ⟨r0, r1, r2, r3⟩ := hr2.facts
       obtain ⟨c0, c1, q⟩ := npc_tell (HA.out.trans (b2.mono HA.out.size)) hr2 (Nat.le_refl _) (o := O) (a := a2) (m := m2) (c := c2) s2 (y := (O.getD ([], 0)).2) rfl (b := O.isSome) rfl rfl
       have q := Lib.hid q
       clear hr2 s2 b2))
  exact bodyPost_ret (v := .tuple #[.agg #[.slice a2 m2 c2, .int .u64 (O.getD ([], 0)).2], .bool O.isSome]) (by simp [results, Try.results51, go_sem, c0, c1]) rfl q.out

set_option maxHeartbeats 1000000 in
theorem near_Max {w0 w : World} {Q : List NP} (hQ : StoreP NoB w0 w Q) {t : Tr} {p : Option Addr} (hT : TreeV Q t (.pointer p)) (hO : TOk t) (hC : Can t) (hway : tway t ≤ 900000) : Calls Try.prog 53 #[.pointer p] w (npPost (tl t).getLast? w) := by
  obtain ⟨w1, hw1⟩ : ∃ w1, w1 = w.alloc (.cells #[.slice none 0 0, .int .u64 0] apT) := ⟨_, rfl⟩
  have hA : Below w.heap.size w w1 := by rw [hw1]; exact (Below.refl _ w).alloc (Nat.le_refl _) _
  have hR : ResC w1 w.heap.size := by rw [hw1]; exact resC_new w
  have hE := Lib.hid ((near_most (hQ.below hA) hT hO hC (Below.refl _ w1) (WayAt.nil w1) (fun g e => by cases e) (by simp) (Or.inr (by simpa using hway))).mono fun e w' q => np_of_nr q)
  rw [prO_nil] at hE
  generalize (tl t).getLast? = O at *
  have HA := Lib.hid hA
  have HR := Lib.hid hR
  clear hQ hT hO hC hway hA hR
  go_enter Try.func53, Try.ntmps53
  go_upto_region 1 with fail
  rw [← hw1]
  clear hw1
  go_wp2_with (first
    | (go_at_call 118; refine hE.out.mono ?_; rintro e w2 ⟨a2, m2, c2, rfl, s2, b2⟩
       have hr2 := HR.out.below b2
       obtain ⟨r0, r1, r2, r3⟩ := hr2.facts
       obtain ⟨c0, c1, q⟩ := npc_tell (HA.out.trans (b2.mono HA.out.size)) hr2 (Nat.le_refl _) (o := O) (a := a2) (m := m2) (c := c2) s2 (y := (O.getD ([], 0)).2) rfl (b := O.isSome) rfl rfl
       have q := Lib.hid q
       clear hr2 s2 b2))
  exact bodyPost_ret (v := .tuple #[.agg #[.slice a2 m2 c2, .int .u64 (O.getD ([], 0)).2], .bool O.isSome]) (by simp [results, Try.results53, go_sem, c0, c1]) rfl q.out
set_option maxHeartbeats 1000000 in
theorem near_Floor {w0 w : World} {Q : List NP} (hQ : StoreP NoB w0 w Q) {t : Tr} {p : Option Addr} (hT : TreeV Q t (.pointer p)) (hO : TOk t) (hC : Can t) (hway : tway t ≤ 900000) {ka : Option Addr} {kn kc : Nat} {k : List Nat} (hK : Sl w ka kn kc k) (hkn : kn ≤ 1000) : Calls Try.prog 56 #[.pointer p, .slice ka kn kc] w (npPost (dnL false k (tl t)) w) := by
  obtain ⟨w1, hw1⟩ : ∃ w1, w1 = w.alloc (.cells #[.slice none 0 0, .int .u64 0] apT) := ⟨_, rfl⟩
  have hA : Below w.heap.size w w1 := by rw [hw1]; exact (Below.refl _ w).alloc (Nat.le_refl _) _
  have hR : ResC w1 w.heap.size := by rw [hw1]; exact resC_new w
  have hE := Lib.hid ((seek_down (tdep t) t (Nat.le_refl _) (hQ.below hA) hT hO hC (Below.refl _ w1) false (WayAt.nil w1) (fun g e => by cases e) (by simp) (Or.inr (by simpa using hway)) (hK.below hA) hkn).mono fun e w' q => np_of_nr q)
  rw [prO_nil] at hE
  generalize dnL false k (tl t) = O at *
  have HA := Lib.hid hA
  have HR := Lib.hid hR
  clear hQ hT hO hC hway hA hR hK hkn
  go_enter Try.func56, Try.ntmps56
  go_upto_region 1 with fail
  rw [← hw1]
  clear hw1
  go_wp2_with (first
    | (go_at_call 119; refine hE.out.mono ?_; rintro e w2 ⟨a2, m2, c2, rfl, s2, b2⟩
       have hr2 := HR.out.below b2
       obtain ⟨r0, r1, r2, r3⟩ := hr2.facts
       obtain ⟨c0, c1, q⟩ := npc_tell (HA.out.trans (b2.mono HA.out.size)) hr2 (Nat.le_refl _) (o := O) (a := a2) (m := m2) (c := c2) s2 (y := (O.getD ([], 0)).2) rfl (b := O.isSome) rfl rfl
       have q := Lib.hid q
       clear hr2 s2 b2))
  exact bodyPost_ret (v := .tuple #[.agg #[.slice a2 m2 c2, .int .u64 (O.getD ([], 0)).2], .bool O.isSome]) (by simp [results, Try.results56, go_sem, c0, c1]) rfl q.out

set_option maxHeartbeats 1000000 in
theorem near_Lower {w0 w : World} {Q : List NP} (hQ : StoreP NoB w0 w Q) {t : Tr} {p : Option Addr} (hT : TreeV Q t (.pointer p)) (hO : TOk t) (hC : Can t) (hway : tway t ≤ 900000) {ka : Option Addr} {kn kc : Nat} {k : List Nat} (hK : Sl w ka kn kc k) (hkn : kn ≤ 1000) : Calls Try.prog 60 #[.pointer p, .slice ka kn kc] w (npPost (dnL true k (tl t)) w) := by
  obtain ⟨w1, hw1⟩ : ∃ w1, w1 = w.alloc (.cells #[.slice none 0 0, .int .u64 0] apT) := ⟨_, rfl⟩
  have hA : Below w.heap.size w w1 := by rw [hw1]; exact (Below.refl _ w).alloc (Nat.le_refl _) _
  have hR : ResC w1 w.heap.size := by rw [hw1]; exact resC_new w
  have hE := Lib.hid ((seek_down (tdep t) t (Nat.le_refl _) (hQ.below hA) hT hO hC (Below.refl _ w1) true (WayAt.nil w1) (fun g e => by cases e) (by simp) (Or.inr (by simpa using hway)) (hK.below hA) hkn).mono fun e w' q => np_of_nr q)
  rw [prO_nil] at hE
  generalize dnL true k (tl t) = O at *
  have HA := Lib.hid hA
  have HR := Lib.hid hR
  clear hQ hT hO hC hway hA hR hK hkn
  go_enter Try.func60, Try.ntmps60
  go_upto_region 1 with fail
  rw [← hw1]
  clear hw1
  go_wp2_with (first
    | (go_at_call 119; refine hE.out.mono ?_; rintro e w2 ⟨a2, m2, c2, rfl, s2, b2⟩
       have hr2 := HR.out.below b2
       obtain ⟨r0, r1, r2, r3⟩ := hr2.facts
       obtain ⟨c0, c1, q⟩ := npc_tell (HA.out.trans (b2.mono HA.out.size)) hr2 (Nat.le_refl _) (o := O) (a := a2) (m := m2) (c := c2) s2 (y := (O.getD ([], 0)).2) rfl (b := O.isSome) rfl rfl
       have q := Lib.hid q
       clear hr2 s2 b2))
  exact bodyPost_ret (v := .tuple #[.agg #[.slice a2 m2 c2, .int .u64 (O.getD ([], 0)).2], .bool O.isSome]) (by simp [results, Try.results60, go_sem, c0, c1]) rfl q.out

set_option maxHeartbeats 1000000 in
theorem near_Ceil {w0 w : World} {Q : List NP} (hQ : StoreP NoB w0 w Q) {t : Tr} {p : Option Addr} (hT : TreeV Q t (.pointer p)) (hO : TOk t) (hC : Can t) (hway : tway t ≤ 900000) {ka : Option Addr} {kn kc : Nat} {k : List Nat} (hK : Sl w ka kn kc k) (hkn : kn ≤ 1000) : Calls Try.prog 58 #[.pointer p, .slice ka kn kc] w (npPost (upL false k (tl t)) w) := by
  obtain ⟨w1, hw1⟩ : ∃ w1, w1 = w.alloc (.cells #[.slice none 0 0, .int .u64 0] apT) := ⟨_, rfl⟩
  have hA : Below w.heap.size w w1 := by rw [hw1]; exact (Below.refl _ w).alloc (Nat.le_refl _) _
  have hR : ResC w1 w.heap.size := by rw [hw1]; exact resC_new w
  have hE := Lib.hid ((seek_up (tdep t) t (Nat.le_refl _) (hQ.below hA) hT hO hC (Below.refl _ w1) false (WayAt.nil w1) (fun g e => by cases e) (by simp) (Or.inr (by simpa using hway)) (hK.below hA) hkn).mono fun e w' q => np_of_nr q)
  rw [prO_nil] at hE
  generalize upL false k (tl t) = O at *
  have HA := Lib.hid hA
  have HR := Lib.hid hR
  clear hQ hT hO hC hway hA hR hK hkn
  go_enter Try.func58, Try.ntmps58
  go_upto_region 1 with fail
  rw [← hw1]
  clear hw1
  go_wp2_with (first
    | (go_at_call 121; refine hE.out.mono ?_; rintro e w2 ⟨a2, m2, c2, rfl, s2, b2⟩
       have hr2 := HR.out.below b2
       obtain ⟨r0, r1, r2, r3⟩ := hr2.facts
       obtain ⟨c0, c1, q⟩ := npc_tell (HA.out.trans (b2.mono HA.out.size)) hr2 (Nat.le_refl _) (o := O) (a := a2) (m := m2) (c := c2) s2 (y := (O.getD ([], 0)).2) rfl (b := O.isSome) rfl rfl
       have q := Lib.hid q
       clear hr2 s2 b2))
  exact bodyPost_ret (v := .tuple #[.agg #[.slice a2 m2 c2, .int .u64 (O.getD ([], 0)).2], .bool O.isSome]) (by simp [results, Try.results58, go_sem, c0, c1]) rfl q.out

set_option maxHeartbeats 1000000 in
theorem near_Higher {w0 w : World} {Q : List NP} (hQ : StoreP NoB w0 w Q) {t : Tr} {p : Option Addr} (hT : TreeV Q t (.pointer p)) (hO : TOk t) (hC : Can t) (hway : tway t ≤ 900000) {ka : Option Addr} {kn kc : Nat} {k : List Nat} (hK : Sl w ka kn kc k) (hkn : kn ≤ 1000) : Calls Try.prog 62 #[.pointer p, .slice ka kn kc] w (npPost (upL true k (tl t)) w) := by
  obtain ⟨w1, hw1⟩ : ∃ w1, w1 = w.alloc (.cells #[.slice none 0 0, .int .u64 0] apT) := ⟨_, rfl⟩
  have hA : Below w.heap.size w w1 := by rw [hw1]; exact (Below.refl _ w).alloc (Nat.le_refl _) _
  have hR : ResC w1 w.heap.size := by rw [hw1]; exact resC_new w
  have hE := Lib.hid ((seek_up (tdep t) t (Nat.le_refl _) (hQ.below hA) hT hO hC (Below.refl _ w1) true (WayAt.nil w1) (fun g e => by cases e) (by simp) (Or.inr (by simpa using hway)) (hK.below hA) hkn).mono fun e w' q => np_of_nr q)
  rw [prO_nil] at hE
  generalize upL true k (tl t) = O at *
  have HA := Lib.hid hA
  have HR := Lib.hid hR
  clear hQ hT hO hC hway hA hR hK hkn
  go_enter Try.func62, Try.ntmps62
  go_upto_region 1 with fail
  rw [← hw1]
  clear hw1
  go_wp2_with (first
    | (go_at_call 121; refine hE.out.mono ?_; rintro e w2 ⟨a2, m2, c2, rfl, s2, b2⟩
       have hr2 := HR.out.below b2
       obtain ⟨r0, r1, r2, r3⟩ := hr2.facts
       obtain ⟨c0, c1, q⟩ := npc_tell (HA.out.trans (b2.mono HA.out.size)) hr2 (Nat.le_refl _) (o := O) (a := a2) (m := m2) (c := c2) s2 (y := (O.getD ([], 0)).2) rfl (b := O.isSome) rfl rfl
       have q := Lib.hid q
       clear hr2 s2 b2))
  exact bodyPost_ret (v := .tuple #[.agg #[.slice a2 m2 c2, .int .u64 (O.getD ([], 0)).2], .bool O.isSome]) (by simp [results, Try.results62, go_sem, c0, c1]) rfl q.out
end Go.Proofs.Ytkonbldjmcccmaa
/- Four boxes with pairs; the calls of near on a tree, in every later world; alive, same of law 17. -/
namespace Go.Proofs.Ytkonbldjmcccmaa
open Go.RowKit
theorem treeV_nz {Q : List NP} {t : Tr} {v : Value} (h : TreeV Q t v) : t = .nil ∨ IsN t := by
  rcases h with ⟨h, _⟩ | ⟨h, _⟩
  · exact Or.inl h
  · exact Or.inr h
structure Bx where
  a : Option Addr
  m : Nat
  c : Nat
  y : Int
  k : List Nat
/-- a box with a pair -/
structure BxC (t : TypeId) (w : World) (g : Nat) (b : Bx) : Prop where
  blk : w.heap[g]? = some (.cells [.slice b.a b.m b.c, .int .u64 b.y].toArray t (0, 0))
  sl : Sl w b.a b.m b.c b.k
section
variable {t t' : TypeId} {w w' : World} {g g' : Nat} {b b' : Bx}
theorem BxC.lt (h : BxC t w g b) : g < w.heap.size := (Array.getElem?_eq_some_iff.1 h.blk).1
theorem BxC.below (h : BxC t w g b) (hb : Below w.heap.size w w') : BxC t w' g b := ⟨(hb.block g h.lt).trans h.blk, h.sl.below hb⟩
theorem BxC.facts (h : BxC t w g b) : w.cell? ⟨g, 0, none⟩ = some (.slice b.a b.m b.c) ∧ w.cell? ⟨g, 1, none⟩ = some (.int .u64 b.y) ∧ w.frozen? ⟨g, 0, none⟩ = false ∧ w.frozen? ⟨g, 1, none⟩ = false :=
  ⟨by rw [cell_of_blk h.blk]; rfl, by rw [cell_of_blk h.blk]; rfl, frozen_of_blk h.blk 0, frozen_of_blk h.blk 1⟩
theorem BxC.cells {a : Option Addr} {m c : Nat} {y : Int} {k : List Nat} (h : BxC t w g ⟨a, m, c, y, k⟩) : w.cell? ⟨g, 0, none⟩ = some (.slice a m c) ∧ w.cell? ⟨g, 1, none⟩ = some (.int .u64 y) ∧ w.frozen? ⟨g, 0, none⟩ = false ∧ w.frozen? ⟨g, 1, none⟩ = false ∧ Sl w a m c k :=
  ⟨h.facts.1, h.facts.2.1, h.facts.2.2.1, h.facts.2.2.2, h.sl⟩
theorem bxc_new {a : Option Addr} {m c : Nat} {y : Int} {k : List Nat} (t : TypeId) (h : Sl w a m c k) : BxC t (w.alloc (.cells #[.slice a m c, .int .u64 y] t)) w.heap.size ⟨a, m, c, y, k⟩ := ⟨heap_alloc_new w _, h.below (below_al _ _)⟩
abbrev bst (w : World) (g : Nat) (a : Option Addr) (m c : Nat) (y : Int) : World := (w.setCell ⟨g, 0, none⟩ (.slice a m c)).setCell ⟨g, 1, none⟩ (.int .u64 y)
theorem bst_mod (w : World) (g : Nat) (a : Option Addr) (m c : Nat) (y : Int) : Mod (fun j => j = g) w (bst w g a m c y) := ((Mod.refl (fun j => j = g) w).setCell ⟨g, 0, none⟩ _ (fun _ => rfl)).setCell ⟨g, 1, none⟩ _ (fun _ => rfl)
theorem BxC.off (h : BxC t w g b) {a : Option Addr} {n c : Nat} {bs : List Nat} (s : Sl w a n c bs) (hm : Mod (fun j => j = g) w w') : Sl w' a n c bs := by
  refine ⟨s.len, ⟨s.at_.1, fun i hi => ?_⟩, s.cap, s.capm, s.nil⟩
  obtain ⟨p, e, h1, h2⟩ := s.at_.2 i hi
  have hne : (p.add i).block ≠ g := fun q => by
    rw [World.cell?, q, h.blk] at h2
    simp only at h2
    split at h2
    · cases h2
    · rcases ho : (p.add i).off with _ | _ | o <;> rw [ho] at h2 <;> simp at h2
  refine ⟨p, e, Nat.lt_of_lt_of_le h1 hm.size, ?_⟩
  rw [← h2]
  unfold World.cell?
  rw [hm.same _ h1 hne]
theorem BxC.put (h : BxC t w g b) {a : Option Addr} {m c : Nat} {k : List Nat} (s : Sl w a m c k) (y : Int) : BxC t (bst w g a m c y) g ⟨a, m, c, y, k⟩ := by
  have z1 : (w.setCell ⟨g, 0, none⟩ (.slice a m c)).heap[g]? = some (.cells [.slice a m c, .int .u64 b.y].toArray t (0, 0)) := by
    rw [setCell_list _ _ _ _ _ _ h.blk, setRow_heap _ _ _ _ _ _ h.blk]; rfl
  refine ⟨?_, h.off s (bst_mod _ _ _ _ _ _)⟩
  show (bst w g a m c y).heap[g]? = _
  unfold bst
  rw [setCell_list _ _ _ _ _ _ z1, setRow_heap _ _ _ _ _ _ z1]; rfl
theorem BxC.other (h : BxC t w g b) (h' : BxC t' w g' b') (hne : g' ≠ g) (a : Option Addr) (m c : Nat) (y : Int) : BxC t' (bst w g a m c y) g' b' :=
  ⟨((bst_mod w g a m c y).same g' h'.lt hne).trans h'.blk, h.off h'.sl (bst_mod _ _ _ _ _ _)⟩
end
/-- four boxes -/
structure Q4 (w3 : World) (g1 g2 g3 g4 : Nat) (b1 b2 b3 b4 : Bx) (W : World) : Prop where
  since : Below w3.heap.size w3 W
  x1 : BxC apT W g1 b1
  x2 : BxC kpT W g2 b2
  x3 : BxC apT W g3 b3
  x4 : BxC kpT W g4 b4
  ge : w3.heap.size ≤ g1
  l1 : g1 < g2
  l2 : g2 < g3
  l3 : g3 < g4
section
variable {w3 W W' : World} {g1 g2 g3 g4 : Nat} {b1 b2 b3 b4 : Bx}
theorem Q4.below (h : Q4 w3 g1 g2 g3 g4 b1 b2 b3 b4 W) (hb : Below W.heap.size W W') : Q4 w3 g1 g2 g3 g4 b1 b2 b3 b4 W' :=
  ⟨h.since.trans (hb.mono h.since.size), h.x1.below hb, h.x2.below hb, h.x3.below hb, h.x4.below hb, h.ge, h.l1, h.l2, h.l3⟩
theorem Q4.st (h : Below w3.heap.size w3 W) {g : Nat} (hg : w3.heap.size ≤ g) (a : Option Addr) (m c : Nat) (y : Int) : Below w3.heap.size w3 (bst W g a m c y) :=
  (h.setCell (p := ⟨g, 0, none⟩) hg _).setCell (p := ⟨g, 1, none⟩) hg _
theorem Q4.put1 (h : Q4 w3 g1 g2 g3 g4 b1 b2 b3 b4 W) {a : Option Addr} {m c : Nat} {k : List Nat} (s : Sl W a m c k) (y : Int) : Q4 w3 g1 g2 g3 g4 ⟨a, m, c, y, k⟩ b2 b3 b4 (bst W g1 a m c y) :=
  ⟨Q4.st h.since h.ge _ _ _ _, h.x1.put s y, h.x1.other h.x2 (by have := h.l1; omega) _ _ _ _, h.x1.other h.x3 (by have := h.l1; have := h.l2; omega) _ _ _ _, h.x1.other h.x4 (by have := h.l1; have := h.l2; have := h.l3; omega) _ _ _ _, h.ge, h.l1, h.l2, h.l3⟩
theorem Q4.put2 (h : Q4 w3 g1 g2 g3 g4 b1 b2 b3 b4 W) {a : Option Addr} {m c : Nat} {k : List Nat} (s : Sl W a m c k) (y : Int) : Q4 w3 g1 g2 g3 g4 b1 ⟨a, m, c, y, k⟩ b3 b4 (bst W g2 a m c y) :=
  ⟨Q4.st h.since (by have := h.ge; have := h.l1; omega) _ _ _ _, h.x2.other h.x1 (by have := h.l1; omega) _ _ _ _, h.x2.put s y, h.x2.other h.x3 (by have := h.l2; omega) _ _ _ _, h.x2.other h.x4 (by have := h.l2; have := h.l3; omega) _ _ _ _, h.ge, h.l1, h.l2, h.l3⟩
theorem Q4.put3 (h : Q4 w3 g1 g2 g3 g4 b1 b2 b3 b4 W) {a : Option Addr} {m c : Nat} {k : List Nat} (s : Sl W a m c k) (y : Int) : Q4 w3 g1 g2 g3 g4 b1 b2 ⟨a, m, c, y, k⟩ b4 (bst W g3 a m c y) :=
  ⟨Q4.st h.since (by have := h.ge; have := h.l1; have := h.l2; omega) _ _ _ _, h.x3.other h.x1 (by have := h.l1; have := h.l2; omega) _ _ _ _, h.x3.other h.x2 (by have := h.l2; omega) _ _ _ _, h.x3.put s y, h.x3.other h.x4 (by have := h.l3; omega) _ _ _ _, h.ge, h.l1, h.l2, h.l3⟩
theorem Q4.put4 (h : Q4 w3 g1 g2 g3 g4 b1 b2 b3 b4 W) {a : Option Addr} {m c : Nat} {k : List Nat} (s : Sl W a m c k) (y : Int) : Q4 w3 g1 g2 g3 g4 b1 b2 b3 ⟨a, m, c, y, k⟩ (bst W g4 a m c y) :=
  ⟨Q4.st h.since (by have := h.ge; have := h.l1; have := h.l2; have := h.l3; omega) _ _ _ _, h.x4.other h.x1 (by have := h.l1; have := h.l2; have := h.l3; omega) _ _ _ _, h.x4.other h.x2 (by have := h.l2; have := h.l3; omega) _ _ _ _, h.x4.other h.x3 (by have := h.l3; omega) _ _ _ _, h.x4.put s y, h.ge, h.l1, h.l2, h.l3⟩
end
/-! The calls. -/
structure NearW (w : World) (v : Option Addr) (l : PL) : Prop where
  mn : ∀ X, Below w.heap.size w X → Calls Try.prog 51 #[.pointer v] X (npPost l.head? X)
  mx : ∀ X, Below w.heap.size w X → Calls Try.prog 53 #[.pointer v] X (npPost l.getLast? X)
  fl : ∀ X, Below w.heap.size w X → ∀ {ka : Option Addr} {kn kc : Nat} {k : List Nat}, Sl X ka kn kc k → kn ≤ 1000 → Calls Try.prog 56 #[.pointer v, .slice ka kn kc] X (npPost (dnL false k l) X)
  lo : ∀ X, Below w.heap.size w X → ∀ {ka : Option Addr} {kn kc : Nat} {k : List Nat}, Sl X ka kn kc k → kn ≤ 1000 → Calls Try.prog 60 #[.pointer v, .slice ka kn kc] X (npPost (dnL true k l) X)
  ce : ∀ X, Below w.heap.size w X → ∀ {ka : Option Addr} {kn kc : Nat} {k : List Nat}, Sl X ka kn kc k → kn ≤ 1000 → Calls Try.prog 58 #[.pointer v, .slice ka kn kc] X (npPost (upL false k l) X)
  hi : ∀ X, Below w.heap.size w X → ∀ {ka : Option Addr} {kn kc : Nat} {k : List Nat}, Sl X ka kn kc k → kn ≤ 1000 → Calls Try.prog 62 #[.pointer v, .slice ka kn kc] X (npPost (upL true k l) X)
theorem nearw_of {w0 w : World} {Q : List NP} {t : Tr} {v : Option Addr} (hQ : StoreP NoB w0 w Q) (hT : TreeV Q t (.pointer v)) (hO : TOk t) (hC : Can t) {l : PL} (he : tl t = l) (hway : tway t ≤ 900000) : NearW w v l := by
  subst he
  exact ⟨fun X hb => near_Min (hQ.below hb) hT hO hC hway, fun X hb => near_Max (hQ.below hb) hT hO hC hway, fun X hb _ _ _ _ hK hn => near_Floor (hQ.below hb) hT hO hC hway hK hn, fun X hb _ _ _ _ hK hn => near_Lower (hQ.below hb) hT hO hC hway hK hn, fun X hb _ _ _ _ hK hn => near_Ceil (hQ.below hb) hT hO hC hway hK hn, fun X hb _ _ _ _ hK hn => near_Higher (hQ.below hb) hT hO hC hway hK hn⟩
set_option maxHeartbeats 1000000 in
set_option maxRecDepth 100000 in
/-- the law's same, of one pair -/
theorem same17 {w : World} {a b : Option Addr} {m c m' c' : Nat} {k : List Nat} (h : Sl w a m c k) (h' : Sl w b m' c' k) (y : Int) (i : Bool) : Calls Try.prog 55 #[.agg #[.slice a m c, .int .u64 y], .bool i, .agg #[.slice b m' c', .int .u64 y], .bool i] w (belowPost (.bool true) w) := by
  obtain ⟨w1, hw1⟩ : ∃ w1, w1 = (w.alloc (.cells #[.slice a m c, .int .u64 y] apT)).alloc (.cells #[.slice b m' c', .int .u64 y] kpT) := ⟨_, rfl⟩
  have hA : Below w.heap.size w w1 := by rw [hw1]; exact below_al2 _ _ _
  have hS := Lib.hid (same_true (h.below hA) (h'.below hA))
  have HA := Lib.hid hA
  have z1 : w1.cell? ⟨w.heap.size, 0, none⟩ = some (.slice a m c) ∧ w1.cell? ⟨w.heap.size, 1, none⟩ = some (.int .u64 y) := by
    have := ((bxc_new (y := y) apT h).below (below_al _ (.cells #[.slice b m' c', .int .u64 y] kpT)))
    rw [← hw1] at this
    exact ⟨this.facts.1, this.facts.2.1⟩
  have z2 : w1.cell? ⟨w.heap.size + 1, 0, none⟩ = some (.slice b m' c') ∧ w1.cell? ⟨w.heap.size + 1, 1, none⟩ = some (.int .u64 y) := by
    have := bxc_new (y := y) kpT (h'.below (below_al w (.cells #[.slice a m c, .int .u64 y] apT)))
    rw [← hw1, World.size_alloc] at this
    exact ⟨this.facts.1, this.facts.2.1⟩
  obtain ⟨z1, z3⟩ := z1
  obtain ⟨z2, z4⟩ := z2
  clear h h' hA
  go_enter Try.func55, Try.ntmps55
  go_upto_region 1 with fail
  rw [← hw1]
  clear hw1
  go_wp2_with (go_at_call 47; refine hS.out.mono ?_; rintro e w2 ⟨rfl, b2⟩; have B2 := Lib.hid (HA.out.trans (b2.mono HA.out.size)); clear b2)
  go_ret
  exact ⟨rfl, B2.out⟩
/-! alive. -/
theorem al_n1 : upL false [1, 1] alL = some ([1, 2], 6) := by decide
theorem al_n2 : dnL false [1, 1] alL = some ([1], 5) := by decide
theorem al_n3 : upL true [1, 2] alL = none := by decide
theorem al_n4 : dnL true [1] alL = none := by decide
structure AlN (w : World) (v : Option Addr) : Prop where
  ce : ∀ X g, g = X.heap.size → Below w.heap.size w X → Calls Try.prog 58 #[.pointer v, .slice (some ⟨g, 0, none⟩) 2 2] (X.alloc (.cells #[.int .u8 1, .int .u8 1] 5)) fun e w2 => ∃ b c, e = .returned (.tuple #[.agg #[.slice b 2 c, .int .u64 6], .bool true]) ∧ Sl w2 b 2 c [1, 2] ∧ Below X.heap.size X w2
  fl : ∀ X g, g = X.heap.size → Below w.heap.size w X → Calls Try.prog 56 #[.pointer v, .slice (some ⟨g, 0, none⟩) 2 2] (X.alloc (.cells #[.int .u8 1, .int .u8 1] 5)) fun e w2 => ∃ b c, e = .returned (.tuple #[.agg #[.slice b 1 c, .int .u64 5], .bool true]) ∧ Sl w2 b 1 c [1] ∧ Below X.heap.size X w2
  hi : ∀ X g, g = X.heap.size → Below w.heap.size w X → Calls Try.prog 62 #[.pointer v, .slice (some ⟨g, 0, none⟩) 2 2] (X.alloc (.cells #[.int .u8 1, .int .u8 2] 5)) fun e w2 => ∃ b c, e = .returned (.tuple #[.agg #[.slice b 0 c, .int .u64 0], .bool false]) ∧ Below X.heap.size X w2
  lo : ∀ X g, g = X.heap.size → Below w.heap.size w X → Calls Try.prog 60 #[.pointer v, .slice (some ⟨g, 0, none⟩) 1 1] (X.alloc (.cells #[.int .u8 1] 5)) fun e w2 => ∃ b c, e = .returned (.tuple #[.agg #[.slice b 0 c, .int .u64 0], .bool false]) ∧ Below X.heap.size X w2
  mn : ∀ X, Below w.heap.size w X → Calls Try.prog 51 #[.pointer v] X fun e w2 => ∃ b c, e = .returned (.tuple #[.agg #[.slice b 1 c, .int .u64 5], .bool true]) ∧ Sl w2 b 1 c [1] ∧ Below X.heap.size X w2
  mx : ∀ X, Below w.heap.size w X → Calls Try.prog 53 #[.pointer v] X fun e w2 => ∃ b c, e = .returned (.tuple #[.agg #[.slice b 2 c, .int .u64 6], .bool true]) ∧ Sl w2 b 2 c [1, 2] ∧ Below X.heap.size X w2
theorem aln_of {w : World} {v : Option Addr} (h : NearW w v alL) : AlN w v where
  ce := fun X g hg hb => by
    subst hg
    have hA : Below X.heap.size X (X.alloc (.cells #[.int .u8 1, .int .u8 1] 5)) := below_al _ _
    refine (h.ce _ (hb.trans (hA.mono hb.size)) (sl_two X 1 1 5 (by omega) (by omega)) (by omega)).mono fun e w2 ⟨b, m, c, q1, q2, q3⟩ => ?_
    rw [al_n1] at q1 q2
    obtain rfl : 2 = m := q2.len
    exact ⟨b, c, q1, q2, hA.trans (q3.mono hA.size)⟩
  fl := fun X g hg hb => by
    subst hg
    have hA : Below X.heap.size X (X.alloc (.cells #[.int .u8 1, .int .u8 1] 5)) := below_al _ _
    refine (h.fl _ (hb.trans (hA.mono hb.size)) (sl_two X 1 1 5 (by omega) (by omega)) (by omega)).mono fun e w2 ⟨b, m, c, q1, q2, q3⟩ => ?_
    rw [al_n2] at q1 q2
    obtain rfl : 1 = m := q2.len
    exact ⟨b, c, q1, q2, hA.trans (q3.mono hA.size)⟩
  hi := fun X g hg hb => by
    subst hg
    have hA : Below X.heap.size X (X.alloc (.cells #[.int .u8 1, .int .u8 2] 5)) := below_al _ _
    refine (h.hi _ (hb.trans (hA.mono hb.size)) (sl_two X 1 2 5 (by omega) (by omega)) (by omega)).mono fun e w2 ⟨b, m, c, q1, q2, q3⟩ => ?_
    rw [al_n3] at q1 q2
    obtain rfl : 0 = m := q2.len
    exact ⟨b, c, q1, hA.trans (q3.mono hA.size)⟩
  lo := fun X g hg hb => by
    subst hg
    have hA : Below X.heap.size X (X.alloc (.cells #[.int .u8 1] 5)) := below_al _ _
    refine (h.lo _ (hb.trans (hA.mono hb.size)) (sl_one X 1 5 (by omega)) (by omega)).mono fun e w2 ⟨b, m, c, q1, q2, q3⟩ => ?_
    rw [al_n4] at q1 q2
    obtain rfl : 0 = m := q2.len
    exact ⟨b, c, q1, hA.trans (q3.mono hA.size)⟩
  mn := fun X hb => (h.mn X hb).mono fun e w2 ⟨b, m, c, q1, q2, q3⟩ => by
    obtain rfl : 1 = m := q2.len
    exact ⟨b, c, q1, q2, q3⟩
  mx := fun X hb => (h.mx X hb).mono fun e w2 ⟨b, m, c, q1, q2, q3⟩ => by
    obtain rfl : 2 = m := q2.len
    exact ⟨b, c, q1, q2, q3⟩
set_option maxHeartbeats 2000000 in
set_option maxRecDepth 100000 in
theorem alive17 (w : World) : Calls Try.prog 49 #[] w (belowPost (.bool true) w) := by
  have hP := Lib.hid (law_tree17 _ _ _ _ _ (al_prs w 5 5 kpT) (by omega) al_srt (by intro x hx; simp [alL] at hx; rcases hx with rfl | rfl <;> simp))
  have hB0 : Hid (Below w.heap.size w (((w.alloc (.cells #[.int .u8 1] 5)).alloc (.cells #[.int .u8 1, .int .u8 2] 5)).alloc (.cells #[.slice (some ⟨w.heap.size, 0, none⟩) 1 1, .int .u64 5, .slice (some ⟨w.heap.size + 1, 0, none⟩) 2 2, .int .u64 6] kpT))) := (((Below.refl _ w).alloc (Nat.le_refl _) _).alloc (by simp) _).alloc (by simp; omega) _
  have hX : Hid (∀ w1 t a Q, StoreP NoB (((w.alloc (.cells #[.int .u8 1] 5)).alloc (.cells #[.int .u8 1, .int .u8 2] 5)).alloc (.cells #[.slice (some ⟨w.heap.size, 0, none⟩) 1 1, .int .u64 5, .slice (some ⟨w.heap.size + 1, 0, none⟩) 2 2, .int .u64 6] kpT)) w1 Q → TreeV Q t (.pointer a) → TOk t → Can t → tl t = alL → AlN w1 a) := fun w1 t a Q q2 q3 q4 q5 q6 => aln_of (nearw_of q2 q3 q4 q5 q6 (by
    have := layT_bound (treeV_nz q3) q4 q5 (m := 2) (n := 2) (by rw [q6]; simp [alL]) (by omega) (by rw [q6]; simp [alL])
    have := tway_lay t q4
    omega))
  go_enter Try.func49, Try.ntmps49
  go_wp2_with (first
    | (go_at_call 50; refine hP.out.mono ?_; rintro e w1 ⟨t, a, Q, rfl, q2, q3, q4, q5, q6⟩
       have hS := Lib.hid (hX.out w1 t a Q q2 q3 q4 q5 q6)
       have B1 := Lib.hid (Below.refl w1.heap.size w1)
       have BW := Lib.hid (hB0.out.trans (q2.below_.mono hB0.out.size))
       clear q2 q3 q4 q5 q6)
    | (go_at_call 58; refine (hS.out.ce _ _ rfl B1.out).mono ?_; rintro e w2 ⟨b2, c2, rfl, s2, z⟩
       have K2 := Lib.hid (bxc_new (y := 6) apT s2)
       have B2 : Hid (Below w1.heap.size w1 (w2.alloc (.cells #[.slice b2 2 c2, .int .u64 6] apT))) := (B1.out.trans (z.mono B1.out.size)).alloc (B1.out.trans (z.mono B1.out.size)).size _
       have hF := Lib.hid (hS.out.fl _ (w2.heap.size + 1) (by rw [World.size_alloc]) B2.out)
       clear s2 z)
    | (go_at_call 56; refine hF.out.mono ?_; rintro e w3 ⟨b3, c3, rfl, s3, z⟩
       have K3 := Lib.hid (bxc_new (y := 5) apT s3)
       have z3 := z.alloc z.size (.cells #[.slice b3 1 c3, .int .u64 5] apT)
       have K2 := Lib.hid (K2.out.below z3)
       have B3 := Lib.hid (B2.out.trans (z3.mono B2.out.size))
       have hF := Lib.hid (hS.out.hi _ (w3.heap.size + 1) (by rw [World.size_alloc]) B3.out)
       clear s3 z z3)
    | (go_at_call 62; refine hF.out.mono ?_; rintro e w4 ⟨b4, c4, rfl, z⟩
       have z3 := z.alloc z.size (.cells #[.slice b4 0 c4, .int .u64 0] apT)
       have K2 := Lib.hid (K2.out.below z3)
       have K3 := Lib.hid (K3.out.below z3)
       have B4 := Lib.hid (B3.out.trans (z3.mono B3.out.size))
       have hF := Lib.hid (hS.out.lo _ (w4.heap.size + 1) (by rw [World.size_alloc]) B4.out)
       clear z z3)
    | (go_at_call 60; refine hF.out.mono ?_; rintro e w5 ⟨b5, c5, rfl, z⟩
       have z3 := z.alloc z.size (.cells #[.slice b5 0 c5, .int .u64 0] apT)
       have K2 := Lib.hid (K2.out.below z3)
       have K3 := Lib.hid (K3.out.below z3)
       have B5 := Lib.hid (B4.out.trans (z3.mono B4.out.size))
       clear z z3)
    | (go_at_call 51; refine (hS.out.mn _ B5.out).mono ?_; rintro e w6 ⟨b6, c6, rfl, s6, z⟩
       have z3 := z.alloc z.size (.cells #[.slice b6 1 c6, .int .u64 5] apT)
       have K2 := Lib.hid (K2.out.below z3)
       have K3 := Lib.hid (K3.out.below z3)
       have K6 := Lib.hid (bxc_new (y := 5) apT s6)
       have B6 := Lib.hid (B5.out.trans (z3.mono B5.out.size))
       clear s6 z z3)
    | (go_at_call 53; refine (hS.out.mx _ B6.out).mono ?_; rintro e w7 ⟨b7, c7, rfl, s7, z⟩
       have z3 := z.alloc z.size (.cells #[.slice b7 2 c7, .int .u64 6] apT)
       obtain ⟨f1, _, _, _⟩ := (K2.out.below z3).facts
       obtain ⟨_, f2, _, _⟩ := (K2.out.below z3).facts
       obtain ⟨f3, f4, _, _⟩ := (K3.out.below z3).facts
       obtain ⟨_, f6, _, _⟩ := (K6.out.below z3).facts
       obtain ⟨_, f8, _, _⟩ := (bxc_new (y := 6) apT s7).facts
       have B7 := Lib.hid (B6.out.trans (z3.mono B6.out.size))
       clear s7 z z3))
  go_ret
  exact ⟨rfl, BW.out.trans (B7.out.mono BW.out.size)⟩
end Go.Proofs.Ytkonbldjmcccmaa
/- The law NearIs. -/
namespace Go.Proofs.Ytkonbldjmcccmaa
open Go.RowKit
/-- what the law asks, in every later world -/
structure NearE (w : World) (v : Option Addr) (a : Option Addr) (n c : Nat) (ka : Option Addr) (kn kc : Nat) (k1 k2 k3 k4 k5 k6 : List Nat) (y1 y2 y3 y4 y5 y6 : Int) (i1 i2 i3 i4 i5 i6 : Bool) : Prop where
  mn : ∀ X, Below w.heap.size w X → Calls Try.prog 51 #[.pointer v] X (pairPost k1 y1 i1 X)
  rmn : ∀ X, Below w.heap.size w X → Calls Try.prog 52 #[.slice a n c] X (pairPost k1 y1 i1 X)
  mx : ∀ X, Below w.heap.size w X → Calls Try.prog 53 #[.pointer v] X (pairPost k2 y2 i2 X)
  rmx : ∀ X, Below w.heap.size w X → Calls Try.prog 54 #[.slice a n c] X (pairPost k2 y2 i2 X)
  fl : ∀ X, Below w.heap.size w X → Calls Try.prog 56 #[.pointer v, .slice ka kn kc] X (pairPost k3 y3 i3 X)
  rfl_ : ∀ X, Below w.heap.size w X → Calls Try.prog 57 #[.slice a n c, .slice ka kn kc] X (pairPost k3 y3 i3 X)
  ce : ∀ X, Below w.heap.size w X → Calls Try.prog 58 #[.pointer v, .slice ka kn kc] X (pairPost k4 y4 i4 X)
  rce : ∀ X, Below w.heap.size w X → Calls Try.prog 59 #[.slice a n c, .slice ka kn kc] X (pairPost k4 y4 i4 X)
  lo : ∀ X, Below w.heap.size w X → Calls Try.prog 60 #[.pointer v, .slice ka kn kc] X (pairPost k5 y5 i5 X)
  rlo : ∀ X, Below w.heap.size w X → Calls Try.prog 61 #[.slice a n c, .slice ka kn kc] X (pairPost k5 y5 i5 X)
  hi : ∀ X, Below w.heap.size w X → Calls Try.prog 62 #[.pointer v, .slice ka kn kc] X (pairPost k6 y6 i6 X)
  rhi : ∀ X, Below w.heap.size w X → Calls Try.prog 63 #[.slice a n c, .slice ka kn kc] X (pairPost k6 y6 i6 X)
theorem neare_of {w : World} {v a : Option Addr} {n c : Nat} {l : PL} {ka : Option Addr} {kn kc : Nat} {k : List Nat} (h : NearW w v l) (hP : Prs w a n c l) (hs : PSrt l) (hK : Sl w ka kn kc k) (hn : n ≤ 100000) (hkn : kn ≤ 1000) : ∃ k1 k2 k3 k4 k5 k6 y1 y2 y3 y4 y5 y6 i1 i2 i3 i4 i5 i6, NearE w v a n c ka kn kc k1 k2 k3 k4 k5 k6 y1 y2 y3 y4 y5 y6 i1 i2 i3 i4 i5 i6 :=
  ⟨(l.head?.getD ([], 0)).1, (l.getLast?.getD ([], 0)).1, ((dnL false k l).getD ([], 0)).1, ((upL false k l).getD ([], 0)).1, ((dnL true k l).getD ([], 0)).1, ((upL true k l).getD ([], 0)).1, (l.head?.getD ([], 0)).2, (l.getLast?.getD ([], 0)).2, ((dnL false k l).getD ([], 0)).2, ((upL false k l).getD ([], 0)).2, ((dnL true k l).getD ([], 0)).2, ((upL true k l).getD ([], 0)).2, l.head?.isSome, l.getLast?.isSome, (dnL false k l).isSome, (upL false k l).isSome, (dnL true k l).isSome, (upL true k l).isSome,
    { mn := fun X hb => h.mn X hb
      rmn := fun X hb => ref_Min (hP.below hb) hn
      mx := fun X hb => h.mx X hb
      rmx := fun X hb => ref_Max (hP.below hb) hn
      fl := fun X hb => h.fl X hb (hK.below hb) hkn
      rfl_ := fun X hb => ref_Floor (hP.below hb) hs hn (hK.below hb)
      ce := fun X hb => h.ce X hb (hK.below hb) hkn
      rce := fun X hb => ref_Ceil (hP.below hb) hs hn (hK.below hb)
      lo := fun X hb => h.lo X hb (hK.below hb) hkn
      rlo := fun X hb => ref_Lower (hP.below hb) hs hn (hK.below hb)
      hi := fun X hb => h.hi X hb (hK.below hb) hkn
      rhi := fun X hb => ref_Higher (hP.below hb) hs hn (hK.below hb) }⟩
theorem sort_near {w : World} {a : Option Addr} {n c : Nat} {l : PL} (h : Prs w a n c l) (hn : n ≤ 300) (hk : ∀ x ∈ l, x.1.length ≤ 300) : Calls Try.prog 37 #[.slice a n c] w fun e w1 => ∃ a1 m c1 l0, e = .returned (.slice a1 m c1) ∧ Below w.heap.size w w1 ∧ Prs w1 a1 m c1 l0 ∧ PSrt l0 ∧ m ≤ n ∧ (∀ x ∈ l0, x.1.length ≤ 300) ∧ Calls Try.prog 50 #[.slice a1 m c1, .int .u64 1] w1 fun e w2 => ∃ v t Q, e = .returned (.pointer v) ∧ Below w1.heap.size w1 w2 ∧ NearW w2 v l0 ∧ StoreP NoB w1 w2 Q ∧ TreeV Q t (.pointer v) ∧ TOk t ∧ tl t = l0 ∧ tway t ≤ 900000 := by
  refine (ref_sort w a n c l h (by omega)).mono ?_
  rintro e w1 ⟨v, l0, rfl, hP, hS⟩
  obtain ⟨a1, c1, rfl, hp⟩ := hP.prs
  have hl : l0.length ≤ n := by have := hS.len; rw [h.len] at this; exact this
  have hsh := hS.short hk
  refine ⟨a1, l0.length, c1, l0, rfl, hP.below_, hp, hS.srt, hl, hsh, (law_tree17 w1 a1 l0.length c1 l0 hp (by omega) hS.srt (fun x hx => by have := hsh x hx; omega)).mono fun e w2 ⟨t, v, Q, q1, q2, q3, q4, q5, q6⟩ => ?_⟩
  have hb : (layT t).length ≤ 300 * (300 + 46) := layT_bound (treeV_nz q3) q4 q5 (by rw [q6]; exact hsh) (by omega) (by rw [q6]; omega)
  have hw := tway_lay t q4
  exact ⟨v, t, Q, q1, q2.below_, nearw_of q2 q3 q4 q5 q6 (by omega), q2, q3, q4, q6, by omega⟩
set_option maxHeartbeats 8000000 in
set_option maxRecDepth 100000 in
theorem NearIs_any (w : World) (a : Option Addr) (n c : Nat) (l : PL) (h : Prs w a n c l) (ka : Option Addr) (kn kc : Nat) (k : List Nat) (hK : Sl w ka kn kc k) : Calls Try.prog 7 #[.slice a n c, .slice ka kn kc] w (truePost w) := by
  have hF := Lib.hid (far_17 w a n c l h 300 (by omega))
  have hal := Lib.hid (fun w => alive17 w)
  cases hb : (decide (300 < n) || farL 300 l) with
  | true =>
    rw [hb] at hF
    clear h hK hb
    go_enter Try.func7, Try.ntmps7
    go_wp2_with (first
      | (go_at_call 48; refine hF.out.mono ?_; rintro e w1 ⟨rfl, z1⟩; have B1 := Lib.hid z1; clear z1)
      | (go_at_call 49; refine (hal.out _).mono ?_; rintro e w2 ⟨rfl, z1⟩; have B2 := Lib.hid (B1.out.trans (z1.mono B1.out.size)); clear z1))
    go_ret
    exact ⟨rfl, B2.out⟩
  | false =>
    obtain ⟨h1, h3⟩ := far_m hb
    rw [hb] at hF
    by_cases h2 : 600 < kn
    · have j2 : (600 : Int) < (kn : Int) := by omega
      clear h hK hb h3
      go_enter Try.func7, Try.ntmps7
      go_wp2_with (first
        | (go_at_call 48; refine hF.out.mono ?_; rintro e w1 ⟨rfl, z1⟩; have B1 := Lib.hid z1; clear z1)
        | (go_at_call 49; refine (hal.out _).mono ?_; rintro e w2 ⟨rfl, z1⟩; have B2 := Lib.hid (B1.out.trans (z1.mono B1.out.size)); clear z1))
      go_ret
      exact ⟨rfl, B2.out⟩
    · have j2 : ¬ (600 : Int) < (kn : Int) := by omega
      have HK := Lib.hid hK
      have hkn : Hid (kn ≤ 1000) := by show _ ≤ _; omega
      have hnn : Hid (n ≤ 300) := h1
      have hso := Lib.hid (fun w1 (b1 : Below w.heap.size w w1) => sort_near (h.below b1) h1 h3)
      clear h hK hb h3 h1 h2
      go_enter Try.func7, Try.ntmps7
      go_wp2_with (first
        | (go_at_call 49; refine (hal.out _).mono ?_; rintro e w8 ⟨rfl, z1⟩; have B8 := Lib.hid (Q.out.since.trans (z1.mono Q.out.since.size)); clear z1)
        | (go_at_call 55; have hg := hS2; refine (same17 Q.out.x3.sl Q.out.x4.sl _ _).mono ?_; rintro e ws ⟨rfl, z⟩
           have Q := Lib.hid (Q.out.below z)
           clear z hS2)
        | (go_at_call 55; refine (same17 Q.out.x1.sl Q.out.x2.sl _ _).mono ?_; rintro e wr ⟨rfl, z⟩
           have Q := Lib.hid (Q.out.below z)
           have hS2 : Hid True := trivial
           obtain ⟨l5, l6, _, _⟩ := Q.out.x3.facts
           obtain ⟨l7, l8, _, _⟩ := Q.out.x4.facts
           clear z)
        | (go_at_call 56; refine (hX.out.fl _ Q.out.since).mono ?_; rintro e u1 ⟨au1, mu1, cu1, rfl, su1, z⟩
           have q := Q.out.below z
           obtain ⟨p0, p1, p2, p3⟩ := q.x1.facts
           have Q := Lib.hid (q.put1 su1 y3)
           clear su1 z q)
        | (go_at_call 57; refine (hX.out.rfl_ _ Q.out.since).mono ?_; rintro e u2 ⟨au2, mu2, cu2, rfl, su2, z⟩
           have q := Q.out.below z
           obtain ⟨p0, p1, p2, p3⟩ := q.x2.facts
           have Q := Lib.hid (q.put2 su2 y3)
           clear su2 z q)
        | (go_at_call 58; refine (hX.out.ce _ Q.out.since).mono ?_; rintro e u3 ⟨au3, mu3, cu3, rfl, su3, z⟩
           have q := Q.out.below z
           obtain ⟨p0, p1, p2, p3⟩ := q.x3.facts
           have Q := Lib.hid (q.put3 su3 y4)
           clear su3 z q)
        | (go_at_call 59; refine (hX.out.rce _ Q.out.since).mono ?_; rintro e u4 ⟨au4, mu4, cu4, rfl, su4, z⟩
           have q := Q.out.below z
           obtain ⟨p0, p1, p2, p3⟩ := q.x4.facts
           have Q := Lib.hid (q.put4 su4 y4)
           obtain ⟨l1, l2, _, _⟩ := Q.out.x1.facts
           obtain ⟨l3, l4, _, _⟩ := Q.out.x2.facts
           obtain ⟨l5, l6, _, _⟩ := Q.out.x3.facts
           obtain ⟨l7, l8, _, _⟩ := Q.out.x4.facts
           clear su4 z q)
        | (go_at_call 60; refine (hX.out.lo _ Q.out.since).mono ?_; rintro e u5 ⟨au5, mu5, cu5, rfl, su5, z⟩
           have q := Q.out.below z
           obtain ⟨p0, p1, p2, p3⟩ := q.x1.facts
           have Q := Lib.hid (q.put1 su5 y5)
           clear su5 z q)
        | (go_at_call 61; refine (hX.out.rlo _ Q.out.since).mono ?_; rintro e u6 ⟨au6, mu6, cu6, rfl, su6, z⟩
           have q := Q.out.below z
           obtain ⟨p0, p1, p2, p3⟩ := q.x2.facts
           have Q := Lib.hid (q.put2 su6 y5)
           clear su6 z q)
        | (go_at_call 62; refine (hX.out.hi _ Q.out.since).mono ?_; rintro e u7 ⟨au7, mu7, cu7, rfl, su7, z⟩
           have q := Q.out.below z
           obtain ⟨p0, p1, p2, p3⟩ := q.x3.facts
           have Q := Lib.hid (q.put3 su7 y6)
           clear su7 z q)
        | (go_at_call 63; refine (hX.out.rhi _ Q.out.since).mono ?_; rintro e u8 ⟨au8, mu8, cu8, rfl, su8, z⟩
           have q := Q.out.below z
           obtain ⟨p0, p1, p2, p3⟩ := q.x4.facts
           have Q := Lib.hid (q.put4 su8 y6)
           obtain ⟨l1, l2, _, _⟩ := Q.out.x1.facts
           obtain ⟨l3, l4, _, _⟩ := Q.out.x2.facts
           obtain ⟨l5, l6, _, _⟩ := Q.out.x3.facts
           obtain ⟨l7, l8, _, _⟩ := Q.out.x4.facts
           clear su8 z q)
        | (go_at_call 54; refine (hX.out.rmx _ V3.out).mono ?_; rintro e w7 ⟨a7, m7, c7, rfl, s7, z⟩
           have zz := z.alloc z.size (.cells #[.slice a7 m7 c7, .int .u64 y2] kpT)
           have Q := Lib.hid (Q4.mk (V3.out.trans (zz.mono V3.out.size)) (K1.out.below zz) (K2.out.below zz) (K3.out.below zz) (bxc_new (y := y2) kpT s7) G1.out G2.out G3.out (Nat.lt_of_lt_of_le K3.out.lt z.size))
           obtain ⟨l1, l2, _, _⟩ := Q.out.x1.facts
           obtain ⟨l3, l4, _, _⟩ := Q.out.x2.facts
           obtain ⟨l5, l6, _, _⟩ := Q.out.x3.facts
           obtain ⟨l7, l8, _, _⟩ := Q.out.x4.facts
           clear z zz s7)
        | (go_at_call 53; refine (hX.out.mx _ V2.out).mono ?_; rintro e w6 ⟨a6, m6, c6, rfl, s6, z⟩
           have zz := z.alloc z.size (.cells #[.slice a6 m6 c6, .int .u64 y2] apT)
           have G3 : Hid (w5.heap.size < w6.heap.size) := Nat.lt_of_lt_of_le K2.out.lt z.size
           have K1 := Lib.hid (K1.out.below zz)
           have K2 := Lib.hid (K2.out.below zz)
           have K3 := Lib.hid (bxc_new (y := y2) apT s6)
           have V3 := Lib.hid (V2.out.trans (zz.mono V2.out.size))
           clear z zz s6)
        | (go_at_call 52; refine (hX.out.rmn _ V1.out).mono ?_; rintro e w5 ⟨a5, m5, c5, rfl, s5, z⟩
           have zz := z.alloc z.size (.cells #[.slice a5 m5 c5, .int .u64 y1] kpT)
           have G2 : Hid (w4.heap.size < w5.heap.size) := Nat.lt_of_lt_of_le K1.out.lt z.size
           have K1 := Lib.hid (K1.out.below zz)
           have K2 := Lib.hid (bxc_new (y := y1) kpT s5)
           have V2 := Lib.hid (V1.out.trans (zz.mono V1.out.size))
           clear z zz s5)
        | (go_at_call 51; refine (hX.out.mn _ (Below.refl _ _)).mono ?_; rintro e w4 ⟨a4, m4, c4, rfl, s4, z⟩
           have zz := z.alloc z.size (.cells #[.slice a4 m4 c4, .int .u64 y1] apT)
           have G1 : Hid (w3.heap.size ≤ w4.heap.size) := z.size
           have K1 := Lib.hid (bxc_new (y := y1) apT s4)
           have V1 := Lib.hid zz
           clear z zz s4)
        | (go_at_call 50; refine hT.out.mono ?_; rintro e w3 ⟨at_, t, Q, rfl, z1, z2, _⟩
           have BX := Lib.hid (B2.out.trans (z1.mono B2.out.size))
           obtain ⟨k1, k2, k3, k4, k5, k6, y1, y2, y3, y4, y5, y6, i1, i2, i3, i4, i5, i6, hX0⟩ := neare_of z2 (HP.out.below z1) HSr.out (HK.out.below BX.out) (by have := Hmn.out; have := hnn.out; omega) hkn.out
           have hX := Lib.hid hX0
           clear z1 z2 hT hX0)
        | (go_at_call 37; refine (hso.out _ B1.out).mono ?_; rintro e w2 ⟨a2, m, c2, l0, rfl, z4, z6, z7, z8, _, z5⟩; have B2 := Lib.hid (B1.out.trans (z4.mono B1.out.size)); have HP := Lib.hid z6; have HSr := Lib.hid z7; have Hmn := Lib.hid z8; have hT := Lib.hid z5; clear z4 z5 z6 z7 z8)
        | (go_at_call 48; refine hF.out.mono ?_; rintro e w1 ⟨rfl, z1⟩; have B1 := Lib.hid z1; clear z1))
      go_ret
      exact ⟨rfl, BX.out.trans (B8.out.mono BX.out.size)⟩
end Go.Proofs.Ytkonbldjmcccmaa
