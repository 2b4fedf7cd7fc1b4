/- find: the walk down a tree; find.Get, Has: what the tree has; find.each: the beginnings of a key, one by one; how many nodes are gone into; find.each, walked, for each of its callbacks; find's callbacks; Steps; find.Longest; find.Beginnings; find.Beginnings; what find tells is what the pairs have; The document's Begins, Get, Beginnings, Longest; A canonical tree is told by its pairs. No program; alive of law 14. -/
import Derived.Test.YtkonbldjmcccmaaJ2
import Derived.Deep.RegionLaw
set_option linter.unusedVariables false
set_option linter.unusedSimpArgs false
/- find: the walk down a tree. -/
namespace Go.Proofs.Ytkonbldjmcccmaa
open Go.RowKit
/-- a node's part, laid anew -/
def npartPost (bs : List Nat) (w : World) (e : Ending) (w' : World) : Prop := ∃ a, e = .returned (.slice (some a) bs.length bs.length) ∧ Sl w' (some a) bs.length bs.length bs ∧ Below w.heap.size w w'
section
variable {w : World} {n : Nat} {o : Int} {bs : List Nat} {val : Int} {has : Bool} {kk : Option KV} {pv : Value} {bo : Option Nat} {kp : Option Addr} {Sk : Nat → Prop}
set_option maxRecDepth 100000 in
theorem nd_part_sl (h : NdIs w n o bs val has kk pv bo kp Sk) (h8 : ∀ x ∈ bs, x < 256) (hn : bs.length ≤ 140737488355328) : Calls Try.prog 32 #[.pointer (some ⟨n, 0, none⟩)] w (npartPost bs w) := by
  have c1 := h.c1
  have hmx : Hid (bs.length ≤ maxLen) := by show _ ≤ _; unfold maxLen; omega
  obtain ⟨pa, pc, hpv⟩ := h.own.len
  subst hpv
  have hl : (bV bs).length = bs.length := by simp [bV]
  rw [hl] at c1
  have hmk : ∀ w, (Instr.makeSlice 27 (.int .i64 (bs.length : Nat)) (.int .i64 (bs.length : Nat))).run Try.prog w = .ok (.slice (some ⟨w.heap.size, 0, none⟩) bs.length bs.length) (w.alloc (.cells (List.replicate bs.length (.int .u8 0)).toArray 5)) := fun w => make_u8 w _ hn
  have c1' : ∀ o, (w.alloc o).cell? ⟨n, 1, none⟩ = some (.slice pa bs.length pc) := fun o => (((Below.refl _ w).alloc (Nat.le_refl _) o).cell (p := ⟨n, 1, none⟩) h.lt).trans c1
  have hsz : (Try.prog.info? 5).map (·.size) = some 1 := by kernel_rfl
  have hg : Hid (∀ t, (w.alloc (.cells (Array.replicate bs.length (.int .u8 0)) t)).heap[w.heap.size]? = some (.cells (List.replicate bs.length (Value.int .u8 0)).toArray t (0, 0))) := fun t => by
    rw [heap_alloc_new]; simp
  have hcs : Hid ((bV bs).length = Nat.min bs.length bs.length) := by
    have : Nat.min bs.length bs.length = bs.length := Nat.min_self _
    show _ = _
    rw [hl, this]
  have hpos : Hid (∀ o, 0 < (bV bs).length → (some ⟨w.heap.size, 0, none⟩ : Option Addr) = some ⟨w.heap.size, 0, none⟩ ∧ ∃ ad, pa = some ad ∧ ∀ j v, (bV bs)[j]? = some v → (w.alloc o).cell? (ad.add j) = some v) := fun o hp => by
    obtain ⟨g, cap, e1, e2, _⟩ := h.own.at_ hp
    have e3 : pa = some ⟨g, 0, none⟩ := by simpa using (Value.slice.inj e2).1
    refine ⟨rfl, ⟨g, 0, none⟩, e3, fun j v hj => ?_⟩
    have hjl : j < (bV bs).length := (List.getElem?_eq_some_iff.1 hj).1
    have hv : (bV bs)[j] = v := (List.getElem?_eq_some_iff.1 hj).2
    obtain ⟨g', cap', q1, q2, q3, _⟩ := h.own.at_ hjl
    obtain rfl : g = g' := by rw [e1] at q1; simpa using q1
    have hlt := h.own
    rw [e1] at hlt
    have h2 : (⟨g, 0, none⟩ : Addr).add j = ⟨g, j, none⟩ := add0 g j
    rw [h2, ((Below.refl _ w).alloc (Nat.le_refl _) o).cell (p := ⟨g, j, none⟩) hlt.lt, q3, hv]
  have hfit : Hid (0 + (bV bs).length ≤ (List.replicate bs.length (Value.int .u8 0)).length) := by show _ ≤ _; simp [hl]
  have hone := Lib.hid (bV_one bs)
  have hB : Hid (∀ o, Below w.heap.size w (w.alloc o)) := fun o => (Below.refl _ w).alloc (Nat.le_refl _) o
  have hend : Hid (∀ w' t, w'.heap[w.heap.size]? = some (.cells (splice (List.replicate bs.length (Value.int .u8 0)) 0 (bV bs)).toArray t (0, 0)) → BytesAt w' (some ⟨w.heap.size, 0, none⟩) bs) := fun w' t q => by
    refine ⟨h8, fun i hi => ⟨_, rfl, ?_, ?_⟩⟩
    · rw [add0]
      exact (Array.getElem?_eq_some_iff.1 q).1
    · rw [add0, cell_of_blk q]
      simp [splice, hl, bV, List.getD, hi]
  clear h hn h8
  go_enter Try.func32, Try.ntmps32
  go_wp2_with (with_reducible show wpList _ _ _ (⟨some 17, _, _, _, _, _⟩ :: _) _ _; refine wpList_copy_splice (o := ⟨some 17, _, _, _, _, _⟩) rfl (.tmp 12) (.tmp 16) 27 27 rfl 5 cloneB_under hsz _ _ _ _ _ _ rfl rfl w.heap.size 0 _ _ (hg.out _) (bV bs) hcs.out (hpos.out _) hfit.out hone.out w.heap.size w (hB.out _) (Nat.le_refl _) ?_; intro w' hg2 hb2; have q := Lib.hid (hend.out _ _ hg2.out))
  go_ret
  exact ⟨_, rfl, ⟨rfl, q.out, Nat.le_refl _, hmx.out, fun e => by cases e⟩, hb2⟩
end
abbrev wkT : Nat := 126
def Wk (w : World) (b : Nat) (v ka : Option Addr) (kn kc at_ st : Nat) : Prop := w.heap[b]? = some (.cells [.pointer v, .slice ka kn kc, .int .i64 (at_ : Nat), .int .i64 (st : Nat)].toArray wkT (0, 0))
section
variable {w w' : World} {b kn kc at_ st : Nat} {v ka : Option Addr}
theorem Wk.c (h : Wk w b v ka kn kc at_ st) : w.cell? ⟨b, 0, none⟩ = some (.pointer v) ∧ w.cell? ⟨b, 1, none⟩ = some (.slice ka kn kc) ∧ w.cell? ⟨b, 2, none⟩ = some (.int .i64 (at_ : Nat)) ∧ w.cell? ⟨b, 3, none⟩ = some (.int .i64 (st : Nat)) :=
  ⟨by rw [cell_of_blk h]; rfl, by rw [cell_of_blk h]; rfl, by rw [cell_of_blk h]; rfl, by rw [cell_of_blk h]; rfl⟩
theorem Wk.f (h : Wk w b v ka kn kc at_ st) (j : Nat) : w.frozen? ⟨b, j, none⟩ = false := frozen_of_blk h j
theorem Wk.lt (h : Wk w b v ka kn kc at_ st) : b < w.heap.size := (Array.getElem?_eq_some_iff.1 h).1
theorem Wk.below (h : Wk w b v ka kn kc at_ st) (hb : Below w.heap.size w w') : Wk w' b v ka kn kc at_ st := (hb.block b h.lt).trans h
theorem Wk.setN (h : Wk w b v ka kn kc at_ st) (v2 : Option Addr) : Wk (w.setCell ⟨b, 0, none⟩ (.pointer v2)) b v2 ka kn kc at_ st := by
  unfold Wk; rw [setCell_list _ _ _ _ _ _ h, setRow_heap _ _ _ _ _ _ h]; rfl
theorem Wk.setAt (h : Wk w b v ka kn kc at_ st) (m : Nat) : Wk (w.setCell ⟨b, 2, none⟩ (.int .i64 (m : Nat))) b v ka kn kc m st := by
  unfold Wk; rw [setCell_list _ _ _ _ _ _ h, setRow_heap _ _ _ _ _ _ h]; rfl
theorem Wk.setSt (h : Wk w b v ka kn kc at_ st) (m : Nat) : Wk (w.setCell ⟨b, 3, none⟩ (.int .i64 (m : Nat))) b v ka kn kc at_ m := by
  unfold Wk; rw [setCell_list _ _ _ _ _ _ h, setRow_heap _ _ _ _ _ _ h]; rfl
theorem into_nil (h : Wk w b none ka kn kc at_ st) : Calls Try.prog 111 #[.pointer (some ⟨b, 0, none⟩)] w fun e w' => e = .returned (.bool false) ∧ w = w' := by
  obtain ⟨c0, c1, c2, c3⟩ := h.c
  clear h
  go_enter Try.func111, Try.ntmps111
  go_wp2_with fail
  go_ret
  exact ⟨rfl, rfl⟩
theorem walk_ends (h : Wk w b v ka kn kc at_ st) : Calls Try.prog 112 #[.pointer (some ⟨b, 0, none⟩)] w fun e w' => e = .returned (.bool (decide (at_ = kn))) ∧ ∃ k, w' = w.drewN k := by
  obtain ⟨c0, c1, c2, c3⟩ := h.c
  have e1 : ((at_ : Int) == (kn : Int)) = decide (at_ = kn) := by
    rw [Bool.eq_iff_iff]; simp; omega
  generalize decide (at_ = kn) = V at *
  clear h
  go_enter Try.func112, Try.ntmps112
  go_wp2_with fail
  go_quiet (fail)
  go_wp2_with fail
  go_ret
  exact ⟨rfl, _, rfl⟩
end
/-- nodes, a key, and a walk's variable that was made later -/
structure Way (w0 wN : World) (Q : List NP) (ka : Option Addr) (kn kc : Nat) (k : List Nat) (b : Nat) (wr : World) : Prop where
  st : StoreP NoB w0 wN Q
  key : Sl wN ka kn kc k
  new : wN.heap.size ≤ b
  since : Below wN.heap.size wN wr
theorem Way.next {w0 wN : World} {Q : List NP} {ka : Option Addr} {kn kc b : Nat} {k : List Nat} {wr w' : World} (h : Way w0 wN Q ka kn kc k b wr) (hb : Below wN.heap.size wr w') : Way w0 wN Q ka kn kc k b w' := ⟨h.st, h.key, h.new, h.since.trans hb⟩
/-- what into leaves -/
def intoPost (wN : World) (b : Nat) (v ka : Option Addr) (kn kc at_ st : Nat) (k bs : List Nat) (w : World) (e : Ending) (w' : World) : Prop :=
  Mod (fun j => j = b) w w' ∧ Below wN.heap.size w w' ∧ if bs <+: k.drop at_ then e = .returned (.bool true) ∧ Wk w' b v ka kn kc (at_ + bs.length) (st + 1) else e = .returned (.bool false) ∧ Wk w' b v ka kn kc at_ (st + 1)
set_option maxHeartbeats 1000000 in
set_option maxRecDepth 100000 in
theorem into_node {w0 wN w : World} {Q : List NP} {ka : Option Addr} {kn kc b at_ st i : Nat} {k : List Nat} {p : NP} (h : Way w0 wN Q ka kn kc k b w) (hW : Wk w b (some ⟨p.n, 0, none⟩) ka kn kc at_ st) (hi : Q[i]? = some p) (hat : at_ ≤ kn) (hst : st ≤ 100000) (hkn : kn ≤ 100000) :
    Calls Try.prog 111 #[.pointer (some ⟨b, 0, none⟩)] w (intoPost wN b (some ⟨p.n, 0, none⟩) ka kn kc at_ st k p.bs w) := by
  obtain ⟨c0, c1, c2, c3⟩ := hW.c
  have f3 := hW.f 3
  have hs1 := hW.setSt (st + 1)
  have B1 : Below wN.heap.size w (w.setCell ⟨b, 3, none⟩ (.int .i64 ((st + 1 : Nat) : Int))) := (Below.refl _ w).setCell (p := ⟨b, 3, none⟩) h.new _
  have hN1 := (h.next B1)
  have hP : Hid (Calls Try.prog 32 #[.pointer (some ⟨p.n, 0, none⟩)] (w.setCell ⟨b, 3, none⟩ (.int .i64 ((st + 1 : Nat) : Int))) (npartPost p.bs (w.setCell ⟨b, 3, none⟩ (.int .i64 ((st + 1 : Nat) : Int))))) := by
    have hs := h.st.below hN1.since
    obtain ⟨pv, bo, kp, Sk, hd⟩ := hs.is hi
    exact nd_part_sl hd (hs.fit hi).1 (hs.fit hi).2
  have hC : Hid (∀ w2 a2, Below wN.heap.size wN w2 → Sl w2 (some a2) p.bs.length p.bs.length p.bs → ∀ q, Calls Try.prog 171 #[.slice (cutA ka kc at_ 1) (kn - at_) (kc - at_), .slice (some a2) p.bs.length p.bs.length] (w2.drewN q) fun e w' => e = .returned (.bool (decide (p.bs <+: k.drop at_))) ∧ w' = w2.drewN q) := fun w2 a2 hb hs q =>
    (lib_prefix (((h.key.from_ hat).below hb).drewN q) (hs.drewN q)).mono fun e w' q => ⟨q.1, q.2.symm⟩
  have hcut : ∀ w, (Instr.slice 27 (.slice ka kn kc) (some (.int .i64 (at_ : Nat))) none none).run Try.prog w = .ok (.slice (cutA ka kc at_ 1) (kn - at_) (kc - at_)) w := fun w => run_from8 w ka kn kc at_ hat
  have hS1 := Lib.hid hs1
  have hM1 : Hid (Mod (fun j => j = b) w (w.setCell ⟨b, 3, none⟩ (.int .i64 ((st + 1 : Nat) : Int)))) := (Mod.refl _ w).setCell ⟨b, 3, none⟩ _ (fun _ => rfl)
  have hB1 := Lib.hid B1
  have hNs := Lib.hid h.since
  have hnew := Lib.hid h.new
  have hk0 : (0 : Int) ≤ (at_ : Int) := by omega
  have hk1 : (at_ : Int) ≤ (kn : Int) := by omega
  have hwst : IntKind.i64.wrap ((st : Int) + 1) = ((st + 1 : Nat) : Int) := by rw [show (st : Int) + 1 = ((st + 1 : Nat) : Int) by omega]; exact IntWalk.i64_in _ (by omega)
  have hkl := h.key.len
  obtain ⟨m, hm⟩ : ∃ m, m = p.bs.length := ⟨_, rfl⟩
  have hM := Lib.hid hm
  obtain ⟨V, hV⟩ : ∃ V, V = decide (p.bs <+: k.drop at_) := ⟨_, rfl⟩
  rw [← hm, ← hV] at hC
  unfold npartPost at hP
  rw [← hm] at hP
  have HV := Lib.hid hV
  have hmb : Hid (V = true → at_ + m ≤ kn) := fun e => by
    have h1 := of_decide_eq_true (hV.symm.trans e)
    have := h1.length_le
    rw [List.length_drop, hkl] at this
    omega
  have hend : Hid (∀ e w', (Mod (fun j => j = b) w w' ∧ Below wN.heap.size w w' ∧ if V = true then e = .returned (.bool true) ∧ Wk w' b (some ⟨p.n, 0, none⟩) ka kn kc (at_ + m) (st + 1) else e = .returned (.bool false) ∧ Wk w' b (some ⟨p.n, 0, none⟩) ka kn kc at_ (st + 1)) → intoPost wN b (some ⟨p.n, 0, none⟩) ka kn kc at_ st k p.bs w e w') := fun e w' q => by
    rw [hV, hm] at q
    unfold intoPost
    simpa using q
  clear hkl hV hm h hi hN1 hs1 B1 hW
  go_enter Try.func111, Try.ntmps111
  go_wp2_with (go_at_call 32; refine hP.out.mono ?_; rintro e w2 ⟨a2, rfl, z1, z2⟩; have W2 := Lib.hid (hS1.out.below z2); obtain ⟨d0, d1, d2, d3⟩ := W2.out.c; have g2 := W2.out.f 2; have B2 := Lib.hid (hB1.out.trans (z2.mono (Nat.le_trans hNs.out.size hB1.out.size))); have M2 := Lib.hid (hM1.out.trans (Mod.of_below z2)); have Z1 := Lib.hid z1; clear z1 z2)
  have hC2 := Lib.hid (hC.out w2 a2 (hNs.out.trans B2.out) Z1.out)
  have hk2 : (0 : Int) ≤ (kc : Int) := by omega
  cases V with
  | true =>
    have hm2 := hmb.out rfl
    have hwat : IntKind.i64.wrap ((at_ : Int) + (m : Int)) = ((at_ + m : Nat) : Int) := by rw [show (at_ : Int) + (m : Int) = ((at_ + m : Nat) : Int) by omega]; exact IntWalk.i64_in _ (by omega)
    go_quiet ((go_at_call 171; exact Calls.quiet_of_same (hC2.out _)))
    have W3 : Hid (Wk (w2.drewN nq) b (some ⟨p.n, 0, none⟩) ka kn kc at_ (st + 1)) := W2.out.below (below_drewN (Below.refl _ _) nq)
    have B3 : Hid (Below wN.heap.size w (w2.drewN nq)) := below_drewN B2.out nq
    have M3 : Hid (Mod (fun j => j = b) w (w2.drewN nq)) := M2.out.drewN nq
    have d2 : (w2.drewN nq).cell? ⟨b, 2, none⟩ = _ := d2
    have g2 : (w2.drewN nq).frozen? ⟨b, 2, none⟩ = _ := g2
    generalize w2.drewN nq = w3 at *
    have W4 := Lib.hid (W3.out.setAt (at_ + m))
    go_wp2_with fail
    go_ret
    refine hend.out _ _ ⟨M3.out.setCell ⟨b, 2, none⟩ _ (fun _ => rfl), B3.out.setCell (p := ⟨b, 2, none⟩) hnew.out _, ?_⟩
    rw [if_pos trivial]
    exact ⟨rfl, W4.out⟩
  | false =>
    go_quiet ((go_at_call 171; exact Calls.quiet_of_same (hC2.out _)))
    have W3 : Hid (Wk (w2.drewN nq) b (some ⟨p.n, 0, none⟩) ka kn kc at_ (st + 1)) := W2.out.below (below_drewN (Below.refl _ _) nq)
    have B3 : Hid (Below wN.heap.size w (w2.drewN nq)) := below_drewN B2.out nq
    have M3 : Hid (Mod (fun j => j = b) w (w2.drewN nq)) := M2.out.drewN nq
    generalize w2.drewN nq = w3 at *
    go_wp2_with fail
    go_ret
    refine hend.out _ _ ⟨M3.out, B3.out, ?_⟩
    rw [if_neg (by simp)]
    exact ⟨rfl, W3.out⟩
/-- what down leaves -/
def downPost (wN : World) (b : Nat) (v ka : Option Addr) (kn kc at_ st : Nat) (w : World) (e : Ending) (w' : World) : Prop :=
  e = .returned (.tuple #[]) ∧ Below wN.heap.size w w' ∧ Wk w' b v ka kn kc (at_ + 1) st ∧ Mod (fun j => j = b) w w'
set_option maxHeartbeats 1000000 in
set_option maxRecDepth 100000 in
theorem walk_down {w0 wN w : World} {Q : List NP} {ka : Option Addr} {kn kc b at_ st i : Nat} {k : List Nat} {p : NP} (h : Way w0 wN Q ka kn kc k b w) (hW : Wk w b (some ⟨p.n, 0, none⟩) ka kn kc at_ st) (hi : Q[i]? = some p) (hat : at_ < kn) (hkn : kn ≤ 100000) {v : Option Addr} (hv : (kget (p.kk.getD []) (k.getD at_ 0)).getD (.pointer none) = .pointer v) :
    Calls Try.prog 113 #[.pointer (some ⟨b, 0, none⟩)] w (downPost wN b v ka kn kc at_ st w) := by
  obtain ⟨c0, c1, c2, c3⟩ := hW.c
  have hkl := h.key.len
  obtain ⟨pk, rfl, q1, q2⟩ := h.key.at_.2 at_ (by rw [hkl]; exact hat)
  have hc256 : k.getD at_ 0 < 256 := h.key.at_.1 _ (mem_getD (by rw [hkl]; exact hat))
  have q3 := (h.since.cell q1).trans q2
  obtain ⟨ch, hch⟩ : ∃ ch, ch = k.getD at_ 0 := ⟨_, rfl⟩
  rw [← hch] at q3 hv hc256
  have hK : Hid (Calls Try.prog 20 #[.pointer (some ⟨p.n, 0, none⟩), .int .u8 (ch : Nat)] w.drew fun e w' => e = .returned (.pointer v) ∧ Below w.drew.heap.size w.drew w') := by
    have hs := (h.st.below h.since).below (Below.refl _ _).drew
    obtain ⟨pv, bo, kp, Sk, hd⟩ := hs.is hi
    exact (nd_kid hd ch hc256).mono fun e w' ⟨e1, n, e2⟩ => ⟨by rw [e1, hv], by rw [e2]; exact below_drewN (Below.refl _ _) n⟩
  have hS := Lib.hid (hW.below (w' := w.drew) (Below.refl _ _).drew)
  have hB := Lib.hid (h.since)
  have hnew := Lib.hid h.new
  have hBd : Hid (Below wN.heap.size w w.drew) := (Below.refl _ _).drew
  have hMd : Hid (Mod (fun j => j = b) w w.drew) := Mod.of_below (Below.refl _ _).drew
  have hsz : Hid (wN.heap.size ≤ w.drew.heap.size) := h.since.size
  have m0 : (0 : Int) ≤ (at_ : Int) := by omega
  have m1 : (at_ : Int) < (kn : Int) := by omega
  have hw9 : IntKind.i64.wrap ((at_ : Int) + 1) = ((at_ + 1 : Nat) : Int) := by rw [show (at_ : Int) + 1 = ((at_ + 1 : Nat) : Int) by omega]; exact IntWalk.i64_in _ (by omega)
  clear h hW hkl q1 q2 hv hch
  go_enter Try.func113, Try.ntmps113
  go_wp2_with fail
  go_region_with (go_at_call 20; refine hK.out.mono ?_; rintro e w2 ⟨rfl, z2⟩; have W2 := Lib.hid (hS.out.below z2); obtain ⟨d0, d1, d2, d3⟩ := W2.out.c; have g0 := W2.out.f 0; have g2 := W2.out.f 2; have B2 := Lib.hid (hBd.out.trans (z2.mono hsz.out)); have M2 := Lib.hid (hMd.out.trans (Mod.of_below z2)); clear z2; have W3 := Lib.hid (W2.out.setN v); obtain ⟨i0, i1, i2, i3⟩ := W3.out.c; have W4 := Lib.hid (W3.out.setAt (at_ + 1)))
  all_goals
    go_wp2_with fail
    go_end0
    exact ⟨rfl, (B2.out.setCell (p := ⟨b, 0, none⟩) hnew.out _).setCell (p := ⟨b, 2, none⟩) hnew.out _, W4.out, (M2.out.setCell ⟨b, 0, none⟩ _ (fun _ => rfl)).setCell ⟨b, 2, none⟩ _ (fun _ => rfl)⟩
end Go.Proofs.Ytkonbldjmcccmaa
/- find.Get, Has: what the tree has. -/
namespace Go.Proofs.Ytkonbldjmcccmaa
open Go.RowKit
/-- the kid that stands at a byte -/
theorem kid_find {Q : List NP} : ∀ {ks : Tr} {v : Value} {l : KV}, TreeIn Q 0 ks v l → TOk ks → IsK ks → ∀ c, ∃ (t : Tr) (a : Option Addr), (kget l c).getD (.pointer none) = .pointer a ∧ TreeV Q t (.pointer a) ∧ TOk t ∧ (∀ r, tget ks (c :: r) = tget t r) ∧ (∀ b x, (b, x) ∈ chain ks → b = c → t = x)
  | .nil, v, l, h, _, _, c => by
    have h : l = [] := h
    subst h
    exact ⟨.nil, none, rfl, Or.inl ⟨rfl, rfl⟩, trivial, fun _ => rfl, by simp [chain]⟩
  | .node .., _, _, _, _, hk, _ => hk.elim
  | .kid b t r, v, l, ⟨x, l', h1, h2, h3⟩, ⟨k1, k2, k3, k4, k5, k6⟩, _, c => by
    subst h1
    by_cases e : b = c
    · subst e
      obtain ⟨q, rfl⟩ := h2.isN k2
      refine ⟨t, some ⟨q, 0, none⟩, by simp [kget], Or.inr ⟨k2, h2⟩, k3, fun r => by simp [tget], fun b' x' hm e2 => ?_⟩
      subst e2
      rcases List.mem_cons.1 hm with hm | hm
      · exact ((Prod.mk.inj hm).2).symm
      · exfalso
        have hr := k5
        rw [← ofL_chain r k4 k5, tok_ofL] at hr
        have hf : ∀ y ∈ chain r, b' < y.1 := by
          intro y hy
          have : TOk (ofL ((b', t) :: chain r)) := by
            show TOk (.kid b' t (ofL (chain r)))
            rw [ofL_chain r k4 k5]
            exact ⟨k1, k2, k3, k4, k5, k6⟩
          have h2 := ((tok_ofL _).1 this).2
          rw [List.map_cons, List.pairwise_cons] at h2
          exact h2.1 y.1 (List.mem_map_of_mem hy)
        have := hf _ hm
        simp at this
    · obtain ⟨t', a, q1, q2, q3, q4, q5⟩ := kid_find h3 k5 k4 c
      refine ⟨t', a, ?_, q2, q3, fun s => ?_, fun b' x' hm e2 => ?_⟩
      · rw [← q1]
        have : kget ((b, x) :: l') c = kget l' c := by simp [kget, List.find?_cons, e]
        rw [this]
      · rw [← q4]; simp [tget, e]
      · rcases List.mem_cons.1 hm with hm | hm
        · have := (Prod.mk.inj hm).1
          omega
        · exact q5 b' x' hm e2
/-- what a look-up tells -/
def getVal (o : Option Int) : Value := .tuple #[.int .u64 (o.getD 0), .bool o.isSome]
/-- where a walk stands -/
structure At_ (w0 wN : World) (Q : List NP) (ka : Option Addr) (kn kc : Nat) (k : List Nat) (b : Nat) (R : Option Int) (t : Tr) (v : Option Addr) (at_ st : Nat) (wr : World) : Prop where
  way : Way w0 wN Q ka kn kc k b wr
  wk : Wk wr b v ka kn kc at_ st
  tree : TreeV Q t (.pointer v)
  ok : TOk t
  get : tget t (k.drop at_) = R
theorem wk_new (w : World) (v ka : Option Addr) (kn kc : Nat) : Wk (w.alloc (.cells #[.pointer v, .slice ka kn kc, .int .i64 0, .int .i64 0] wkT)) w.heap.size v ka kn kc 0 0 := heap_alloc_new w _
set_option maxHeartbeats 2000000 in
set_option maxRecDepth 100000 in
theorem find_get {w0 w : World} {Q : List NP} {ka : Option Addr} {kn kc : Nat} {k : List Nat} {t : Tr} {v : Option Addr} (hQ : StoreP NoB w0 w Q) (hK : Sl w ka kn kc k) (hT : TreeV Q t (.pointer v)) (hO : TOk t) (hkn : kn ≤ 1000) :
    Calls Try.prog 45 #[.pointer v, .slice ka kn kc] w (belowPost (getVal (tget t k)) w) := by
  obtain ⟨R, hR⟩ : ∃ R, R = tget t k := ⟨_, rfl⟩
  have H0 : Hid (At_ w0 w Q ka kn kc k w.heap.size R t v 0 0 (w.alloc (.cells #[.pointer v, .slice ka kn kc, .int .i64 0, .int .i64 0] wkT))) :=
    ⟨⟨hQ, hK, Nat.le_refl _, (Below.refl _ w).alloc (Nat.le_refl _) _⟩, wk_new w v ka kn kc, hT, hO, by rw [List.drop_zero, hR]⟩
  have hkl := Lib.hid hK.len
  rw [← hR]
  clear hQ hK hT hO hR
  go_enter Try.func45, Try.ntmps45
  go_wp2_with fail
  change Code.wp _ _ _ _ (w.alloc (.cells #[.pointer v, .slice ka kn kc, .int .i64 0, .int .i64 0] wkT))
  generalize (w.alloc (.cells #[.pointer v, .slice ka kn kc, .int .i64 0, .int .i64 0] wkT)) = w1 at *
  go_loopg [12] (kn + 1) (fun g s12 wr => ∃ (t' : Tr) (v' : Option Addr) (at_ st : Nat), at_ + g = kn + 1 ∧ st ≤ at_ ∧ 1 ≤ g ∧ Hid (At_ w0 w Q ka kn kc k w.heap.size R t' v' at_ st wr))
  case atStart => exact ⟨t, v, 0, 0, by omega, by omega, by omega, H0⟩
  case round =>
    clear H0
    obtain ⟨t', v', at_, st, hg, hst, hg1, HA⟩ := hrel
    have hatk : at_ ≤ kn := by omega
    rcases HA.out.tree with ⟨rfl, ev⟩ | ⟨hn, hin⟩
    · obtain rfl : v' = none := by injection ev
      have hI := Lib.hid (into_nil HA.out.wk)
      have hRn : Hid (R = none) := HA.out.get.symm
      have hB := Lib.hid HA.out.way.since
      clear ev
      go_wp2_with (go_at_call 111; refine hI.out.mono ?_; rintro e w2 ⟨rfl, rfl⟩)
      go_ret2
      rw [hRn.out]
      exact ⟨rfl, hB.out⟩
    · cases t' with
      | nil => exact hn.elim
      | kid _ _ _ => exact hn.elim
      | node bs val hs leaf ks =>
        obtain ⟨i, p, _, hi, hv, hbs, hval, hhas, hleaf, hks⟩ := hin
        obtain rfl : v' = some ⟨p.n, 0, none⟩ := by injection hv
        have hI := into_node HA.out.way HA.out.wk hi hatk (by omega) (by omega)
        have hget := HA.out.get
        unfold tget at hget
        obtain ⟨hb8, hv0, hv1, hh0, hlf, hKs, hOk⟩ := HA.out.ok
        rw [← hbs] at hget
        by_cases hpre : p.bs <+: k.drop at_
        · have hlen : at_ + p.bs.length ≤ kn := by
            have := hpre.length_le
            rw [List.length_drop, hkl.out] at this
            omega
          rw [if_pos hpre, List.drop_drop] at hget
          have hI2 : Hid (Calls Try.prog 111 #[.pointer (some ⟨w.heap.size, 0, none⟩)] wr fun e w' => e = .returned (.bool true) ∧ Below w.heap.size wr w' ∧ Wk w' w.heap.size (some ⟨p.n, 0, none⟩) ka kn kc (at_ + p.bs.length) (st + 1)) := hI.mono fun e w' q => by
            unfold intoPost at q
            rw [if_pos hpre] at q
            exact ⟨q.2.2.1, q.2.1, q.2.2.2⟩
          have HA2 := HA
          have hE : Hid (∀ w', Wk w' w.heap.size (some ⟨p.n, 0, none⟩) ka kn kc (at_ + p.bs.length) (st + 1) → Calls Try.prog 112 #[.pointer (some ⟨w.heap.size, 0, none⟩)] w' fun e w'' => e = .returned (.bool (decide (at_ + p.bs.length = kn))) ∧ Wk w'' w.heap.size (some ⟨p.n, 0, none⟩) ka kn kc (at_ + p.bs.length) (st + 1) ∧ Below w.heap.size w' w'') := fun w' hW => (walk_ends hW).mono fun e w'' ⟨e1, q, e2⟩ => ⟨e1, by rw [e2]; exact hW.below (below_drewN (Below.refl _ _) q), by rw [e2]; exact below_drewN (Below.refl _ _) q⟩
          by_cases hend : at_ + p.bs.length = kn
          · have hnil : k.drop (at_ + p.bs.length) = [] := List.drop_of_length_le (by rw [hkl.out]; omega)
            rw [if_pos hnil] at hget
            rw [decide_eq_true hend] at hE
            have hV : Hid (∀ w', Below w.heap.size w w' → Calls Try.prog 17 #[.pointer (some ⟨p.n, 0, none⟩)] w' fun e w'' => e = .returned (getVal R) ∧ w' = w'') := fun w' hw' => by
              obtain ⟨pv, bo, kp, Sk, hd⟩ := (HA.out.way.st.below hw').is hi
              refine (nd_val hd).mono fun e w'' q => ⟨?_, q.2⟩
              rw [q.1, ← hget, hhas]
              cases hs <;> simp [getVal, hval]
            have hB := Lib.hid HA.out.way.since
            unfold getVal at hV
            obtain ⟨r0, hr0⟩ : ∃ r0, r0 = R.getD 0 := ⟨_, rfl⟩
            obtain ⟨r1, hr1⟩ : ∃ r1, r1 = R.isSome := ⟨_, rfl⟩
            have hfin : Hid (∀ w', Below w.heap.size w w' → belowPost (getVal R) w (.returned (.tuple #[.int .u64 r0, .bool r1])) w') := fun w' q => by rw [hr0, hr1]; exact ⟨rfl, q⟩
            rw [← hr0, ← hr1] at hV
            clear hI hget hpre hlen hend hnil hr0 hr1 hv hhas hval hbs hleaf hks hKs
            go_wp2_with (first
              | (go_at_call 17; refine (hV.out _ B3.out).mono ?_; rintro e w4 ⟨rfl, rfl⟩)
              | (go_at_call 112; refine (hE.out _ W2.out).mono ?_; rintro e w3 ⟨rfl, z1, z2⟩; obtain ⟨d0, d1, d2, d3⟩ := z1.c; have B3 := Lib.hid (B2.out.trans z2); clear z1 z2)
              | (go_at_call 111; refine hI2.out.mono ?_; rintro e w2 ⟨rfl, z1, z2⟩; have W2 := Lib.hid z2; have B2 := Lib.hid (hB.out.trans z1); clear z1 z2))
            go_ret2
            exact hfin.out _ B3.out
          · have hne : k.drop (at_ + p.bs.length) ≠ [] := fun e => by
              have := congrArg List.length e
              rw [List.length_drop, hkl.out] at this
              simp at this
              omega
            have hlt : at_ + p.bs.length < k.length := by rw [hkl.out]; omega
            rw [if_neg hne, List.drop_eq_getElem_cons hlt] at hget
            obtain ⟨t2, a2, q1, q2, q3, q4, q5⟩ := kid_find hks hOk hKs (k[at_ + p.bs.length])
            rw [q4] at hget
            rw [decide_eq_false hend] at hE
            have hD : Hid (∀ w', Below w.heap.size w w' → Wk w' w.heap.size (some ⟨p.n, 0, none⟩) ka kn kc (at_ + p.bs.length) (st + 1) → Calls Try.prog 113 #[.pointer (some ⟨w.heap.size, 0, none⟩)] w' fun e w'' => e = .returned (.tuple #[]) ∧ At_ w0 w Q ka kn kc k w.heap.size R t2 a2 (at_ + p.bs.length + 1) (st + 1) w'') := fun w' hw' hW => by
              have hway : Way w0 w Q ka kn kc k w.heap.size w' := ⟨HA.out.way.st, HA.out.way.key, Nat.le_refl _, hw'⟩
              refine (walk_down hway hW hi (by omega) (by omega) (v := a2) (by rw [getD_of_lt hlt]; exact q1)).mono fun e w'' ⟨e1, e2, e3, _⟩ => ⟨e1, hway.next e2, e3, q2, q3, hget⟩
            have hB := Lib.hid HA.out.way.since
            obtain ⟨A2, hA2⟩ : ∃ A2, A2 = at_ + p.bs.length := ⟨_, rfl⟩
            rw [← hA2] at hD hE hI2 hlen hend
            have hm1 : at_ ≤ A2 := by omega
            have hm2 : A2 < kn := by omega
            clear q5 hI hget hpre hlen hend hne hlt hA2 hv hhas hval hbs hleaf hks hKs q1 q2 q3 q4
            go_wp2_with (first
              | (go_at_call 113; refine (hD.out _ B3.out W3.out).mono ?_; rintro e w4 ⟨rfl, z1⟩; have HA4 := Lib.hid z1; clear z1)
              | (go_at_call 112; refine (hE.out _ W2.out).mono ?_; rintro e w3 ⟨rfl, z1, z2⟩; have W3 := Lib.hid z1; have B3 := Lib.hid (B2.out.trans z2); clear z1 z2)
              | (go_at_call 111; refine hI2.out.mono ?_; rintro e w2 ⟨rfl, z1, z2⟩; have W2 := Lib.hid z2; have B2 := Lib.hid (hB.out.trans z1); clear z1 z2))
            go_roundg (kn - A2)
            case measure => omega
            case rel => exact ⟨t2, a2, A2 + 1, st + 1, by omega, by omega, by omega, HA4⟩
        · rw [if_neg hpre] at hget
          have hI2 : Hid (Calls Try.prog 111 #[.pointer (some ⟨w.heap.size, 0, none⟩)] wr fun e w' => e = .returned (.bool false) ∧ Below w.heap.size wr w') := hI.mono fun e w' q => by
            unfold intoPost at q
            rw [if_neg hpre] at q
            exact ⟨q.2.2.1, q.2.1⟩
          have hRn : Hid (R = none) := hget.symm
          have hB := Lib.hid HA.out.way.since
          clear hI hget hpre hv hhas hval hbs hleaf hks hKs
          go_wp2_with (go_at_call 111; refine hI2.out.mono ?_; rintro e w2 ⟨rfl, z1⟩; have B2 := Lib.hid (hB.out.trans z1); clear z1)
          go_ret2
          rw [hRn.out]
          exact ⟨rfl, B2.out⟩
theorem find_has {w0 w : World} {Q : List NP} {ka : Option Addr} {kn kc : Nat} {k : List Nat} {t : Tr} {v : Option Addr} (hQ : StoreP NoB w0 w Q) (hK : Sl w ka kn kc k) (hT : TreeV Q t (.pointer v)) (hO : TOk t) (hkn : kn ≤ 1000) :
    Calls Try.prog 103 #[.pointer v, .slice ka kn kc] w (belowPost (.bool (tget t k).isSome) w) := by
  have hG := find_get hQ hK hT hO hkn
  unfold getVal at hG
  obtain ⟨r0, hr0⟩ : ∃ r0, r0 = (tget t k).getD 0 := ⟨_, rfl⟩
  obtain ⟨r1, hr1⟩ : ∃ r1, r1 = (tget t k).isSome := ⟨_, rfl⟩
  rw [← hr0, ← hr1] at hG
  rw [← hr1]
  replace hG := Lib.hid hG
  clear hQ hK hT hO hr0 hr1
  go_enter Try.func103, Try.ntmps103
  go_wp2_with (go_at_call 45; refine hG.out.mono ?_; rintro e w2 ⟨rfl, z1⟩; have B2 := Lib.hid z1; clear z1)
  go_ret
  exact ⟨rfl, B2.out⟩
end Go.Proofs.Ytkonbldjmcccmaa
/- find.each: the beginnings of a key, one by one; how many nodes are gone into. -/
namespace Go.Proofs.Ytkonbldjmcccmaa
open Go.RowKit
/-- a key's beginnings in a tree, by how long they are; at: what is used up -/
def tbeg : Tr → Nat → List Nat → List (Nat × Int)
  | .nil, _, _ => []
  | .kid b t r, m, k => match k with
    | [] => []
    | c :: k' => if b = c then tbeg t (m + 1) k' else tbeg r m k
  | .node bs v has _ ks, m, k => if bs <+: k then (if has then [(m + bs.length, v)] else []) ++ (if k.drop bs.length = [] then [] else tbeg ks (m + bs.length) (k.drop bs.length)) else []
/-- how many nodes are gone into -/
def tstep : Tr → List Nat → Nat
  | .nil, _ => 0
  | .kid b t r, k => match k with
    | [] => 0
    | c :: k' => if b = c then tstep t k' else tstep r k
  | .node bs v has _ ks, k => 1 + (if bs <+: k then (if k.drop bs.length = [] then 0 else tstep ks (k.drop bs.length)) else 0)
/-- as kid_find, for what is told besides -/
theorem kid_findE {Q : List NP} : ∀ {ks : Tr} {v : Value} {l : KV}, TreeIn Q 0 ks v l → TOk ks → IsK ks → ∀ c, ∃ (t : Tr) (a : Option Addr), (kget l c).getD (.pointer none) = .pointer a ∧ TreeV Q t (.pointer a) ∧ TOk t ∧ (∀ m r, tbeg ks m (c :: r) = tbeg t (m + 1) r) ∧ (∀ r, tstep ks (c :: r) = tstep t r)
  | .nil, v, l, h, _, _, c => by
    have h : l = [] := h
    subst h
    exact ⟨.nil, none, rfl, Or.inl ⟨rfl, rfl⟩, trivial, fun _ _ => rfl, fun _ => rfl⟩
  | .node .., _, _, _, _, hk, _ => hk.elim
  | .kid b t r, v, l, ⟨x, l', h1, h2, h3⟩, ⟨k1, k2, k3, k4, k5, k6⟩, _, c => by
    subst h1
    by_cases e : b = c
    · subst e
      obtain ⟨q, rfl⟩ := h2.isN k2
      exact ⟨t, some ⟨q, 0, none⟩, by simp [kget], Or.inr ⟨k2, h2⟩, k3, fun m r => by simp [tbeg], fun r => by simp [tstep]⟩
    · obtain ⟨t', a, q1, q2, q3, q4, q5⟩ := kid_findE h3 k5 k4 c
      refine ⟨t', a, ?_, q2, q3, fun m s => ?_, fun s => ?_⟩
      · rw [← q1]
        have : kget ((b, x) :: l') c = kget l' c := by simp [kget, List.find?_cons, e]
        rw [this]
      · rw [← q4]; simp [tbeg, e]
      · rw [← q5]; simp [tstep, e]
/-- what a callback holds: blocks F, and what it was told -/
structure CbS (S : (Nat → Prop) → List (Nat × Int) → World → Prop) (lo : Nat) : Prop where
  keep : ∀ F L w w', S F L w → (∀ j, F j → w'.heap[j]? = w.heap[j]?) → S F L w'
  low : ∀ F L w, S F L w → ∀ j, F j → lo ≤ j
  high : ∀ F L w, S F L w → ∀ j, F j → j < w.heap.size
/-- a walk under way, and what was told -/
def Mid (S : (Nat → Prop) → List (Nat × Int) → World → Prop) (w0 wN : World) (Q : List NP) (ka : Option Addr) (kn kc : Nat) (k : List Nat) (b : Nat) (v : Option Addr) (at_ st : Nat) (L : List (Nat × Int)) (wr : World) : Prop :=
  Way w0 wN Q ka kn kc k b wr ∧ Wk wr b v ka kn kc at_ st ∧ ∃ F, S F L wr ∧ ¬ F b
def eachPost (S : (Nat → Prop) → List (Nat × Int) → World → Prop) (wN : World) (L : List (Nat × Int)) (m : Nat) (w : World) (e : Ending) (w' : World) : Prop :=
  e = .returned (.int .i64 (m : Nat)) ∧ Below wN.heap.size wN w' ∧ ∃ F, S F L w'
/-- what a callback does -/
def CbDoes (S : (Nat → Prop) → List (Nat × Int) → World → Prop) (wN : World) (kn : Nat) (f : FuncId) (args : Value → Value → Array Value) : Prop :=
  ∀ F L w x y, S F L w → x ≤ kn → 0 ≤ y → y < 18446744073709551616 → Below wN.heap.size wN w → L.length ≤ 2000 → Calls Try.prog f (args (.int .i64 ((x : Nat) : Int)) (.int .u64 y)) w fun e w' => e = .returned (.tuple #[]) ∧ ∃ F', S F' (L ++ [(x, y)]) w' ∧ Mod F w w' ∧ ∀ j, F' j → F j ∨ w.heap.size ≤ j
theorem Mod.belowLo {F : Nat → Prop} {lo : Nat} {w w' : World} (h : Mod F w w') (hl : ∀ j, F j → lo ≤ j) (hs : lo ≤ w.heap.size) : Below lo w w' :=
  ⟨h.os, h.tape, h.output, h.size, fun j hj => h.same j (by omega) (fun e => by have := hl j e; omega)⟩
section
variable {S : (Nat → Prop) → List (Nat × Int) → World → Prop} {w0 wN wr w' : World} {Q : List NP} {ka v : Option Addr} {kn kc b at_ st : Nat} {k : List Nat} {L : List (Nat × Int)}
theorem Mid.move (h : Mid S w0 wN Q ka kn kc k b v at_ st L wr) (hS : CbS S wN.heap.size) (hm : Mod (fun j => j = b) wr w') (hb : Below wN.heap.size wr w') {v2 : Option Addr} {at2 st2 : Nat} (hw : Wk w' b v2 ka kn kc at2 st2) : Mid S w0 wN Q ka kn kc k b v2 at2 st2 L w' := by
  obtain ⟨h1, h2, F, h3, h4⟩ := h
  exact ⟨h1.next hb, hw, F, hS.keep F L wr w' h3 fun j hj => hm.same j (hS.high F L wr h3 j hj) (fun e => h4 (e ▸ hj)), h4⟩
theorem Mid.draw (h : Mid S w0 wN Q ka kn kc k b v at_ st L wr) (hS : CbS S wN.heap.size) (q : Nat) : Mid S w0 wN Q ka kn kc k b v at_ st L (wr.drewN q) :=
  h.move hS (Mod.of_below (below_drewN (Below.refl _ _) q)) (below_drewN (Below.refl _ _) q) (h.2.1.below (below_drewN (Below.refl _ _) q))
theorem mid_into {i : Nat} {p : NP} (h : Mid S w0 wN Q ka kn kc k b (some ⟨p.n, 0, none⟩) at_ st L wr) (hS : CbS S wN.heap.size) (hi : Q[i]? = some p) (hat : at_ ≤ kn) (hst : st ≤ 100000) (hkn : kn ≤ 100000) (V : Bool) (hV : V = decide (p.bs <+: k.drop at_)) :
    Calls Try.prog 111 #[.pointer (some ⟨b, 0, none⟩)] wr fun e w' => e = .returned (.bool V) ∧ Mid S w0 wN Q ka kn kc k b (some ⟨p.n, 0, none⟩) (if V then at_ + p.bs.length else at_) (st + 1) L w' :=
  (into_node h.1 h.2.1 hi hat hst hkn).mono fun e w' ⟨q1, q2, q3⟩ => by
    by_cases hp : p.bs <+: k.drop at_
    · rw [if_pos hp] at q3
      rw [hV, decide_eq_true hp]
      exact ⟨q3.1, h.move hS q1 q2 q3.2⟩
    · rw [if_neg hp] at q3
      rw [hV, decide_eq_false hp]
      exact ⟨q3.1, h.move hS q1 q2 q3.2⟩
theorem mid_ends (h : Mid S w0 wN Q ka kn kc k b v at_ st L wr) (hS : CbS S wN.heap.size) : Calls Try.prog 112 #[.pointer (some ⟨b, 0, none⟩)] wr fun e w' => e = .returned (.bool (decide (at_ = kn))) ∧ Mid S w0 wN Q ka kn kc k b v at_ st L w' :=
  (walk_ends h.2.1).mono fun e w' ⟨e1, q, e2⟩ => ⟨e1, by rw [e2]; exact h.draw hS q⟩
theorem mid_val {i : Nat} {p : NP} (h : Mid S w0 wN Q ka kn kc k b (some ⟨p.n, 0, none⟩) at_ st L wr) (hi : Q[i]? = some p) : Calls Try.prog 17 #[.pointer (some ⟨p.n, 0, none⟩)] wr fun e w' => e = .returned (if p.has then .tuple #[.int .u64 p.val, .bool true] else .tuple #[.int .u64 0, .bool false]) ∧ wr = w' := by
  obtain ⟨pv, bo, kp, Sk, hd⟩ := (h.1.st.below h.1.since).is hi
  exact nd_val hd
theorem mid_down {i : Nat} {p : NP} (h : Mid S w0 wN Q ka kn kc k b (some ⟨p.n, 0, none⟩) at_ st L wr) (hS : CbS S wN.heap.size) (hi : Q[i]? = some p) (hat : at_ < kn) (hkn : kn ≤ 100000) {v2 : Option Addr} (hv : (kget (p.kk.getD []) (k.getD at_ 0)).getD (.pointer none) = .pointer v2) :
    Calls Try.prog 113 #[.pointer (some ⟨b, 0, none⟩)] wr fun e w' => e = .returned (.tuple #[]) ∧ Mid S w0 wN Q ka kn kc k b v2 (at_ + 1) st L w' :=
  (walk_down h.1 h.2.1 hi hat hkn hv).mono fun e w' ⟨e1, e2, e3, e4⟩ => ⟨e1, h.move hS e4 e2 e3⟩
theorem mid_call {f : FuncId} {args : Value → Value → Array Value} (h : Mid S w0 wN Q ka kn kc k b v at_ st L wr) (hS : CbS S wN.heap.size) (hf : CbDoes S wN kn f args) (hat : at_ ≤ kn) {y : Int} (hy : 0 ≤ y) (hy2 : y < 18446744073709551616) (hL : L.length ≤ 2000) :
    Calls Try.prog f (args (.int .i64 ((at_ : Nat) : Int)) (.int .u64 y)) wr fun e w' => e = .returned (.tuple #[]) ∧ Mid S w0 wN Q ka kn kc k b v at_ st (L ++ [(at_, y)]) w' := by
  obtain ⟨h1, h2, F, h3, h4⟩ := h
  refine (hf F L wr at_ y h3 hat hy hy2 h1.since hL).mono ?_
  rintro e w' ⟨rfl, F', q1, q2, q3⟩
  have hb : Below wN.heap.size wr w' := q2.belowLo (hS.low F L wr h3) h1.since.size
  refine ⟨rfl, h1.next hb, (q2.same b h2.lt h4).trans h2, F', q1, fun e => ?_⟩
  rcases q3 b e with e | e
  · exact h4 e
  · have := h2.lt; omega
end
end Go.Proofs.Ytkonbldjmcccmaa
/- find.each, walked, for each of its callbacks. -/
namespace Go.Proofs.Ytkonbldjmcccmaa
open Go.RowKit
set_option maxHeartbeats 4000000 in
set_option maxRecDepth 100000 in
theorem each_lo (b1 b2 b3 : Nat) {S : (Nat → Prop) → List (Nat × Int) → World → Prop} {w0 wN w : World} {Q : List NP} {ka : Option Addr} {kn kc : Nat} {k : List Nat} {t : Tr} {v : Option Addr} {F0 : Nat → Prop} (hS : CbS S wN.heap.size) (hf : CbDoes S wN kn 165 fun x y => #[x,y,.pointer (some ⟨b1,0,none⟩),.pointer (some ⟨b2,0,none⟩),.pointer (some ⟨b3,0,none⟩)])
    (hQ : StoreP NoB w0 wN Q) (hK : Sl wN ka kn kc k) (hT : TreeV Q t (.pointer v)) (hO : TOk t) (hkn : kn ≤ 1000) (hB : Below wN.heap.size wN w) (h0 : S F0 [] w) :
    Calls Try.prog 106 #[.pointer v, .slice ka kn kc, .func (.func 165) #[] #[.pointer (some ⟨b1,0,none⟩),.pointer (some ⟨b2,0,none⟩),.pointer (some ⟨b3,0,none⟩)]] w (eachPost S wN (tbeg t 0 k) (tstep t k) w) := by
  have HS := Lib.hid hS
  have hkl := Lib.hid hK.len
  obtain ⟨L0, eL⟩ : ∃ L0, L0 = tbeg t 0 k := ⟨_, rfl⟩
  obtain ⟨M, eM⟩ : ∃ M, M = tstep t k := ⟨_, rfl⟩
  have HT := Lib.hid (And.intro hT hO)
  have hw1 : Below w.heap.size w (w.alloc (.cells #[.pointer v, .slice ka kn kc, .int .i64 0, .int .i64 0] wkT)) := (Below.refl _ w).alloc (Nat.le_refl _) _
  have H0 : Hid (Mid S w0 wN Q ka kn kc k w.heap.size v 0 0 [] (w.alloc (.cells #[.pointer v, .slice ka kn kc, .int .i64 0, .int .i64 0] wkT))) :=
    ⟨⟨hQ, hK, hB.size, hB.trans (hw1.mono hB.size)⟩, wk_new w v ka kn kc, F0, hS.keep F0 [] w _ h0 (fun j hj => hw1.block j (hS.high F0 [] w h0 j hj)), fun e => by have := hS.high F0 [] w h0 _ e; omega⟩
  have Hf := Lib.hid hf
  have hL0 : Hid ([] ++ tbeg t 0 (k.drop 0) = L0) := by show _ = _; rw [eL]; simp
  have hM : Hid (0 + tstep t (k.drop 0) = M) := by show _ = _; rw [eM]; simp
  rw [← eL, ← eM]
  clear eL eM hS hf hQ hK hT hO hB h0 hw1
  go_enter Try.func106, Try.ntmps106
  go_wp2_with fail
  change Code.wp _ _ _ _ (w.alloc (.cells #[.pointer v, .slice ka kn kc, .int .i64 0, .int .i64 0] wkT))
  generalize (w.alloc (.cells #[.pointer v, .slice ka kn kc, .int .i64 0, .int .i64 0] wkT)) = w1 at *
  go_loopg [15] (kn + 1) (fun g s15 wr => ∃ (t' : Tr) (v' : Option Addr) (at_ st : Nat) (L : List (Nat × Int)), at_ + g = kn + 1 ∧ st ≤ at_ ∧ L.length ≤ st ∧ 1 ≤ g ∧ Hid (Mid S w0 wN Q ka kn kc k w.heap.size v' at_ st L wr) ∧ Hid (TreeV Q t' (.pointer v') ∧ TOk t') ∧ Hid (L ++ tbeg t' at_ (k.drop at_) = L0) ∧ Hid (st + tstep t' (k.drop at_) = M))
  case atStart => exact ⟨t, v, 0, 0, [], by omega, by omega, by simp, by omega, H0, HT, hL0, hM⟩
  case round =>
    clear H0 HT hL0 hM
    obtain ⟨t', v', at_, st, L, hg, hst, hLs, hg1, HA, HT, hL0, hM⟩ := hrel
    have hatk : at_ ≤ kn := by omega
    rcases HT.out.1 with ⟨rfl, ev⟩ | ⟨hn, hin⟩
    · obtain rfl : v' = none := by injection ev
      have hI := Lib.hid (into_nil HA.out.2.1)
      obtain ⟨d0, d1, d2, d3⟩ := HA.out.2.1.c
      have hE : Hid (eachPost S wN L0 M w (.returned (.int .i64 (st : Nat))) wr) := by
        have e1 := hL0.out
        have e2 := hM.out
        simp only [tbeg, List.append_nil] at e1
        simp only [tstep, Nat.add_zero] at e2
        subst e1; subst e2
        obtain ⟨h1, h2, F, h3, h4⟩ := HA.out
        exact ⟨rfl, h1.since, F, h3⟩
      clear ev d0 d1 d2
      go_wp2_with (go_at_call 111; refine hI.out.mono ?_; rintro e w2 ⟨rfl, rfl⟩)
      go_ret
      exact hE.out
    · cases t' with
      | nil => exact hn.elim
      | kid _ _ _ => exact hn.elim
      | node bs val hs leaf ks =>
        obtain ⟨i, p, _, hi, hv, hbs, hval, hhas, hleaf, hks⟩ := hin
        obtain rfl : v' = some ⟨p.n, 0, none⟩ := by injection hv
        have e1 := hL0.out
        have e2 := hM.out
        unfold tbeg at e1
        unfold tstep at e2
        obtain ⟨hb8, hv0, hv1, hh0, hlf, hKs, hOk⟩ := HT.out.2
        rw [← hbs] at e1 e2
        by_cases hpre : p.bs <+: k.drop at_
        · have hlen : at_ + p.bs.length ≤ kn := by
            have := hpre.length_le
            rw [List.length_drop, hkl.out] at this
            omega
          rw [if_pos hpre, List.drop_drop] at e1 e2
          have hI2 := mid_into HA.out HS.out hi hatk (by omega) (by omega) true (decide_eq_true hpre).symm
          rw [if_pos rfl] at hI2
          replace hI2 := Lib.hid hI2
          obtain ⟨A2, hA2⟩ : ∃ A2, A2 = at_ + p.bs.length := ⟨_, rfl⟩
          rw [← hA2] at hI2 hlen e1 e2
          have hVl : Hid (∀ w', Mid S w0 wN Q ka kn kc k w.heap.size (some ⟨p.n, 0, none⟩) A2 (st + 1) L w' → Calls Try.prog 17 #[.pointer (some ⟨p.n, 0, none⟩)] w' fun e w'' => e = .returned (if hs then .tuple #[.int .u64 val, .bool true] else .tuple #[.int .u64 0, .bool false]) ∧ w' = w'') := fun w' hw' => by
            have := mid_val hw' hi
            rwa [hhas, hval] at this
          have hEn : Hid (∀ w' L', Mid S w0 wN Q ka kn kc k w.heap.size (some ⟨p.n, 0, none⟩) A2 (st + 1) L' w' → Calls Try.prog 112 #[.pointer (some ⟨w.heap.size, 0, none⟩)] w' fun e w'' => e = .returned (.bool (decide (A2 = kn))) ∧ Mid S w0 wN Q ka kn kc k w.heap.size (some ⟨p.n, 0, none⟩) A2 (st + 1) L' w'') := fun w' L' hw' => mid_ends hw' HS.out
          have hCl : Hid (∀ w', Mid S w0 wN Q ka kn kc k w.heap.size (some ⟨p.n, 0, none⟩) A2 (st + 1) L w' → Calls Try.prog 165 ((fun x y => #[x,y,.pointer (some ⟨b1,0,none⟩),.pointer (some ⟨b2,0,none⟩),.pointer (some ⟨b3,0,none⟩)]) (.int .i64 ((A2 : Nat) : Int)) (.int .u64 val)) w' fun e w'' => e = .returned (.tuple #[]) ∧ Mid S w0 wN Q ka kn kc k w.heap.size (some ⟨p.n, 0, none⟩) A2 (st + 1) (L ++ [(A2, val)]) w'') := fun w' hw' => mid_call hw' HS.out Hf.out hlen hv0 hv1 (by omega)
          have hm0 : at_ ≤ A2 := by omega
          by_cases hend : A2 = kn
          · have hnil : k.drop A2 = [] := List.drop_of_length_le (by rw [hkl.out]; omega)
            rw [if_pos hnil] at e1 e2
            simp only [List.append_nil] at e1
            rw [decide_eq_true hend] at hEn
            have hE : Hid (∀ w' L', L' = L0 → Mid S w0 wN Q ka kn kc k w.heap.size (some ⟨p.n, 0, none⟩) A2 (st + 1) L' w' → w'.cell? ⟨w.heap.size, 3, none⟩ = some (.int .i64 (M : Nat)) ∧ eachPost S wN L0 M w (.returned (.int .i64 (M : Nat))) w') := fun w' L' el ⟨h1, h2, F, h3, h4⟩ => by
              subst el
              have em : st + 1 = M := by omega
              rw [← em]
              exact ⟨h2.c.2.2.2, rfl, h1.since, F, h3⟩
            cases hs with
            | true =>
              simp only [if_true] at e1 hVl
              have E1 := Lib.hid e1
              clear e1 e2 hpre hlen hend hnil hA2 hv hval hhas hbs hleaf hks hKs hL0 hM
              go_wp2_with (first
                | (go_at_call 112; refine (hEn.out _ _ M4.out).mono ?_; rintro e w5 ⟨rfl, z1⟩; obtain ⟨d3, z2⟩ := hE.out _ _ E1.out z1; have Z := Lib.hid z2; clear z1 z2)
                | (go_at_call 165; refine (hCl.out _ M2.out).mono ?_; rintro e w4 ⟨rfl, z1⟩; have M4 := Lib.hid z1; clear z1)
                | (go_at_call 17; refine (hVl.out _ M2.out).mono ?_; rintro e w3 ⟨rfl, rfl⟩; obtain ⟨d0, d1, d2, d3⟩ := M2.out.2.1.c)
                | (go_at_call 111; refine hI2.out.mono ?_; rintro e w2 ⟨rfl, z1⟩; have M2 := Lib.hid z1; obtain ⟨d0, d1, d2, d3⟩ := z1.2.1.c; clear z1))
              go_ret
              exact Z.out
            | false =>
              simp only [Bool.false_eq_true, if_false, List.append_nil] at e1 hVl
              have E1 := Lib.hid e1
              clear e1 e2 hpre hlen hend hnil hA2 hv hval hhas hbs hleaf hks hKs hL0 hM
              go_wp2_with (first
                | (go_at_call 112; refine (hEn.out _ _ M2.out).mono ?_; rintro e w5 ⟨rfl, z1⟩; obtain ⟨d3, z2⟩ := hE.out _ _ E1.out z1; have Z := Lib.hid z2; clear z1 z2)
                | (go_at_call 17; refine (hVl.out _ M2.out).mono ?_; rintro e w3 ⟨rfl, rfl⟩)
                | (go_at_call 111; refine hI2.out.mono ?_; rintro e w2 ⟨rfl, z1⟩; have M2 := Lib.hid z1; obtain ⟨d0, d1, d2, d3⟩ := z1.2.1.c; clear z1))
              go_ret
              exact Z.out
          · have hlt : A2 < k.length := by rw [hkl.out]; omega
            have hne : k.drop A2 ≠ [] := fun e => by
              have := congrArg List.length e
              rw [List.length_drop] at this
              simp at this
              omega
            rw [if_neg hne, List.drop_eq_getElem_cons hlt] at e1 e2
            obtain ⟨t2, a2, q1, q2, q3, q4, q5⟩ := kid_findE hks hOk hKs (k[A2])
            rw [q4] at e1
            rw [q5] at e2
            rw [decide_eq_false hend] at hEn
            have hD : Hid (∀ w' L', Mid S w0 wN Q ka kn kc k w.heap.size (some ⟨p.n, 0, none⟩) A2 (st + 1) L' w' → Calls Try.prog 113 #[.pointer (some ⟨w.heap.size, 0, none⟩)] w' fun e w'' => e = .returned (.tuple #[]) ∧ Mid S w0 wN Q ka kn kc k w.heap.size a2 (A2 + 1) (st + 1) L' w'') := fun w' L' hw' => mid_down hw' HS.out hi (by rw [hkl.out] at hlt; exact hlt) (by omega) (by rw [getD_of_lt hlt]; exact q1)
            have HT2 := Lib.hid (And.intro q2 q3)
            have hM2 : Hid (st + 1 + tstep t2 (k.drop (A2 + 1)) = M) := by show _ = _; omega
            have hm2 : A2 < kn := by rw [hkl.out] at hlt; exact hlt
            cases hs with
            | true =>
              simp only [if_true] at e1 hVl
              have E1 : Hid ((L ++ [(A2, val)]) ++ tbeg t2 (A2 + 1) (k.drop (A2 + 1)) = L0) := by show _ = _; rw [List.append_assoc]; exact e1
              clear e1 e2 hpre hlen hend hne hlt hA2 hv hval hhas hbs hleaf hks hKs hL0 hM q1 q2 q3 q4 q5
              go_wp2_with (first
                | (go_at_call 113; refine (hD.out _ _ M5.out).mono ?_; rintro e w6 ⟨rfl, z1⟩; have M6 := Lib.hid z1; clear z1)
                | (go_at_call 112; refine (hEn.out _ _ M4.out).mono ?_; rintro e w5 ⟨rfl, z1⟩; have M5 := Lib.hid z1; clear z1)
                | (go_at_call 165; refine (hCl.out _ M2.out).mono ?_; rintro e w4 ⟨rfl, z1⟩; have M4 := Lib.hid z1; clear z1)
                | (go_at_call 17; refine (hVl.out _ M2.out).mono ?_; rintro e w3 ⟨rfl, rfl⟩; obtain ⟨d0, d1, d2, d3⟩ := M2.out.2.1.c)
                | (go_at_call 111; refine hI2.out.mono ?_; rintro e w2 ⟨rfl, z1⟩; have M2 := Lib.hid z1; obtain ⟨d0, d1, d2, d3⟩ := z1.2.1.c; clear z1))
              go_roundg (kn - A2)
              case measure => omega
              case rel => exact ⟨t2, a2, A2 + 1, st + 1, _, by omega, by omega, by (try simp only [List.length_append, List.length_singleton]); omega, by omega, M6, HT2, E1, hM2⟩
            | false =>
              simp only [Bool.false_eq_true, if_false, List.nil_append] at e1 hVl
              have E1 : Hid (L ++ tbeg t2 (A2 + 1) (k.drop (A2 + 1)) = L0) := e1
              clear e1 e2 hpre hlen hend hne hlt hA2 hv hval hhas hbs hleaf hks hKs hL0 hM q1 q2 q3 q4 q5
              go_wp2_with (first
                | (go_at_call 113; refine (hD.out _ _ M5.out).mono ?_; rintro e w6 ⟨rfl, z1⟩; have M6 := Lib.hid z1; clear z1)
                | (go_at_call 112; refine (hEn.out _ _ M2.out).mono ?_; rintro e w5 ⟨rfl, z1⟩; have M5 := Lib.hid z1; clear z1)
                | (go_at_call 17; refine (hVl.out _ M2.out).mono ?_; rintro e w3 ⟨rfl, rfl⟩)
                | (go_at_call 111; refine hI2.out.mono ?_; rintro e w2 ⟨rfl, z1⟩; have M2 := Lib.hid z1; obtain ⟨d0, d1, d2, d3⟩ := z1.2.1.c; clear z1))
              go_roundg (kn - A2)
              case measure => omega
              case rel => exact ⟨t2, a2, A2 + 1, st + 1, _, by omega, by omega, by (try simp only [List.length_append, List.length_singleton]); omega, by omega, M6, HT2, E1, hM2⟩
        · rw [if_neg hpre] at e1 e2
          simp only [List.append_nil] at e1
          have hI2 := mid_into HA.out HS.out hi hatk (by omega) (by omega) false (decide_eq_false hpre).symm
          simp only [Bool.false_eq_true, if_false] at hI2
          replace hI2 := Lib.hid hI2
          have hE : Hid (∀ w', Mid S w0 wN Q ka kn kc k w.heap.size (some ⟨p.n, 0, none⟩) at_ (st + 1) L w' → w'.cell? ⟨w.heap.size, 3, none⟩ = some (.int .i64 (M : Nat)) ∧ eachPost S wN L0 M w (.returned (.int .i64 (M : Nat))) w') := fun w' ⟨h1, h2, F, h3, h4⟩ => by
            have em : st + 1 = M := by omega
            rw [← em, ← e1]
            exact ⟨h2.c.2.2.2, rfl, h1.since, F, h3⟩
          clear e1 e2 hpre hv hval hhas hbs hleaf hks hKs hL0 hM
          go_wp2_with (go_at_call 111; refine hI2.out.mono ?_; rintro e w2 ⟨rfl, z1⟩; obtain ⟨d3, z2⟩ := hE.out _ z1; have Z := Lib.hid z2; clear z1 z2)
          go_ret
          exact Z.out

set_option maxHeartbeats 4000000 in
set_option maxRecDepth 100000 in
theorem each_be (b1 b2 : Nat) {S : (Nat → Prop) → List (Nat × Int) → World → Prop} {w0 wN w : World} {Q : List NP} {ka : Option Addr} {kn kc : Nat} {k : List Nat} {t : Tr} {v : Option Addr} {F0 : Nat → Prop} (hS : CbS S wN.heap.size) (hf : CbDoes S wN kn 166 fun x y => #[x,y,.pointer (some ⟨b1,0,none⟩),.pointer (some ⟨b2,0,none⟩)])
    (hQ : StoreP NoB w0 wN Q) (hK : Sl wN ka kn kc k) (hT : TreeV Q t (.pointer v)) (hO : TOk t) (hkn : kn ≤ 1000) (hB : Below wN.heap.size wN w) (h0 : S F0 [] w) :
    Calls Try.prog 106 #[.pointer v, .slice ka kn kc, .func (.func 166) #[] #[.pointer (some ⟨b1,0,none⟩),.pointer (some ⟨b2,0,none⟩)]] w (eachPost S wN (tbeg t 0 k) (tstep t k) w) := by
  have HS := Lib.hid hS
  have hkl := Lib.hid hK.len
  obtain ⟨L0, eL⟩ : ∃ L0, L0 = tbeg t 0 k := ⟨_, rfl⟩
  obtain ⟨M, eM⟩ : ∃ M, M = tstep t k := ⟨_, rfl⟩
  have HT := Lib.hid (And.intro hT hO)
  have hw1 : Below w.heap.size w (w.alloc (.cells #[.pointer v, .slice ka kn kc, .int .i64 0, .int .i64 0] wkT)) := (Below.refl _ w).alloc (Nat.le_refl _) _
  have H0 : Hid (Mid S w0 wN Q ka kn kc k w.heap.size v 0 0 [] (w.alloc (.cells #[.pointer v, .slice ka kn kc, .int .i64 0, .int .i64 0] wkT))) :=
    ⟨⟨hQ, hK, hB.size, hB.trans (hw1.mono hB.size)⟩, wk_new w v ka kn kc, F0, hS.keep F0 [] w _ h0 (fun j hj => hw1.block j (hS.high F0 [] w h0 j hj)), fun e => by have := hS.high F0 [] w h0 _ e; omega⟩
  have Hf := Lib.hid hf
  have hL0 : Hid ([] ++ tbeg t 0 (k.drop 0) = L0) := by show _ = _; rw [eL]; simp
  have hM : Hid (0 + tstep t (k.drop 0) = M) := by show _ = _; rw [eM]; simp
  rw [← eL, ← eM]
  clear eL eM hS hf hQ hK hT hO hB h0 hw1
  go_enter Try.func106, Try.ntmps106
  go_wp2_with fail
  change Code.wp _ _ _ _ (w.alloc (.cells #[.pointer v, .slice ka kn kc, .int .i64 0, .int .i64 0] wkT))
  generalize (w.alloc (.cells #[.pointer v, .slice ka kn kc, .int .i64 0, .int .i64 0] wkT)) = w1 at *
  go_loopg [15] (kn + 1) (fun g s15 wr => ∃ (t' : Tr) (v' : Option Addr) (at_ st : Nat) (L : List (Nat × Int)), at_ + g = kn + 1 ∧ st ≤ at_ ∧ L.length ≤ st ∧ 1 ≤ g ∧ Hid (Mid S w0 wN Q ka kn kc k w.heap.size v' at_ st L wr) ∧ Hid (TreeV Q t' (.pointer v') ∧ TOk t') ∧ Hid (L ++ tbeg t' at_ (k.drop at_) = L0) ∧ Hid (st + tstep t' (k.drop at_) = M))
  case atStart => exact ⟨t, v, 0, 0, [], by omega, by omega, by simp, by omega, H0, HT, hL0, hM⟩
  case round =>
    clear H0 HT hL0 hM
    obtain ⟨t', v', at_, st, L, hg, hst, hLs, hg1, HA, HT, hL0, hM⟩ := hrel
    have hatk : at_ ≤ kn := by omega
    rcases HT.out.1 with ⟨rfl, ev⟩ | ⟨hn, hin⟩
    · obtain rfl : v' = none := by injection ev
      have hI := Lib.hid (into_nil HA.out.2.1)
      obtain ⟨d0, d1, d2, d3⟩ := HA.out.2.1.c
      have hE : Hid (eachPost S wN L0 M w (.returned (.int .i64 (st : Nat))) wr) := by
        have e1 := hL0.out
        have e2 := hM.out
        simp only [tbeg, List.append_nil] at e1
        simp only [tstep, Nat.add_zero] at e2
        subst e1; subst e2
        obtain ⟨h1, h2, F, h3, h4⟩ := HA.out
        exact ⟨rfl, h1.since, F, h3⟩
      clear ev d0 d1 d2
      go_wp2_with (go_at_call 111; refine hI.out.mono ?_; rintro e w2 ⟨rfl, rfl⟩)
      go_ret
      exact hE.out
    · cases t' with
      | nil => exact hn.elim
      | kid _ _ _ => exact hn.elim
      | node bs val hs leaf ks =>
        obtain ⟨i, p, _, hi, hv, hbs, hval, hhas, hleaf, hks⟩ := hin
        obtain rfl : v' = some ⟨p.n, 0, none⟩ := by injection hv
        have e1 := hL0.out
        have e2 := hM.out
        unfold tbeg at e1
        unfold tstep at e2
        obtain ⟨hb8, hv0, hv1, hh0, hlf, hKs, hOk⟩ := HT.out.2
        rw [← hbs] at e1 e2
        by_cases hpre : p.bs <+: k.drop at_
        · have hlen : at_ + p.bs.length ≤ kn := by
            have := hpre.length_le
            rw [List.length_drop, hkl.out] at this
            omega
          rw [if_pos hpre, List.drop_drop] at e1 e2
          have hI2 := mid_into HA.out HS.out hi hatk (by omega) (by omega) true (decide_eq_true hpre).symm
          rw [if_pos rfl] at hI2
          replace hI2 := Lib.hid hI2
          obtain ⟨A2, hA2⟩ : ∃ A2, A2 = at_ + p.bs.length := ⟨_, rfl⟩
          rw [← hA2] at hI2 hlen e1 e2
          have hVl : Hid (∀ w', Mid S w0 wN Q ka kn kc k w.heap.size (some ⟨p.n, 0, none⟩) A2 (st + 1) L w' → Calls Try.prog 17 #[.pointer (some ⟨p.n, 0, none⟩)] w' fun e w'' => e = .returned (if hs then .tuple #[.int .u64 val, .bool true] else .tuple #[.int .u64 0, .bool false]) ∧ w' = w'') := fun w' hw' => by
            have := mid_val hw' hi
            rwa [hhas, hval] at this
          have hEn : Hid (∀ w' L', Mid S w0 wN Q ka kn kc k w.heap.size (some ⟨p.n, 0, none⟩) A2 (st + 1) L' w' → Calls Try.prog 112 #[.pointer (some ⟨w.heap.size, 0, none⟩)] w' fun e w'' => e = .returned (.bool (decide (A2 = kn))) ∧ Mid S w0 wN Q ka kn kc k w.heap.size (some ⟨p.n, 0, none⟩) A2 (st + 1) L' w'') := fun w' L' hw' => mid_ends hw' HS.out
          have hCl : Hid (∀ w', Mid S w0 wN Q ka kn kc k w.heap.size (some ⟨p.n, 0, none⟩) A2 (st + 1) L w' → Calls Try.prog 166 ((fun x y => #[x,y,.pointer (some ⟨b1,0,none⟩),.pointer (some ⟨b2,0,none⟩)]) (.int .i64 ((A2 : Nat) : Int)) (.int .u64 val)) w' fun e w'' => e = .returned (.tuple #[]) ∧ Mid S w0 wN Q ka kn kc k w.heap.size (some ⟨p.n, 0, none⟩) A2 (st + 1) (L ++ [(A2, val)]) w'') := fun w' hw' => mid_call hw' HS.out Hf.out hlen hv0 hv1 (by omega)
          have hm0 : at_ ≤ A2 := by omega
          by_cases hend : A2 = kn
          · have hnil : k.drop A2 = [] := List.drop_of_length_le (by rw [hkl.out]; omega)
            rw [if_pos hnil] at e1 e2
            simp only [List.append_nil] at e1
            rw [decide_eq_true hend] at hEn
            have hE : Hid (∀ w' L', L' = L0 → Mid S w0 wN Q ka kn kc k w.heap.size (some ⟨p.n, 0, none⟩) A2 (st + 1) L' w' → w'.cell? ⟨w.heap.size, 3, none⟩ = some (.int .i64 (M : Nat)) ∧ eachPost S wN L0 M w (.returned (.int .i64 (M : Nat))) w') := fun w' L' el ⟨h1, h2, F, h3, h4⟩ => by
              subst el
              have em : st + 1 = M := by omega
              rw [← em]
              exact ⟨h2.c.2.2.2, rfl, h1.since, F, h3⟩
            cases hs with
            | true =>
              simp only [if_true] at e1 hVl
              have E1 := Lib.hid e1
              clear e1 e2 hpre hlen hend hnil hA2 hv hval hhas hbs hleaf hks hKs hL0 hM
              go_wp2_with (first
                | (go_at_call 112; refine (hEn.out _ _ M4.out).mono ?_; rintro e w5 ⟨rfl, z1⟩; obtain ⟨d3, z2⟩ := hE.out _ _ E1.out z1; have Z := Lib.hid z2; clear z1 z2)
                | (go_at_call 166; refine (hCl.out _ M2.out).mono ?_; rintro e w4 ⟨rfl, z1⟩; have M4 := Lib.hid z1; clear z1)
                | (go_at_call 17; refine (hVl.out _ M2.out).mono ?_; rintro e w3 ⟨rfl, rfl⟩; obtain ⟨d0, d1, d2, d3⟩ := M2.out.2.1.c)
                | (go_at_call 111; refine hI2.out.mono ?_; rintro e w2 ⟨rfl, z1⟩; have M2 := Lib.hid z1; obtain ⟨d0, d1, d2, d3⟩ := z1.2.1.c; clear z1))
              go_ret
              exact Z.out
            | false =>
              simp only [Bool.false_eq_true, if_false, List.append_nil] at e1 hVl
              have E1 := Lib.hid e1
              clear e1 e2 hpre hlen hend hnil hA2 hv hval hhas hbs hleaf hks hKs hL0 hM
              go_wp2_with (first
                | (go_at_call 112; refine (hEn.out _ _ M2.out).mono ?_; rintro e w5 ⟨rfl, z1⟩; obtain ⟨d3, z2⟩ := hE.out _ _ E1.out z1; have Z := Lib.hid z2; clear z1 z2)
                | (go_at_call 17; refine (hVl.out _ M2.out).mono ?_; rintro e w3 ⟨rfl, rfl⟩)
                | (go_at_call 111; refine hI2.out.mono ?_; rintro e w2 ⟨rfl, z1⟩; have M2 := Lib.hid z1; obtain ⟨d0, d1, d2, d3⟩ := z1.2.1.c; clear z1))
              go_ret
              exact Z.out
          · have hlt : A2 < k.length := by rw [hkl.out]; omega
            have hne : k.drop A2 ≠ [] := fun e => by
              have := congrArg List.length e
              rw [List.length_drop] at this
              simp at this
              omega
            rw [if_neg hne, List.drop_eq_getElem_cons hlt] at e1 e2
            obtain ⟨t2, a2, q1, q2, q3, q4, q5⟩ := kid_findE hks hOk hKs (k[A2])
            rw [q4] at e1
            rw [q5] at e2
            rw [decide_eq_false hend] at hEn
            have hD : Hid (∀ w' L', Mid S w0 wN Q ka kn kc k w.heap.size (some ⟨p.n, 0, none⟩) A2 (st + 1) L' w' → Calls Try.prog 113 #[.pointer (some ⟨w.heap.size, 0, none⟩)] w' fun e w'' => e = .returned (.tuple #[]) ∧ Mid S w0 wN Q ka kn kc k w.heap.size a2 (A2 + 1) (st + 1) L' w'') := fun w' L' hw' => mid_down hw' HS.out hi (by rw [hkl.out] at hlt; exact hlt) (by omega) (by rw [getD_of_lt hlt]; exact q1)
            have HT2 := Lib.hid (And.intro q2 q3)
            have hM2 : Hid (st + 1 + tstep t2 (k.drop (A2 + 1)) = M) := by show _ = _; omega
            have hm2 : A2 < kn := by rw [hkl.out] at hlt; exact hlt
            cases hs with
            | true =>
              simp only [if_true] at e1 hVl
              have E1 : Hid ((L ++ [(A2, val)]) ++ tbeg t2 (A2 + 1) (k.drop (A2 + 1)) = L0) := by show _ = _; rw [List.append_assoc]; exact e1
              clear e1 e2 hpre hlen hend hne hlt hA2 hv hval hhas hbs hleaf hks hKs hL0 hM q1 q2 q3 q4 q5
              go_wp2_with (first
                | (go_at_call 113; refine (hD.out _ _ M5.out).mono ?_; rintro e w6 ⟨rfl, z1⟩; have M6 := Lib.hid z1; clear z1)
                | (go_at_call 112; refine (hEn.out _ _ M4.out).mono ?_; rintro e w5 ⟨rfl, z1⟩; have M5 := Lib.hid z1; clear z1)
                | (go_at_call 166; refine (hCl.out _ M2.out).mono ?_; rintro e w4 ⟨rfl, z1⟩; have M4 := Lib.hid z1; clear z1)
                | (go_at_call 17; refine (hVl.out _ M2.out).mono ?_; rintro e w3 ⟨rfl, rfl⟩; obtain ⟨d0, d1, d2, d3⟩ := M2.out.2.1.c)
                | (go_at_call 111; refine hI2.out.mono ?_; rintro e w2 ⟨rfl, z1⟩; have M2 := Lib.hid z1; obtain ⟨d0, d1, d2, d3⟩ := z1.2.1.c; clear z1))
              go_roundg (kn - A2)
              case measure => omega
              case rel => exact ⟨t2, a2, A2 + 1, st + 1, _, by omega, by omega, by (try simp only [List.length_append, List.length_singleton]); omega, by omega, M6, HT2, E1, hM2⟩
            | false =>
              simp only [Bool.false_eq_true, if_false, List.nil_append] at e1 hVl
              have E1 : Hid (L ++ tbeg t2 (A2 + 1) (k.drop (A2 + 1)) = L0) := e1
              clear e1 e2 hpre hlen hend hne hlt hA2 hv hval hhas hbs hleaf hks hKs hL0 hM q1 q2 q3 q4 q5
              go_wp2_with (first
                | (go_at_call 113; refine (hD.out _ _ M5.out).mono ?_; rintro e w6 ⟨rfl, z1⟩; have M6 := Lib.hid z1; clear z1)
                | (go_at_call 112; refine (hEn.out _ _ M2.out).mono ?_; rintro e w5 ⟨rfl, z1⟩; have M5 := Lib.hid z1; clear z1)
                | (go_at_call 17; refine (hVl.out _ M2.out).mono ?_; rintro e w3 ⟨rfl, rfl⟩)
                | (go_at_call 111; refine hI2.out.mono ?_; rintro e w2 ⟨rfl, z1⟩; have M2 := Lib.hid z1; obtain ⟨d0, d1, d2, d3⟩ := z1.2.1.c; clear z1))
              go_roundg (kn - A2)
              case measure => omega
              case rel => exact ⟨t2, a2, A2 + 1, st + 1, _, by omega, by omega, by (try simp only [List.length_append, List.length_singleton]); omega, by omega, M6, HT2, E1, hM2⟩
        · rw [if_neg hpre] at e1 e2
          simp only [List.append_nil] at e1
          have hI2 := mid_into HA.out HS.out hi hatk (by omega) (by omega) false (decide_eq_false hpre).symm
          simp only [Bool.false_eq_true, if_false] at hI2
          replace hI2 := Lib.hid hI2
          have hE : Hid (∀ w', Mid S w0 wN Q ka kn kc k w.heap.size (some ⟨p.n, 0, none⟩) at_ (st + 1) L w' → w'.cell? ⟨w.heap.size, 3, none⟩ = some (.int .i64 (M : Nat)) ∧ eachPost S wN L0 M w (.returned (.int .i64 (M : Nat))) w') := fun w' ⟨h1, h2, F, h3, h4⟩ => by
            have em : st + 1 = M := by omega
            rw [← em, ← e1]
            exact ⟨h2.c.2.2.2, rfl, h1.since, F, h3⟩
          clear e1 e2 hpre hv hval hhas hbs hleaf hks hKs hL0 hM
          go_wp2_with (go_at_call 111; refine hI2.out.mono ?_; rintro e w2 ⟨rfl, z1⟩; obtain ⟨d3, z2⟩ := hE.out _ z1; have Z := Lib.hid z2; clear z1 z2)
          go_ret
          exact Z.out

set_option maxHeartbeats 4000000 in
set_option maxRecDepth 100000 in
theorem each_st {b1 : Nat} {S : (Nat → Prop) → List (Nat × Int) → World → Prop} {w0 wN w : World} {Q : List NP} {ka : Option Addr} {kn kc : Nat} {k : List Nat} {t : Tr} {v : Option Addr} {F0 : Nat → Prop} (hS : CbS S wN.heap.size) (hf : CbDoes S wN kn 107 fun x y => #[x,y])
    (hQ : StoreP NoB w0 wN Q) (hK : Sl wN ka kn kc k) (hT : TreeV Q t (.pointer v)) (hO : TOk t) (hkn : kn ≤ 1000) (hB : Below wN.heap.size wN w) (h0 : S F0 [] w) :
    Calls Try.prog 106 #[.pointer v, .slice ka kn kc, .func (.func 107) #[] #[]] w (eachPost S wN (tbeg t 0 k) (tstep t k) w) := by
  have HS := Lib.hid hS
  have hkl := Lib.hid hK.len
  obtain ⟨L0, eL⟩ : ∃ L0, L0 = tbeg t 0 k := ⟨_, rfl⟩
  obtain ⟨M, eM⟩ : ∃ M, M = tstep t k := ⟨_, rfl⟩
  have HT := Lib.hid (And.intro hT hO)
  have hw1 : Below w.heap.size w (w.alloc (.cells #[.pointer v, .slice ka kn kc, .int .i64 0, .int .i64 0] wkT)) := (Below.refl _ w).alloc (Nat.le_refl _) _
  have H0 : Hid (Mid S w0 wN Q ka kn kc k w.heap.size v 0 0 [] (w.alloc (.cells #[.pointer v, .slice ka kn kc, .int .i64 0, .int .i64 0] wkT))) :=
    ⟨⟨hQ, hK, hB.size, hB.trans (hw1.mono hB.size)⟩, wk_new w v ka kn kc, F0, hS.keep F0 [] w _ h0 (fun j hj => hw1.block j (hS.high F0 [] w h0 j hj)), fun e => by have := hS.high F0 [] w h0 _ e; omega⟩
  have Hf := Lib.hid hf
  have hL0 : Hid ([] ++ tbeg t 0 (k.drop 0) = L0) := by show _ = _; rw [eL]; simp
  have hM : Hid (0 + tstep t (k.drop 0) = M) := by show _ = _; rw [eM]; simp
  rw [← eL, ← eM]
  clear eL eM hS hf hQ hK hT hO hB h0 hw1
  go_enter Try.func106, Try.ntmps106
  go_wp2_with fail
  change Code.wp _ _ _ _ (w.alloc (.cells #[.pointer v, .slice ka kn kc, .int .i64 0, .int .i64 0] wkT))
  generalize (w.alloc (.cells #[.pointer v, .slice ka kn kc, .int .i64 0, .int .i64 0] wkT)) = w1 at *
  go_loopg [15] (kn + 1) (fun g s15 wr => ∃ (t' : Tr) (v' : Option Addr) (at_ st : Nat) (L : List (Nat × Int)), at_ + g = kn + 1 ∧ st ≤ at_ ∧ L.length ≤ st ∧ 1 ≤ g ∧ Hid (Mid S w0 wN Q ka kn kc k w.heap.size v' at_ st L wr) ∧ Hid (TreeV Q t' (.pointer v') ∧ TOk t') ∧ Hid (L ++ tbeg t' at_ (k.drop at_) = L0) ∧ Hid (st + tstep t' (k.drop at_) = M))
  case atStart => exact ⟨t, v, 0, 0, [], by omega, by omega, by simp, by omega, H0, HT, hL0, hM⟩
  case round =>
    clear H0 HT hL0 hM
    obtain ⟨t', v', at_, st, L, hg, hst, hLs, hg1, HA, HT, hL0, hM⟩ := hrel
    have hatk : at_ ≤ kn := by omega
    rcases HT.out.1 with ⟨rfl, ev⟩ | ⟨hn, hin⟩
    · obtain rfl : v' = none := by injection ev
      have hI := Lib.hid (into_nil HA.out.2.1)
      obtain ⟨d0, d1, d2, d3⟩ := HA.out.2.1.c
      have hE : Hid (eachPost S wN L0 M w (.returned (.int .i64 (st : Nat))) wr) := by
        have e1 := hL0.out
        have e2 := hM.out
        simp only [tbeg, List.append_nil] at e1
        simp only [tstep, Nat.add_zero] at e2
        subst e1; subst e2
        obtain ⟨h1, h2, F, h3, h4⟩ := HA.out
        exact ⟨rfl, h1.since, F, h3⟩
      clear ev d0 d1 d2
      go_wp2_with (go_at_call 111; refine hI.out.mono ?_; rintro e w2 ⟨rfl, rfl⟩)
      go_ret
      exact hE.out
    · cases t' with
      | nil => exact hn.elim
      | kid _ _ _ => exact hn.elim
      | node bs val hs leaf ks =>
        obtain ⟨i, p, _, hi, hv, hbs, hval, hhas, hleaf, hks⟩ := hin
        obtain rfl : v' = some ⟨p.n, 0, none⟩ := by injection hv
        have e1 := hL0.out
        have e2 := hM.out
        unfold tbeg at e1
        unfold tstep at e2
        obtain ⟨hb8, hv0, hv1, hh0, hlf, hKs, hOk⟩ := HT.out.2
        rw [← hbs] at e1 e2
        by_cases hpre : p.bs <+: k.drop at_
        · have hlen : at_ + p.bs.length ≤ kn := by
            have := hpre.length_le
            rw [List.length_drop, hkl.out] at this
            omega
          rw [if_pos hpre, List.drop_drop] at e1 e2
          have hI2 := mid_into HA.out HS.out hi hatk (by omega) (by omega) true (decide_eq_true hpre).symm
          rw [if_pos rfl] at hI2
          replace hI2 := Lib.hid hI2
          obtain ⟨A2, hA2⟩ : ∃ A2, A2 = at_ + p.bs.length := ⟨_, rfl⟩
          rw [← hA2] at hI2 hlen e1 e2
          have hVl : Hid (∀ w', Mid S w0 wN Q ka kn kc k w.heap.size (some ⟨p.n, 0, none⟩) A2 (st + 1) L w' → Calls Try.prog 17 #[.pointer (some ⟨p.n, 0, none⟩)] w' fun e w'' => e = .returned (if hs then .tuple #[.int .u64 val, .bool true] else .tuple #[.int .u64 0, .bool false]) ∧ w' = w'') := fun w' hw' => by
            have := mid_val hw' hi
            rwa [hhas, hval] at this
          have hEn : Hid (∀ w' L', Mid S w0 wN Q ka kn kc k w.heap.size (some ⟨p.n, 0, none⟩) A2 (st + 1) L' w' → Calls Try.prog 112 #[.pointer (some ⟨w.heap.size, 0, none⟩)] w' fun e w'' => e = .returned (.bool (decide (A2 = kn))) ∧ Mid S w0 wN Q ka kn kc k w.heap.size (some ⟨p.n, 0, none⟩) A2 (st + 1) L' w'') := fun w' L' hw' => mid_ends hw' HS.out
          have hCl : Hid (∀ w', Mid S w0 wN Q ka kn kc k w.heap.size (some ⟨p.n, 0, none⟩) A2 (st + 1) L w' → Calls Try.prog 107 ((fun x y => #[x,y]) (.int .i64 ((A2 : Nat) : Int)) (.int .u64 val)) w' fun e w'' => e = .returned (.tuple #[]) ∧ Mid S w0 wN Q ka kn kc k w.heap.size (some ⟨p.n, 0, none⟩) A2 (st + 1) (L ++ [(A2, val)]) w'') := fun w' hw' => mid_call hw' HS.out Hf.out hlen hv0 hv1 (by omega)
          have hm0 : at_ ≤ A2 := by omega
          by_cases hend : A2 = kn
          · have hnil : k.drop A2 = [] := List.drop_of_length_le (by rw [hkl.out]; omega)
            rw [if_pos hnil] at e1 e2
            simp only [List.append_nil] at e1
            rw [decide_eq_true hend] at hEn
            have hE : Hid (∀ w' L', L' = L0 → Mid S w0 wN Q ka kn kc k w.heap.size (some ⟨p.n, 0, none⟩) A2 (st + 1) L' w' → w'.cell? ⟨w.heap.size, 3, none⟩ = some (.int .i64 (M : Nat)) ∧ eachPost S wN L0 M w (.returned (.int .i64 (M : Nat))) w') := fun w' L' el ⟨h1, h2, F, h3, h4⟩ => by
              subst el
              have em : st + 1 = M := by omega
              rw [← em]
              exact ⟨h2.c.2.2.2, rfl, h1.since, F, h3⟩
            cases hs with
            | true =>
              simp only [if_true] at e1 hVl
              have E1 := Lib.hid e1
              clear e1 e2 hpre hlen hend hnil hA2 hv hval hhas hbs hleaf hks hKs hL0 hM
              go_wp2_with (first
                | (go_at_call 112; refine (hEn.out _ _ M4.out).mono ?_; rintro e w5 ⟨rfl, z1⟩; obtain ⟨d3, z2⟩ := hE.out _ _ E1.out z1; have Z := Lib.hid z2; clear z1 z2)
                | (go_at_call 107; refine (hCl.out _ M2.out).mono ?_; rintro e w4 ⟨rfl, z1⟩; have M4 := Lib.hid z1; clear z1)
                | (go_at_call 17; refine (hVl.out _ M2.out).mono ?_; rintro e w3 ⟨rfl, rfl⟩; obtain ⟨d0, d1, d2, d3⟩ := M2.out.2.1.c)
                | (go_at_call 111; refine hI2.out.mono ?_; rintro e w2 ⟨rfl, z1⟩; have M2 := Lib.hid z1; obtain ⟨d0, d1, d2, d3⟩ := z1.2.1.c; clear z1))
              go_ret
              exact Z.out
            | false =>
              simp only [Bool.false_eq_true, if_false, List.append_nil] at e1 hVl
              have E1 := Lib.hid e1
              clear e1 e2 hpre hlen hend hnil hA2 hv hval hhas hbs hleaf hks hKs hL0 hM
              go_wp2_with (first
                | (go_at_call 112; refine (hEn.out _ _ M2.out).mono ?_; rintro e w5 ⟨rfl, z1⟩; obtain ⟨d3, z2⟩ := hE.out _ _ E1.out z1; have Z := Lib.hid z2; clear z1 z2)
                | (go_at_call 17; refine (hVl.out _ M2.out).mono ?_; rintro e w3 ⟨rfl, rfl⟩)
                | (go_at_call 111; refine hI2.out.mono ?_; rintro e w2 ⟨rfl, z1⟩; have M2 := Lib.hid z1; obtain ⟨d0, d1, d2, d3⟩ := z1.2.1.c; clear z1))
              go_ret
              exact Z.out
          · have hlt : A2 < k.length := by rw [hkl.out]; omega
            have hne : k.drop A2 ≠ [] := fun e => by
              have := congrArg List.length e
              rw [List.length_drop] at this
              simp at this
              omega
            rw [if_neg hne, List.drop_eq_getElem_cons hlt] at e1 e2
            obtain ⟨t2, a2, q1, q2, q3, q4, q5⟩ := kid_findE hks hOk hKs (k[A2])
            rw [q4] at e1
            rw [q5] at e2
            rw [decide_eq_false hend] at hEn
            have hD : Hid (∀ w' L', Mid S w0 wN Q ka kn kc k w.heap.size (some ⟨p.n, 0, none⟩) A2 (st + 1) L' w' → Calls Try.prog 113 #[.pointer (some ⟨w.heap.size, 0, none⟩)] w' fun e w'' => e = .returned (.tuple #[]) ∧ Mid S w0 wN Q ka kn kc k w.heap.size a2 (A2 + 1) (st + 1) L' w'') := fun w' L' hw' => mid_down hw' HS.out hi (by rw [hkl.out] at hlt; exact hlt) (by omega) (by rw [getD_of_lt hlt]; exact q1)
            have HT2 := Lib.hid (And.intro q2 q3)
            have hM2 : Hid (st + 1 + tstep t2 (k.drop (A2 + 1)) = M) := by show _ = _; omega
            have hm2 : A2 < kn := by rw [hkl.out] at hlt; exact hlt
            cases hs with
            | true =>
              simp only [if_true] at e1 hVl
              have E1 : Hid ((L ++ [(A2, val)]) ++ tbeg t2 (A2 + 1) (k.drop (A2 + 1)) = L0) := by show _ = _; rw [List.append_assoc]; exact e1
              clear e1 e2 hpre hlen hend hne hlt hA2 hv hval hhas hbs hleaf hks hKs hL0 hM q1 q2 q3 q4 q5
              go_wp2_with (first
                | (go_at_call 113; refine (hD.out _ _ M5.out).mono ?_; rintro e w6 ⟨rfl, z1⟩; have M6 := Lib.hid z1; clear z1)
                | (go_at_call 112; refine (hEn.out _ _ M4.out).mono ?_; rintro e w5 ⟨rfl, z1⟩; have M5 := Lib.hid z1; clear z1)
                | (go_at_call 107; refine (hCl.out _ M2.out).mono ?_; rintro e w4 ⟨rfl, z1⟩; have M4 := Lib.hid z1; clear z1)
                | (go_at_call 17; refine (hVl.out _ M2.out).mono ?_; rintro e w3 ⟨rfl, rfl⟩; obtain ⟨d0, d1, d2, d3⟩ := M2.out.2.1.c)
                | (go_at_call 111; refine hI2.out.mono ?_; rintro e w2 ⟨rfl, z1⟩; have M2 := Lib.hid z1; obtain ⟨d0, d1, d2, d3⟩ := z1.2.1.c; clear z1))
              go_roundg (kn - A2)
              case measure => omega
              case rel => exact ⟨t2, a2, A2 + 1, st + 1, _, by omega, by omega, by (try simp only [List.length_append, List.length_singleton]); omega, by omega, M6, HT2, E1, hM2⟩
            | false =>
              simp only [Bool.false_eq_true, if_false, List.nil_append] at e1 hVl
              have E1 : Hid (L ++ tbeg t2 (A2 + 1) (k.drop (A2 + 1)) = L0) := e1
              clear e1 e2 hpre hlen hend hne hlt hA2 hv hval hhas hbs hleaf hks hKs hL0 hM q1 q2 q3 q4 q5
              go_wp2_with (first
                | (go_at_call 113; refine (hD.out _ _ M5.out).mono ?_; rintro e w6 ⟨rfl, z1⟩; have M6 := Lib.hid z1; clear z1)
                | (go_at_call 112; refine (hEn.out _ _ M2.out).mono ?_; rintro e w5 ⟨rfl, z1⟩; have M5 := Lib.hid z1; clear z1)
                | (go_at_call 17; refine (hVl.out _ M2.out).mono ?_; rintro e w3 ⟨rfl, rfl⟩)
                | (go_at_call 111; refine hI2.out.mono ?_; rintro e w2 ⟨rfl, z1⟩; have M2 := Lib.hid z1; obtain ⟨d0, d1, d2, d3⟩ := z1.2.1.c; clear z1))
              go_roundg (kn - A2)
              case measure => omega
              case rel => exact ⟨t2, a2, A2 + 1, st + 1, _, by omega, by omega, by (try simp only [List.length_append, List.length_singleton]); omega, by omega, M6, HT2, E1, hM2⟩
        · rw [if_neg hpre] at e1 e2
          simp only [List.append_nil] at e1
          have hI2 := mid_into HA.out HS.out hi hatk (by omega) (by omega) false (decide_eq_false hpre).symm
          simp only [Bool.false_eq_true, if_false] at hI2
          replace hI2 := Lib.hid hI2
          have hE : Hid (∀ w', Mid S w0 wN Q ka kn kc k w.heap.size (some ⟨p.n, 0, none⟩) at_ (st + 1) L w' → w'.cell? ⟨w.heap.size, 3, none⟩ = some (.int .i64 (M : Nat)) ∧ eachPost S wN L0 M w (.returned (.int .i64 (M : Nat))) w') := fun w' ⟨h1, h2, F, h3, h4⟩ => by
            have em : st + 1 = M := by omega
            rw [← em, ← e1]
            exact ⟨h2.c.2.2.2, rfl, h1.since, F, h3⟩
          clear e1 e2 hpre hv hval hhas hbs hleaf hks hKs hL0 hM
          go_wp2_with (go_at_call 111; refine hI2.out.mono ?_; rintro e w2 ⟨rfl, z1⟩; obtain ⟨d3, z2⟩ := hE.out _ z1; have Z := Lib.hid z2; clear z1 z2)
          go_ret
          exact Z.out
end Go.Proofs.Ytkonbldjmcccmaa
/- find's callbacks; Steps. -/
namespace Go.Proofs.Ytkonbldjmcccmaa
open Go.RowKit
/-- nothing is held -/
def SNo (F : Nat → Prop) (L : List (Nat × Int)) (w : World) : Prop := F = NoB
theorem sno_cb (lo : Nat) : CbS SNo lo := ⟨fun F L w w' h _ => h, fun F L w h j hj => by rw [h] at hj; exact hj.elim, fun F L w h j hj => by rw [h] at hj; exact hj.elim⟩
theorem steps_cb (wN : World) (kn : Nat) : CbDoes SNo wN kn 107 fun x y => #[x, y] := fun F L w x y h hx hy hy2 hb hL => by
  go_enter Try.func107, Try.ntmps107
  go_wp2_with fail
  go_end0
  exact ⟨rfl, F, h, Mod.refl _ _, fun j hj => Or.inl hj⟩
theorem find_steps {w0 w : World} {Q : List NP} {ka : Option Addr} {kn kc : Nat} {k : List Nat} {t : Tr} {v : Option Addr} (hQ : StoreP NoB w0 w Q) (hK : Sl w ka kn kc k) (hT : TreeV Q t (.pointer v)) (hO : TOk t) (hkn : kn ≤ 1000) :
    Calls Try.prog 39 #[.pointer v, .slice ka kn kc] w (belowPost (.int .i64 (tstep t k : Nat)) w) := by
  have hE := Lib.hid (each_st (b1 := 0) (F0 := NoB) (sno_cb w.heap.size) (steps_cb w kn) hQ hK hT hO hkn (Below.refl _ w) rfl)
  generalize tstep t k = M at *
  clear hQ hK hT hO
  go_enter Try.func39, Try.ntmps39
  go_wp2_with (go_at_call 106; refine hE.out.mono ?_; rintro e w2 ⟨rfl, z1, z2⟩; have B2 := Lib.hid z1; clear z1 z2)
  go_ret
  exact ⟨rfl, B2.out⟩
/-- a clone, with where it lies -/
theorem clone_new {w : World} {a : Option Addr} {n c : Nat} {bs : List Nat} (h : Sl w a n c bs) (hn : n ≤ 140737488355328) : Calls Try.prog 95 #[.slice a n c] w fun e w' => ∃ a' c', e = .returned (.slice a' n c') ∧ Sl w' a' n c' bs ∧ Below w.heap.size w w' ∧ ∀ p : Addr, a' = some p → w.heap.size ≤ p.block ∧ p.block < w'.heap.size :=
  (cloneB_any w a n c bs h.len h.at_ hn (fun e => (h.nil e).1)).mono fun e w' q => by
    obtain ⟨v, bo, rfl, h1, h2, h3⟩ := q
    have hl := h.len
    rcases h1 with ⟨rfl, e, rfl⟩ | ⟨g, cap, cur, rfl, rfl, h4, h5, h6, h7, h8⟩
    · have : bs = [] := by simpa [bV] using e
      subst this
      obtain rfl : n = 0 := hl.symm
      exact ⟨none, 0, rfl, sl_nil _, h2, fun p e => by cases e⟩
    · have hbl : (bV bs).length = n := by simp [bV, hl]
      rw [hbl] at h5 h8
      refine ⟨some ⟨g, 0, none⟩, cap, by rw [hbl], ⟨hl, ⟨h.at_.1, fun i hi => ⟨_, rfl, ?_, ?_⟩⟩, h5, h6, fun e => by cases e⟩, h2, fun p e => ?_⟩
      · rw [add0]; exact (Array.getElem?_eq_some_iff.1 h4).1
      · rw [add0, cell_of_blk (c := cur.toList) (t := 5) (by simpa using h4)]
        have e := take_get (j := i) h8 (by omega)
        rw [e]
        simp [bV, List.getD, hi]
      · cases e
        rcases h3 with e | ⟨g', e, h3⟩
        · cases e
        · cases e; exact ⟨h3, (Array.getElem?_eq_some_iff.1 h4).1⟩
end Go.Proofs.Ytkonbldjmcccmaa
/- find.Longest. -/
namespace Go.Proofs.Ytkonbldjmcccmaa
open Go.RowKit
def lastP (ka : Option Addr) (kc : Nat) (L : List (Nat × Int)) : (Option Addr × Nat × Nat) × Int × Bool := match L.getLast? with
  | none => ((none, 0, 0), 0, false)
  | some (x, y) => ((ka, x, kc), y, true)
theorem lastP_snoc (ka : Option Addr) (kc : Nat) (L : List (Nat × Int)) (x : Nat) (y : Int) : lastP ka kc (L ++ [(x, y)]) = ((ka, x, kc), y, true) := by
  simp [lastP]
/-- what Longest's callback holds -/
def SLo (ka : Option Addr) (kc bp bi : Nat) (F : Nat → Prop) (L : List (Nat × Int)) (w : World) : Prop :=
  F = (fun j => j = bp ∨ j = bi) ∧
  w.heap[bp]? = some (.cells [.slice (lastP ka kc L).1.1 (lastP ka kc L).1.2.1 (lastP ka kc L).1.2.2, .int .u64 (lastP ka kc L).2.1].toArray apT (0, 0)) ∧
  w.heap[bi]? = some (.cells [.bool (lastP ka kc L).2.2].toArray 4 (0, 0))
theorem slo_cb (ka : Option Addr) (kc bp bi lo : Nat) (h2 : lo ≤ bp) (h3 : lo ≤ bi) : CbS (SLo ka kc bp bi) lo := by
  refine ⟨fun F L w w' ⟨e, q2, q3⟩ hk => ?_, fun F L w ⟨e, _⟩ j hj => ?_, fun F L w ⟨e, q2, q3⟩ j hj => ?_⟩
  · subst e
    exact ⟨rfl, (hk bp (Or.inl rfl)).trans q2, (hk bi (Or.inr rfl)).trans q3⟩
  · subst e; rcases hj with rfl | rfl <;> assumption
  · subst e
    rcases hj with rfl | rfl
    · exact (Array.getElem?_eq_some_iff.1 q2).1
    · exact (Array.getElem?_eq_some_iff.1 q3).1
set_option maxHeartbeats 1000000 in
theorem longest_cb (wN : World) (ka : Option Addr) (kn kc bk bp bi : Nat) (hkc : kn ≤ kc) (hbk : wN.heap[bk]? = some (.cells [.slice ka kn kc].toArray 27 (0, 0))) (n3 : bp ≠ bi) : CbDoes (SLo ka kc bp bi) wN kn 165 fun x y => #[x, y, .pointer (some ⟨bk, 0, none⟩), .pointer (some ⟨bp, 0, none⟩), .pointer (some ⟨bi, 0, none⟩)] := fun F L w x y ⟨eF, q2, q3⟩ hx hy hy2 hb hL => by
  have q1 := (hb.block bk (Array.getElem?_eq_some_iff.1 hbk).1).trans hbk
  have c0 : w.cell? ⟨bk, 0, none⟩ = some (.slice ka kn kc) := by rw [cell_of_blk q1]; rfl
  have c1 : w.cell? ⟨bp, 0, none⟩ = some (.slice (lastP ka kc L).1.1 (lastP ka kc L).1.2.1 (lastP ka kc L).1.2.2) := by rw [cell_of_blk q2]; rfl
  have c2 : w.cell? ⟨bp, 1, none⟩ = some (.int .u64 (lastP ka kc L).2.1) := by rw [cell_of_blk q2]; rfl
  have c3 : w.cell? ⟨bi, 0, none⟩ = some (.bool (lastP ka kc L).2.2) := by rw [cell_of_blk q3]; rfl
  have f1 := frozen_of_blk q2 0
  have f2 := frozen_of_blk q2 1
  have f3 := frozen_of_blk q3 0
  have hcut : ∀ w, (Instr.slice 27 (.slice ka kn kc) none (some (.int .i64 (x : Nat))) none).run Try.prog w = .ok (.slice ka x kc) w := fun w => by rw [run_to8 w ka kn kc x (by omega), cutA_zero]
  have hx0 : (0 : Int) ≤ (x : Int) := by omega
  have hx1 : (x : Int) ≤ (kc : Int) := by omega
  have hfin : Hid (∃ F', SLo ka kc bp bi F' (L ++ [(x, y)]) (((w.setCell ⟨bp, 0, none⟩ (.slice ka x kc)).setCell ⟨bp, 1, none⟩ (.int .u64 y)).setCell ⟨bi, 0, none⟩ (.bool true)) ∧ Mod F w (((w.setCell ⟨bp, 0, none⟩ (.slice ka x kc)).setCell ⟨bp, 1, none⟩ (.int .u64 y)).setCell ⟨bi, 0, none⟩ (.bool true)) ∧ ∀ j, F' j → F j ∨ w.heap.size ≤ j) := by
    refine ⟨F, ⟨eF, ?_, ?_⟩, ?_, fun j hj => Or.inl hj⟩
    · rw [Below.heap_setCell _ _ _ _ (by exact n3), lastP_snoc]
      have e1 : (w.setCell ⟨bp, 0, none⟩ (.slice ka x kc)).heap[bp]? = some (.cells [.slice ka x kc, .int .u64 (lastP ka kc L).2.1].toArray apT (0, 0)) := by
        rw [setCell_list _ _ _ _ _ _ q2, setRow_heap _ _ _ _ _ _ q2]; rfl
      rw [setCell_list _ _ _ _ _ _ e1, setRow_heap _ _ _ _ _ _ e1]; rfl
    · have e1 : ((w.setCell ⟨bp, 0, none⟩ (.slice ka x kc)).setCell ⟨bp, 1, none⟩ (.int .u64 y)).heap[bi]? = some (.cells [.bool (lastP ka kc L).2.2].toArray 4 (0, 0)) := by
        rw [Below.heap_setCell _ _ _ _ (by exact n3.symm), Below.heap_setCell _ _ _ _ (by exact n3.symm)]; exact q3
      rw [setCell_list _ _ _ _ _ _ e1, setRow_heap _ _ _ _ _ _ e1, lastP_snoc]; rfl
    · rw [eF]
      exact (((Mod.refl _ w).setCell ⟨bp, 0, none⟩ _ (fun _ => Or.inl rfl)).setCell ⟨bp, 1, none⟩ _ (fun _ => Or.inl rfl)).setCell ⟨bi, 0, none⟩ _ (fun _ => Or.inr rfl)
  generalize lastP ka kc L = V at *
  clear q1 q2 q3 hb
  go_enter Try.func165, Try.ntmps165
  go_wp2_with fail
  go_end0
  exact ⟨rfl, hfin.out⟩
/-- a pair that is told, and whether -/
def pairPost (key : List Nat) (val : Int) (is : Bool) (w : World) (e : Ending) (w' : World) : Prop :=
  ∃ a n c, e = .returned (.tuple #[.agg #[.slice a n c, .int .u64 val], .bool is]) ∧ Sl w' a n c key ∧ Below w.heap.size w w'
def lastK (k : List Nat) (L : List (Nat × Int)) : List Nat × Int × Bool := match L.getLast? with
  | none => ([], 0, false)
  | some (x, y) => (k.take x, y, true)
/-- how long beginnings are -/
theorem tbeg_le : ∀ (t : Tr) (m : Nat) (k : List Nat), ∀ p ∈ tbeg t m k, p.1 ≤ m + k.length
  | .nil, _, _, p, h => by simp [tbeg] at h
  | .kid b t r, m, [], p, h => by simp [tbeg] at h
  | .kid b t r, m, c :: k, p, h => by
    by_cases e : b = c
    · have h : p ∈ tbeg t (m + 1) k := by simpa [tbeg, e] using h
      have := tbeg_le t (m + 1) k p h
      simp; omega
    · have h : p ∈ tbeg r m (c :: k) := by simpa [tbeg, e] using h
      exact tbeg_le r m (c :: k) p h
  | .node bs v hs leaf ks, m, k, p, h => by
    unfold tbeg at h
    split at h
    · rename_i hp
      have hle := hp.length_le
      rcases List.mem_append.1 h with h | h
      · cases hs
        · simp at h
        · simp at h; subst h; simp; omega
      · split at h
        · simp at h
        · have := tbeg_le ks (m + bs.length) (k.drop bs.length) p h
          rw [List.length_drop] at this
          omega
    · simp at h
set_option maxHeartbeats 2000000 in
set_option maxRecDepth 100000 in
theorem find_longest {w0 w : World} {Q : List NP} {ka : Option Addr} {kn kc : Nat} {k : List Nat} {t : Tr} {v : Option Addr} (hQ : StoreP NoB w0 w Q) (hK : Sl w ka kn kc k) (hT : TreeV Q t (.pointer v)) (hO : TOk t) (hkn : kn ≤ 1000) :
    Calls Try.prog 102 #[.pointer v, .slice ka kn kc] w (pairPost (lastK k (tbeg t 0 k)).1 (lastK k (tbeg t 0 k)).2.1 (lastK k (tbeg t 0 k)).2.2 w) := by
  obtain ⟨bk, hbk⟩ : ∃ bk, bk = w.heap.size := ⟨_, rfl⟩
  obtain ⟨wN, hwN⟩ : ∃ wN, wN = (w.alloc (.cells #[.slice ka kn kc] 27)).alloc (.cells #[.slice none 0 0, .int .u64 0] apT) := ⟨_, rfl⟩
  obtain ⟨w4, hw4⟩ : ∃ w4, w4 = (wN.alloc (.cells #[.slice none 0 0, .int .u64 0] apT)).alloc (.cells #[.bool false] 4) := ⟨_, rfl⟩
  have hbN : Below w.heap.size w wN := by rw [hwN]; exact ((Below.refl _ w).alloc (Nat.le_refl _) _).alloc (by simp) _
  have hsN : wN.heap.size = w.heap.size + 2 := by rw [hwN]; simp
  have hb4 : Below wN.heap.size wN w4 := by rw [hw4]; exact ((Below.refl _ wN).alloc (Nat.le_refl _) _).alloc (by simp) _
  have hkN : wN.heap[w.heap.size]? = some (.cells [.slice ka kn kc].toArray 27 (0, 0)) := by
    rw [hwN, Below.heap_alloc _ _ _ (by simp)]; exact heap_alloc_new w _
  have hrN : wN.heap[w.heap.size + 1]? = some (.cells [.slice none 0 0, .int .u64 0].toArray apT (0, 0)) := by
    have := heap_alloc_new (w.alloc (.cells #[.slice ka kn kc] 27)) (.cells #[.slice none 0 0, .int .u64 0] apT)
    rw [World.size_alloc] at this
    rw [hwN]; exact this
  have hS0 : SLo ka kc (w.heap.size + 1 + 1) (w.heap.size + 1 + 1 + 1) (fun j => j = w.heap.size + 1 + 1 ∨ j = w.heap.size + 1 + 1 + 1) [] w4 := by
    refine ⟨rfl, ?_, ?_⟩
    · have := heap_alloc_new wN (.cells #[.slice none 0 0, .int .u64 0] apT)
      rw [hsN] at this
      rw [hw4, Below.heap_alloc _ _ _ (by simp [hsN])]; exact this
    · have := heap_alloc_new (wN.alloc (.cells #[.slice none 0 0, .int .u64 0] apT)) (.cells #[.bool false] 4)
      rw [World.size_alloc, hsN] at this
      rw [hw4]; exact this
  have hEa := Lib.hid (each_lo w.heap.size (w.heap.size + 1 + 1) (w.heap.size + 1 + 1 + 1) (slo_cb ka kc _ _ wN.heap.size (by omega) (by omega)) (longest_cb wN ka kn kc w.heap.size (w.heap.size + 1 + 1) (w.heap.size + 1 + 1 + 1) hK.cap hkN (by omega)) (hQ.below hbN) (hK.below hbN) hT hO hkn hb4 hS0)
  have hle := tbeg_le t 0 k
  generalize tstep t k = M at *
  obtain ⟨L0, hL0⟩ : ∃ L0, L0 = tbeg t 0 k := ⟨_, rfl⟩
  rw [← hL0] at hEa hle ⊢
  have hkl := hK.len
  have hle := Lib.hid hle
  have HbN := Lib.hid hbN
  -- what was found last
  have hlast : Hid (∀ w', Below w.heap.size w w' → Sl w' (lastP ka kc L0).1.1 (lastP ka kc L0).1.2.1 (lastP ka kc L0).1.2.2 (lastK k L0).1 ∧ (lastK k L0).2.1 = (lastP ka kc L0).2.1 ∧ (lastK k L0).2.2 = (lastP ka kc L0).2.2 ∧ (lastP ka kc L0).1.2.1 ≤ 1000) := fun w' hb => by
    cases e : L0.getLast? with
    | none =>
      have e1 : lastP ka kc L0 = ((none, 0, 0), 0, false) := by unfold lastP; rw [e]
      have e2 : lastK k L0 = ([], 0, false) := by unfold lastK; rw [e]
      rw [e1, e2]
      exact ⟨sl_nil _, rfl, rfl, by simp⟩
    | some x =>
      have e1 : lastP ka kc L0 = ((ka, x.1, kc), x.2, true) := by unfold lastP; rw [e]
      have e2 : lastK k L0 = (k.take x.1, x.2, true) := by unfold lastK; rw [e]
      have h1 := hle.out x (List.mem_of_getLast? e)
      have h2 := (hK.to_ (hi := x.1) (by omega)).below hb
      rw [cutA_zero] at h2
      rw [e1, e2]
      exact ⟨h2, rfl, rfl, by show x.1 ≤ 1000; omega⟩
  obtain ⟨V, hV⟩ : ∃ V, V = lastP ka kc L0 := ⟨_, rfl⟩
  obtain ⟨U, hU⟩ : ∃ U, U = lastK k L0 := ⟨_, rfl⟩
  have hSlo : Hid (∀ F w', SLo ka kc (w.heap.size + 1 + 1) (w.heap.size + 1 + 1 + 1) F L0 w' → w'.heap[w.heap.size + 1 + 1]? = some (.cells [.slice V.1.1 V.1.2.1 V.1.2.2, .int .u64 V.2.1].toArray apT (0, 0)) ∧ w'.heap[w.heap.size + 1 + 1 + 1]? = some (.cells [.bool V.2.2].toArray 4 (0, 0))) := fun F w' q => by rw [hV]; exact q.2
  rw [← hV, ← hU] at hlast
  rw [← hU]
  obtain ⟨⟨va, vn, vc⟩, vy, vb⟩ := V
  obtain ⟨uk, uy, ub⟩ := U
  simp only at hlast hSlo ⊢
  have hl0 := hlast.out w (Below.refl _ _)
  obtain ⟨_, rfl, rfl, hvn⟩ := hl0
  have hrN := Lib.hid hrN
  have hkN := Lib.hid hkN
  have hsN := Lib.hid hsN
  clear hV hU hQ hK hT hO hL0 hkl hb4 hS0 hbN hbk
  go_enter Try.func102, Try.ntmps102
  go_wp2_with fail
  rw [show ((((w.alloc (.cells #[.slice ka kn kc] 27)).alloc (.cells #[.slice none 0 0, .int .u64 0] apT)).alloc (.cells #[.slice none 0 0, .int .u64 0] apT)).alloc (.cells #[.bool false] 4)) = w4 by rw [hw4, hwN]]
  clear hw4 hwN
  have hfacts : Hid (∀ w5, Below wN.heap.size wN w5 → w5.heap[w.heap.size + 1 + 1]? = some (.cells [.slice va vn vc, .int .u64 uy].toArray apT (0, 0)) → w5.heap[w.heap.size + 1 + 1 + 1]? = some (.cells [.bool ub].toArray 4 (0, 0)) →
      Calls Try.prog 95 #[.slice va vn vc] w5 fun e w6 => ∃ a6 c6 w7, e = .returned (.slice a6 vn c6) ∧ w7 = w6.setCell ⟨w.heap.size + 1 + 1, 0, none⟩ (.slice a6 vn c6) ∧ w6.cell? ⟨w.heap.size + 1 + 1, 0, none⟩ = some (.slice va vn vc) ∧ w6.frozen? ⟨w.heap.size + 1 + 1, 0, none⟩ = false ∧
        Hid (w7.cell? ⟨w.heap.size + 1 + 1, 0, none⟩ = some (.slice a6 vn c6) ∧ w7.cell? ⟨w.heap.size + 1 + 1, 1, none⟩ = some (.int .u64 uy) ∧ w7.cell? ⟨w.heap.size + 1 + 1 + 1, 0, none⟩ = some (.bool ub) ∧ w7.heap[w.heap.size + 1]? = some (.cells [.slice none 0 0, .int .u64 0].toArray apT (0, 0)) ∧ Sl w7 a6 vn c6 uk ∧ Below w.heap.size w w7 ∧ ∀ p : Addr, a6 = some p → w.heap.size + 1 + 1 + 1 < p.block)) := fun w5 hb y1 y2 => by
    have hw5 : Below w.heap.size w w5 := HbN.out.trans (hb.mono (by have := hsN.out; omega))
    refine (clone_new (hlast.out w5 hw5).1 (by omega)).mono ?_
    rintro e w6 ⟨a6, c6, rfl, s6, b6, n6⟩
    have l1 := (Array.getElem?_eq_some_iff.1 y1).1
    have l2 := (Array.getElem?_eq_some_iff.1 y2).1
    have z1 := (b6.block _ l1).trans y1
    have z2 := (b6.block _ l2).trans y2
    have z3 := (b6.block (w.heap.size + 1) (by omega)).trans ((hb.block _ (by have := hsN.out; omega)).trans hrN.out)
    have z4 : (w6.setCell ⟨w.heap.size + 1 + 1, 0, none⟩ (.slice a6 vn c6)).heap[w.heap.size + 1 + 1]? = some (.cells [.slice a6 vn c6, .int .u64 uy].toArray apT (0, 0)) := by
      rw [setCell_list _ _ _ _ _ _ z1, setRow_heap _ _ _ _ _ _ z1]; rfl
    have hsz5 := hw5.size
    refine ⟨a6, c6, _, rfl, rfl, by rw [cell_of_blk z1]; rfl, frozen_of_blk z1 0, by rw [cell_of_blk z4]; rfl, by rw [cell_of_blk z4]; rfl, ?_, ?_, ?_, ?_, fun p e => by have := (n6 p e).1; omega⟩
    · rw [cell_of_blk (b := w.heap.size + 1 + 1 + 1) (c := [.bool ub]) (t := 4) (by rw [Below.heap_setCell _ _ _ _ (by simp)]; exact z2)]; rfl
    · rw [Below.heap_setCell _ _ _ _ (by simp)]; exact z3
    · refine ⟨s6.len, bytes_keep s6.at_ (T := fun j => j = w.heap.size + 1 + 1) ((Mod.refl _ w6).setCell ⟨w.heap.size + 1 + 1, 0, none⟩ _ (fun _ => rfl)) (fun p e => ?_), s6.cap, s6.capm, s6.nil⟩
      have := (n6 p e).1
      omega
    · exact (hw5.trans (b6.mono hw5.size)).setCell (p := ⟨w.heap.size + 1 + 1, 0, none⟩) (by simp; omega) _
  go_wp2_with (first
    | (go_at_call 106; refine hEa.out.mono ?_; rintro e w5 ⟨rfl, z1, F5, z2⟩; obtain ⟨y1, y2⟩ := hSlo.out F5 w5 z2; have hcl := Lib.hid (hfacts.out w5 z1 y1 y2); have d1 : w5.cell? ⟨w.heap.size + 1 + 1, 0, none⟩ = some (.slice va vn vc) := by rw [cell_of_blk y1]; rfl
       clear z1 z2 y1 y2)
    | (go_at_call 95; refine hcl.out.mono ?_; rintro e w6 ⟨a6, c6, w7, rfl, e7, d2, d3, z⟩))
  rw [← e7]
  obtain ⟨x0, x1, x2, x3, x4, x5, xb⟩ := z.out
  have x6 : w7.cell? ⟨w.heap.size + 1, 0, none⟩ = some (.slice none 0 0) := by rw [cell_of_blk x3]; rfl
  have x7 : w7.cell? ⟨w.heap.size + 1, 1, none⟩ = some (.int .u64 0) := by rw [cell_of_blk x3]; rfl
  have x8 := frozen_of_blk x3 0
  have x9 := frozen_of_blk x3 1
  have X4 := Lib.hid x4
  have X5 := Lib.hid x5
  have hend : Hid (∀ w8, w8 = ((w7.setCell ⟨w.heap.size + 1, 0, none⟩ (.slice a6 vn c6)).setCell ⟨w.heap.size + 1, 1, none⟩ (.int .u64 uy)).drew → w8.cell? ⟨w.heap.size + 1, 0, none⟩ = some (.slice a6 vn c6) ∧ w8.cell? ⟨w.heap.size + 1, 1, none⟩ = some (.int .u64 uy) ∧ pairPost uk uy ub w (.returned (.tuple #[.agg #[.slice a6 vn c6, .int .u64 uy], .bool ub])) w8) := fun w8 e8 => by
    have z1 : (w7.setCell ⟨w.heap.size + 1, 0, none⟩ (.slice a6 vn c6)).heap[w.heap.size + 1]? = some (.cells [.slice a6 vn c6, .int .u64 0].toArray apT (0, 0)) := by
      rw [setCell_list _ _ _ _ _ _ x3, setRow_heap _ _ _ _ _ _ x3]; rfl
    have z2 : w8.heap[w.heap.size + 1]? = some (.cells [.slice a6 vn c6, .int .u64 uy].toArray apT (0, 0)) := by
      rw [e8]
      show (((w7.setCell ⟨w.heap.size + 1, 0, none⟩ (.slice a6 vn c6)).setCell ⟨w.heap.size + 1, 1, none⟩ (.int .u64 uy)).heap[w.heap.size + 1]?) = _
      rw [setCell_list _ _ _ _ _ _ z1, setRow_heap _ _ _ _ _ _ z1]; rfl
    refine ⟨by rw [cell_of_blk z2]; rfl, by rw [cell_of_blk z2]; rfl, a6, vn, c6, rfl, ?_, ?_⟩
    · rw [e8]
      have hm : Mod (fun j => j = w.heap.size + 1) w7 ((w7.setCell ⟨w.heap.size + 1, 0, none⟩ (.slice a6 vn c6)).setCell ⟨w.heap.size + 1, 1, none⟩ (.int .u64 uy)) := ((Mod.refl (fun j => j = w.heap.size + 1) w7).setCell ⟨w.heap.size + 1, 0, none⟩ _ (fun _ => rfl)).setCell ⟨w.heap.size + 1, 1, none⟩ _ (fun _ => rfl)
      have hx : Sl ((w7.setCell ⟨w.heap.size + 1, 0, none⟩ (.slice a6 vn c6)).setCell ⟨w.heap.size + 1, 1, none⟩ (.int .u64 uy)) a6 vn c6 uk := ⟨x4.len, bytes_keep x4.at_ hm (fun p e => by have := xb p e; omega), x4.cap, x4.capm, x4.nil⟩
      exact hx.below (Below.refl _ _).drew
    · rw [e8]
      exact ((x5.setCell (p := ⟨w.heap.size + 1, 0, none⟩) (by simp) _).setCell (p := ⟨w.heap.size + 1, 1, none⟩) (by simp) _).drew
  clear e7 d1 d2 d3 x3 x4 x5 xb z
  go_region
  all_goals
    obtain ⟨t0, t1, t2⟩ := hend.out _ rfl
    generalize ((w7.setCell ⟨w.heap.size + 1, 0, none⟩ (.slice a6 vn c6)).setCell ⟨w.heap.size + 1, 1, none⟩ (.int .u64 uy)).drew = w8 at *
    (try simp only [Exit.then, Exit.inBlock])
    go_wp2_with fail
    exact bodyPost_ret (v := .tuple #[.agg #[.slice a6 vn c6, .int .u64 uy], .bool ub]) (by simp [results, Try.results102, go_sem, t0, t1]) rfl t2
end Go.Proofs.Ytkonbldjmcccmaa
/- find.Beginnings. -/
namespace Go.Proofs.Ytkonbldjmcccmaa
open Go.RowKit
def begL (k : List Nat) (L : List (Nat × Int)) : PL := L.map fun x => (k.take x.1, x.2)
/-- what Beginnings' callback holds -/
structure SBe (k : List Nat) (lo bl : Nat) (F : Nat → Prop) (L : List (Nat × Int)) (w : World) (v : Value) (es : EL) (bo : Option Nat) : Prop where
  var : w.heap[bl]? = some (.cells [v].toArray 68 (0, 0))
  own : OwnS 2 apT w v L.length (flat es) bo
  ents : Ents w es (begL k L)
  fl : F bl
  fo : ∀ g, bo = some g → F g ∧ g ≠ bl
  fe : ∀ i (h : i < es.length) (p : Addr) n c, (es[i]).1 = .slice (some p) n c → F p.block ∧ p.block ≠ bl ∧ bo ≠ some p.block
  low : ∀ j, F j → lo ≤ j
  high : ∀ j, F j → j < w.heap.size
def SBeg (k : List Nat) (lo bl : Nat) (F : Nat → Prop) (L : List (Nat × Int)) (w : World) : Prop := ∃ v es bo, SBe k lo bl F L w v es bo
theorem ents_keep {w w' : World} {es : EL} {l : PL} (h : Ents w es l) {T : Nat → Prop} (hm : Mod T w w') (hT : ∀ i (h : i < es.length) (p : Addr) n c, (es[i]).1 = .slice (some p) n c → ¬ T p.block) : Ents w' es l := ⟨h.1, fun i h1 h2 => by
  obtain ⟨⟨a, n, c, e, q⟩, r⟩ := h.2 i h1 h2
  refine ⟨⟨a, n, c, e, q.len, bytes_keep q.at_ hm (fun p ep => hT i h1 p n c (by rw [e, ep])), q.cap, q.capm, q.nil⟩, r⟩⟩
theorem sbe_cb (k : List Nat) (lo bl : Nat) : CbS (SBeg k lo bl) lo := by
  refine ⟨fun F L w w' ⟨v, es, bo, h⟩ hk => ?_, fun F L w ⟨v, es, bo, h⟩ j hj => h.low j hj, fun F L w ⟨v, es, bo, h⟩ j hj => h.high j hj⟩
  refine ⟨v, es, bo, (hk bl h.fl).trans h.var, h.own.keep fun g e => hk g (h.fo g e).1, ⟨h.ents.1, fun i h1 h2 => ?_⟩, h.fl, h.fo, h.fe, h.low, fun j hj => ?_⟩
  · obtain ⟨⟨a, n, c, e, q⟩, r⟩ := h.ents.2 i h1 h2
    refine ⟨⟨a, n, c, e, q.len, ⟨q.at_.1, fun j hj => ?_⟩, q.cap, q.capm, q.nil⟩, r⟩
    obtain ⟨p, ep, z1, z2⟩ := q.at_.2 j hj
    subst ep
    have hF := (h.fe i h1 p n c e).1
    have e1 := hk p.block hF
    refine ⟨p, rfl, ?_, ?_⟩
    · rw [add_block] at z1 ⊢
      have : w'.heap[p.block]? = some _ := e1.trans (Array.getElem?_eq_getElem z1)
      exact (Array.getElem?_eq_some_iff.1 this).1
    · rw [← z2]
      unfold World.cell?
      rw [add_block, e1]
  · have e1 := hk j hj
    have : w'.heap[j]? = some _ := e1.trans (Array.getElem?_eq_getElem (h.high j hj))
    exact (Array.getElem?_eq_some_iff.1 this).1
/-- one more -/
theorem SBe.step {k : List Nat} {lo bl : Nat} {F : Nat → Prop} {L : List (Nat × Int)} {w wc w1 w2 w3 : World} {v v2 : Value} {es : EL} {bo bo2 : Option Nat} (h : SBe k lo bl F L w v es bo) (hlo : lo ≤ w.heap.size) {x : Nat} {y : Int} {a6 : Option Addr} {n6 c6 : Nat}
    (hb1 : Below w.heap.size w wc) (hs : Sl wc a6 n6 c6 (k.take x)) (hn : ∀ p : Addr, a6 = some p → w.heap.size ≤ p.block ∧ p.block < wc.heap.size) (hy : 0 ≤ y ∧ y < 18446744073709551616) (hb2 : Below wc.heap.size wc w1)
    (ho : OwnS 2 apT w2 v2 (L.length + 1) (flat es ++ [.slice a6 n6 c6, .int .u64 y]) bo2) (hm : Mod (fun j => bo = some j) w1 w2) (hn2 : NewOr w1 bo bo2) (h3 : w3 = w2.setCell ⟨bl, 0, none⟩ v2) :
    ∃ F', SBeg k lo bl F' (L ++ [(x, y)]) w3 ∧ Mod F w w3 ∧ ∀ j, F' j → F j ∨ w.heap.size ≤ j := by
  have s1 := hb1.size
  have s2 := hb2.size
  have s3 := hm.size
  have hbl := h.high bl h.fl
  have hB : Below w.heap.size w w1 := hb1.trans (hb2.mono s1)
  have hv : w2.heap[bl]? = some (.cells [v].toArray 68 (0, 0)) := (hm.same bl (by omega) (fun e => (h.fo bl e).2 rfl)).trans ((hB.block bl hbl).trans h.var)
  have hM2 : Mod F w w2 := (Mod.of_below hB).trans (hm.mono fun j _ e => (h.fo j e).1)
  have hM3 : Mod F w w3 := by rw [h3]; exact hM2.setCell ⟨bl, 0, none⟩ _ (fun _ => h.fl)
  have s4 : w3.heap.size = w2.heap.size := by rw [h3]; simp [World.setCell]
  have hbo2 : ∀ g, bo2 = some g → (F g ∨ w.heap.size ≤ g) ∧ g ≠ bl ∧ g < w2.heap.size := fun g e => by
    subst e
    refine ⟨?_, ?_, ho.lt⟩
    · rcases hn2 with e | ⟨g', e, hg⟩
      · exact Or.inl (h.fo g e.symm).1
      · cases e; exact Or.inr (by omega)
    · rcases hn2 with e | ⟨g', e, hg⟩
      · exact (h.fo g e.symm).2
      · cases e; omega
  have hneq : ∀ p : Addr, a6 = some p → bo2 ≠ some p.block := fun p e e2 => by
    have h1 := hn p e
    rcases hn2 with e3 | ⟨g', e3, hg⟩
    · rw [e3] at e2
      have := h.high _ (h.fo _ e2).1
      omega
    · rw [e3] at e2
      cases e2
      omega
  have hold : ∀ i (hi : i < es.length) (p : Addr) n c, (es[i]).1 = .slice (some p) n c → bo2 ≠ some p.block := fun i hi p n c e e2 => by
    have h1 := h.fe i hi p n c e
    rcases hn2 with e3 | ⟨g', e3, hg⟩
    · exact h1.2.2 (e3 ▸ e2)
    · rw [e3] at e2
      cases e2
      have := h.high _ h1.1
      omega
  refine ⟨fun j => F j ∨ (w.heap.size ≤ j ∧ j < w3.heap.size), ⟨v2, es ++ [(.slice a6 n6 c6, y)], bo2, ?_, ?_, ?_, Or.inl h.fl, ?_, ?_, ?_, ?_⟩, hM3, fun j hj => by rcases hj with e | e; exact Or.inl e; exact Or.inr e.1⟩
  · rw [h3, setCell_list _ _ _ _ _ _ hv, setRow_heap _ _ _ _ _ _ hv]; rfl
  · rw [flat_append, List.length_append]
    rw [h3]
    refine OwnS.keep ho fun g e => Below.heap_setCell _ _ _ _ (hbo2 g e).2.1
  · have hm3 : Mod (fun j => bo = some j ∨ j = bl) w1 w3 := by rw [h3]; exact (hm.mono (fun j _ e => Or.inl e)).setCell ⟨bl, 0, none⟩ _ (fun _ => Or.inr rfl)
    have e1 : begL k (L ++ [(x, y)]) = begL k L ++ [(k.take x, y)] := by simp [begL]
    rw [e1]
    have hE : Ents w3 es (begL k L) := ents_keep (h.ents.below hB) hm3 (fun i hi p n c e t => by
      have q := h.fe i hi p n c e
      rcases t with t | t
      · exact q.2.2 t
      · exact q.2.1 t)
    have hs1 := hs.below hb2
    refine hE.snoc ⟨⟨_, _, _, rfl, hs1.len, bytes_keep hs1.at_ hm3 (fun p e t => ?_), hs1.cap, hs1.capm, hs1.nil⟩, rfl, hy⟩
    have q := hn p e
    rcases t with t | t
    · have := h.high _ (h.fo _ t).1; omega
    · omega
  · intro g e
    have q := hbo2 g e
    exact ⟨by rcases q.1 with r | r; exact Or.inl r; exact Or.inr ⟨r, by omega⟩, q.2.1⟩
  · intro i hi p n c e
    by_cases hi2 : i < es.length
    · rw [List.getElem_append_left hi2] at e
      have q := h.fe i hi2 p n c e
      exact ⟨Or.inl q.1, q.2.1, hold i hi2 p n c e⟩
    · have ei : i = es.length := by simp at hi; omega
      subst ei
      have e' : (Value.slice a6 n6 c6) = .slice (some p) n c := by simpa using e
      injection e' with e'
      have q := hn p e'
      exact ⟨Or.inr ⟨q.1, by omega⟩, by omega, hneq p e'⟩
  · intro j hj
    rcases hj with e | e
    · exact h.low j e
    · omega
  · intro j hj
    rcases hj with e | e
    · have := h.high j e; omega
    · exact e.2
set_option maxHeartbeats 4000000 in
set_option maxRecDepth 100000 in
theorem begin_cb (wN : World) (ka : Option Addr) (kn kc bk bl : Nat) (k : List Nat) (hK : Sl wN ka kn kc k) (hkn : kn ≤ 1000) (hbk : wN.heap[bk]? = some (.cells [.slice ka kn kc].toArray 27 (0, 0))) : CbDoes (SBeg k wN.heap.size bl) wN kn 166 fun x y => #[x, y, .pointer (some ⟨bl, 0, none⟩), .pointer (some ⟨bk, 0, none⟩)] := fun F L w x y ⟨v, es, bo, h⟩ hx hy hy2 hb hL => by
  have q1 := (hb.block bk (Array.getElem?_eq_some_iff.1 hbk).1).trans hbk
  have c0 : w.cell? ⟨bk, 0, none⟩ = some (.slice ka kn kc) := by rw [cell_of_blk q1]; rfl
  obtain ⟨va, vc, hv, _⟩ := h.own.len
  subst hv
  have c1 : w.cell? ⟨bl, 0, none⟩ = some (.slice va L.length vc) := by rw [cell_of_blk h.var]; rfl
  have f1 := frozen_of_blk h.var 0
  have hkc := hK.cap
  have hcut : ∀ w, (Instr.slice 27 (.slice ka kn kc) none (some (.int .i64 (x : Nat))) none).run Try.prog w = .ok (.slice ka x kc) w := fun w => by rw [run_to8 w ka kn kc x (by omega), cutA_zero]
  have hSk := (hK.to_ (hi := x) hx).below hb
  rw [cutA_zero] at hSk
  have hx0 : (0 : Int) ≤ (x : Int) := by omega
  have hx1 : (x : Int) ≤ (kc : Int) := by omega
  have hcl : Hid (Calls Try.prog 95 #[.slice ka x kc] w.drew fun e w' => ∃ a6 c6, e = .returned (.slice a6 x c6) ∧ Sl w' a6 x c6 (k.take x) ∧ Below w.heap.size w w' ∧ ∀ p : Addr, a6 = some p → w.heap.size ≤ p.block ∧ p.block < w'.heap.size) :=
    (clone_new (hSk.below (Below.refl _ _).drew) (by omega)).mono fun e w' ⟨a6, c6, e1, e2, e3, e4⟩ => ⟨a6, c6, e1, e2, (Below.refl _ w).drew.trans e3, e4⟩
  have H := Lib.hid h
  have hvar := Lib.hid h.var
  have hbl := Lib.hid (h.high bl h.fl)
  have hlo := Lib.hid hb.size
  have hb1 : Hid (L.length + 1 ≤ maxLen) := by show _ ≤ _; unfold maxLen; omega
  have hb2 : Hid ((L.length + 1) * 32 ≤ 140737488355328) := by show _ ≤ _; omega
  have hfo : Hid (∀ g, bo = some g → g ≠ bl) := fun g e => (h.fo g e).2
  clear q1 hSk hkc h hb hbk hK
  go_enter Try.func166, Try.ntmps166
  go_region_law (first
    | (refine step_append_s rfl (.tmp 6) (.tmp 13) 68 rfl apT _ 2 32 Try.underlying68 apInfo rfl (by omega) (.slice va L.length vc) rfl L.length (flat es) bo (ho1.out _) ⟨w1.heap.size, 0, none⟩ 1 1 [.slice a6 x c6, .int .u64 y] rfl rfl (hnw.out) (h1.out) hb1.out hb2.out ?_; intro v2 w2 bo2 HO HM HN; obtain ⟨a2, c2, hv2, _⟩ := HO.out.len; subst hv2; have hh := Lib.hid ((HM.out.same bl (by rw [World.size_alloc]; have := hbl.out; have := B1.out.size; omega) (fun e => hfo.out bl e rfl)).trans ((Below.heap_alloc _ _ _ (by have := hbl.out; have := B1.out.size; omega)).trans hv1.out)); have z1 : w2.cell? ⟨bl, 0, none⟩ = some (.slice va L.length vc) := by rw [cell_of_blk hh.out]; rfl
       have z2 := frozen_of_blk hh.out 0)
    | (go_simp; go_at_call 95; refine hcl.out.mono ?_; rintro e w1 ⟨a6, c6, rfl, s6, b6, n6⟩; have S6 := Lib.hid s6; have B1 := Lib.hid b6; have N6 := Lib.hid n6; have hv1 := Lib.hid ((b6.block bl hbl.out).trans hvar.out); have d1 : w1.cell? ⟨bl, 0, none⟩ = some (.slice va L.length vc) := by rw [cell_of_blk hv1.out]; rfl
       have ho1 : Hid (∀ o, OwnS 2 apT (w1.alloc o) (.slice va L.length vc) L.length (flat es) bo) := fun o => (H.out.own.below b6).below ((Below.refl _ w1).alloc (Nat.le_refl _) o)
       have d2 : ∀ o, (w1.alloc o).cell? ⟨bl, 0, none⟩ = some (.slice va L.length vc) := fun o => (((Below.refl _ w1).alloc (Nat.le_refl _) o).cell (p := ⟨bl, 0, none⟩) (cell_lt d1)).trans d1
       have hnw := Lib.hid (pair_news w1 (.slice a6 x c6) y apT)
       have h1 := Lib.hid (oneP (a := a6) (n := x) (c := c6) (y := y))
       clear s6 b6 n6))
  all_goals
    have hst := Lib.hid (H.out.step hlo.out B1.out S6.out N6.out ⟨hy, hy2⟩ ((Below.refl _ w1).alloc (Nat.le_refl _) _) HO.out HM.out HN.out rfl)
    (try simp only [Exit.then, Exit.inBlock])
    go_end0
    exact ⟨rfl, hst.out⟩
end Go.Proofs.Ytkonbldjmcccmaa
/- find.Beginnings; what find tells is what the pairs have. -/
namespace Go.Proofs.Ytkonbldjmcccmaa
open Go.RowKit
def prsPost (l : PL) (w : World) (e : Ending) (w' : World) : Prop := ∃ a c, e = .returned (.slice a l.length c) ∧ Prs w' a l.length c l ∧ Below w.heap.size w w'
set_option maxHeartbeats 1000000 in
theorem find_beginnings {w0 w : World} {Q : List NP} {ka : Option Addr} {kn kc : Nat} {k : List Nat} {t : Tr} {v : Option Addr} (hQ : StoreP NoB w0 w Q) (hK : Sl w ka kn kc k) (hT : TreeV Q t (.pointer v)) (hO : TOk t) (hkn : kn ≤ 1000) :
    Calls Try.prog 104 #[.pointer v, .slice ka kn kc] w (prsPost (begL k (tbeg t 0 k)) w) := by
  obtain ⟨wN, hwN⟩ : ∃ wN, wN = w.alloc (.cells #[.slice ka kn kc] 27) := ⟨_, rfl⟩
  obtain ⟨w4, hw4⟩ : ∃ w4, w4 = wN.alloc (.cells #[.slice none 0 0] 68) := ⟨_, rfl⟩
  have hbN : Below w.heap.size w wN := by rw [hwN]; exact (Below.refl _ w).alloc (Nat.le_refl _) _
  have hsN : wN.heap.size = w.heap.size + 1 := by rw [hwN]; simp
  have hb4 : Below wN.heap.size wN w4 := by rw [hw4]; exact (Below.refl _ wN).alloc (Nat.le_refl _) _
  have hkN : wN.heap[w.heap.size]? = some (.cells [.slice ka kn kc].toArray 27 (0, 0)) := by
    rw [hwN]; exact heap_alloc_new w _
  have hv4 : w4.heap[w.heap.size + 1]? = some (.cells [.slice none 0 0].toArray 68 (0, 0)) := by
    have := heap_alloc_new wN (.cells #[.slice none 0 0] 68)
    rw [hsN] at this
    rw [hw4]; exact this
  have hs4 : w4.heap.size = w.heap.size + 2 := by rw [hw4, World.size_alloc, hsN]
  have hS0 : SBeg k wN.heap.size (w.heap.size + 1) (fun j => j = w.heap.size + 1) [] w4 :=
    ⟨_, [], none, hv4, OwnS.nil _ _ _, ents_nil _, rfl, (fun g e => by cases e), (fun i h => by simp at h), (fun j hj => by rw [hj, hsN]; exact Nat.le_refl _), (fun j hj => by rw [hj, hs4]; exact Nat.lt_succ_self _)⟩
  have hEa := Lib.hid (each_be (w.heap.size + 1) w.heap.size (sbe_cb k wN.heap.size _) (begin_cb wN ka kn kc w.heap.size (w.heap.size + 1) k (hK.below hbN) hkn hkN) (hQ.below hbN) (hK.below hbN) hT hO hkn hb4 hS0)
  generalize tstep t k = M at *
  obtain ⟨L0, hL0⟩ : ∃ L0, L0 = tbeg t 0 k := ⟨_, rfl⟩
  rw [← hL0] at hEa ⊢
  have hfin : Hid (∀ F w5, Below wN.heap.size wN w5 → SBeg k wN.heap.size (w.heap.size + 1) F L0 w5 → ∃ a c, w5.cell? ⟨w.heap.size + 1, 0, none⟩ = some (.slice a L0.length c) ∧ prsPost (begL k L0) w (.returned (.slice a L0.length c)) w5) := fun F w5 hb ⟨v, es, bo, h⟩ => by
    have hl : (begL k L0).length = L0.length := by simp [begL]
    obtain ⟨a, c, rfl, hp⟩ := prs_of_own h.own h.ents
    refine ⟨a, c, by rw [cell_of_blk h.var]; rfl, a, c, by rw [hl], by rw [hl]; exact hp, hbN.trans (hb.mono hbN.size)⟩
  clear hQ hK hT hO hL0 hb4 hS0 hbN hkN hv4 hs4 hsN
  go_enter Try.func104, Try.ntmps104
  go_wp2_with fail
  rw [show ((w.alloc (.cells #[.slice ka kn kc] 27)).alloc (.cells #[.slice none 0 0] 68)) = w4 by rw [hw4, hwN]]
  clear hw4 hwN
  go_wp2_with (go_at_call 106; refine hEa.out.mono ?_; rintro e w5 ⟨rfl, z1, F5, z2⟩; obtain ⟨a5, c5, y1, y2⟩ := hfin.out F5 w5 z1 z2; have Y := Lib.hid y2; clear z1 z2 y2)
  go_ret
  exact Y.out
/-! What find tells, by the pairs. -/
def begF (k : List Nat) (l : PL) : PL := l.filter fun p => decide (p.1 <+: k)
theorem begF_append (k : List Nat) (l m : PL) : begF k (l ++ m) = begF k l ++ begF k m := by simp [begF]
theorem begF_pre (p : List Nat) (l : PL) (k : List Nat) : begF k (pre p l) = if p <+: k then pre p (begF (k.drop p.length) l) else [] := by
  unfold begF pre
  rw [List.filter_map]
  split
  · rename_i h
    obtain ⟨r, rfl⟩ := h
    rw [List.drop_left]
    congr 1
    refine List.filter_congr fun x _ => ?_
    simp [List.prefix_append_right_inj]
  · rename_i h
    have : l.filter ((fun p => decide (p.1 <+: k)) ∘ fun x : List Nat × Int => (p ++ x.1, x.2)) = [] := by
      rw [List.filter_eq_nil_iff]
      intro x _
      simp only [Function.comp, decide_eq_true_eq]
      exact fun q => h ((List.prefix_append p x.1).trans q)
    rw [this]; rfl
theorem begF_none {k : List Nat} {l : PL} (h : ∀ p ∈ l, ¬ p.1 <+: k) : begF k l = [] := by
  unfold begF
  rw [List.filter_eq_nil_iff]
  intro p hp
  simpa using h p hp
/-- beginnings of what is left, told with what is used up -/
theorem tbeg_pairs : ∀ (t : Tr) (m : Nat) (k : List Nat), TOk t → ∀ k0 : List Nat, k0.length = m → (tbeg t m k).map (fun x => ((k0 ++ k).take x.1, x.2)) = pre k0 (begF k (tl t))
  | .nil, m, k, _, k0, _ => rfl
  | .kid b t r, m, [], ⟨h1, h2, h3, h4, h5, h6⟩, k0, hk => by
    have : begF [] (tl (.kid b t r)) = [] := begF_none fun p hp q => by
      obtain ⟨c, s, e, _⟩ := tl_heads (.kid b t r) trivial ⟨h1, h2, h3, h4, h5, h6⟩ p hp
      rw [e] at q
      simp at q
    rw [this]; rfl
  | .kid b t r, m, c :: k, ⟨h1, h2, h3, h4, h5, h6⟩, k0, hk => by
    unfold tl
    rw [begF_append, begF_pre]
    by_cases e : b = c
    · subst e
      have hr : begF (b :: k) (tl r) = [] := begF_none fun p hp q => by
        obtain ⟨c, s, e, hc⟩ := tl_from r b h4 h5 h6 p hp
        rw [e, List.cons_prefix_cons] at q
        omega
      have := tbeg_pairs t (m + 1) k h3 (k0 ++ [b]) (by simp [hk])
      rw [hr, List.append_nil, if_pos ⟨k, rfl⟩, pre_pre]
      simp only [tbeg, if_true, List.append_assoc, List.singleton_append] at this ⊢
      exact this
    · have hn : ¬ [b] <+: c :: k := fun q => e (List.cons_prefix_cons.1 q).1
      rw [if_neg hn, List.nil_append]
      have := tbeg_pairs r m (c :: k) h5 k0 hk
      simpa [tbeg, e] using this
  | .node bs v hs leaf ks, m, k, ⟨h1, h2, h3, h4, h5, h6, h7⟩, k0, hk => by
    unfold tl tbeg
    rw [begF_append, begF_pre]
    by_cases hp : bs <+: k
    · rw [if_pos hp, if_pos hp]
      obtain ⟨r, rfl⟩ := hp
      rw [List.drop_left, pre_append, pre_pre, List.map_append]
      congr 1
      · cases hs
        · rfl
        · simp only [if_true, begF, List.filter_cons, List.prefix_append, decide_true, List.filter_nil, List.map_cons, List.map_nil, pre]
          have : (k0 ++ (bs ++ r)).take (m + bs.length) = k0 ++ bs := by
            rw [← List.append_assoc, List.take_left' (by simp [hk])]
          rw [this]
      · by_cases hr : r = []
        · subst hr
          have : begF [] (tl ks) = [] := begF_none fun p hp q => by
            obtain ⟨c, s, e, _⟩ := tl_heads ks h6 h7 p hp
            rw [e] at q
            simp at q
          rw [this]; simp
        · rw [if_neg hr]
          have := tbeg_pairs ks (m + bs.length) r h7 (k0 ++ bs) (by simp [hk])
          rw [List.append_assoc] at this
          exact this
    · rw [if_neg hp, if_neg hp]
      have : begF k (if hs = true then [(bs, v)] else []) = [] := begF_none fun p hpm q => by
        cases hs
        · simp at hpm
        · simp at hpm; subst hpm; exact hp q
      rw [this]; rfl
theorem begL_pairs (t : Tr) (k : List Nat) (h : TOk t) : begL k (tbeg t 0 k) = begF k (tl t) := by
  have := tbeg_pairs t 0 k h [] rfl
  simpa [begL] using this
def lastL (l : PL) : List Nat × Int × Bool := match l.getLast? with
  | none => ([], 0, false)
  | some p => (p.1, p.2, true)
theorem lastK_pairs (t : Tr) (k : List Nat) (h : TOk t) : lastK k (tbeg t 0 k) = lastL (begF k (tl t)) := by
  rw [← begL_pairs t k h]
  unfold lastK lastL begL
  rw [List.getLast?_map]
  cases (tbeg t 0 k).getLast? with
  | none => rfl
  | some x => rfl
end Go.Proofs.Ytkonbldjmcccmaa
/- The document's Begins, Get, Beginnings, Longest. -/
namespace Go.Proofs.Ytkonbldjmcccmaa
open Go.RowKit
theorem quiet_common {w : World} {a b : Option Addr} {n c m d : Nat} {s t : List Nat} (h : Sl w a n c s) (k : Sl w b m d t) (q : Nat) : Calls Try.prog 123 #[.slice a n c, .slice b m d] (w.drewN q) fun e w' => e = .returned (.int .i64 (lcp s t : Nat)) ∧ ∃ p, w' = (w.drewN q).drewN p :=
  ref_common (w.drewN q) a b n c m d s t (h.drewN q).at_ (k.drewN q).at_ h.len k.len (Nat.le_trans h.cap h.capm) (Nat.le_trans k.cap k.capm)
theorem ref_begins {w : World} {a b : Option Addr} {n c m d : Nat} {k p : List Nat} (h : Sl w a n c k) (h2 : Sl w b m d p) : Calls Try.prog 108 #[.slice a n c, .slice b m d] w fun e w' => e = .returned (.bool (decide (p <+: k))) ∧ ∃ q, w' = w.drewN q := by
  have hC := Lib.hid (fun q => quiet_common h h2 q)
  have hm := h2.len
  by_cases e : p <+: k
  · have hR : Hid (decide (p <+: k) = true) := by show _ = _; simp [e]
    have e1 : (lcp k p) = m := by rw [← hm]; exact (lcp_isPrefix k p).2 e
    rw [hR.out]
    rw [e1] at hC
    clear h h2 hm e e1 hR
    go_enter Try.func108, Try.ntmps108
    go_wp2_with (go_at_call 123; refine (hC.out 0).mono ?_; rintro e w2 ⟨rfl, nq, rfl⟩)
    go_ret
    exact ⟨rfl, nq, rfl⟩
  · have hR : Hid (decide (p <+: k) = false) := by show _ = _; simp [e]
    have e1 : ¬ (lcp k p) = m := fun q => e ((lcp_isPrefix k p).1 (by rw [q, hm]))
    have e2 : ¬ ((lcp k p : Nat) : Int) = (m : Nat) := by omega
    rw [hR.out]
    generalize lcp k p = L at *
    clear h h2 hm e e1 hR
    go_enter Try.func108, Try.ntmps108
    go_wp2_with (go_at_call 123; refine (hC.out 0).mono ?_; rintro e w2 ⟨rfl, nq, rfl⟩)
    go_ret
    exact ⟨by show Ending.returned (.bool ((L : Int) == (m : Int))) = _; rw [beq_eq_false_iff_ne.2 e2], nq, rfl⟩
theorem quiet_begins {w : World} {a b : Option Addr} {n c m d : Nat} {k p : List Nat} (h : Sl w a n c k) (h2 : Sl w b m d p) (q : Nat) : Calls Try.prog 108 #[.slice a n c, .slice b m d] (w.drewN q) fun e w' => e = .returned (.bool (decide (p <+: k))) ∧ ∃ p, w' = (w.drewN q).drewN p :=
  ref_begins (h.drewN q) (h2.drewN q)
theorem plook_at {l : PL} {k : List Nat} {i : Nat} (hA : ∀ j, j < i → (l.getD j ([], 0)).1 ≠ k) (hi : i < l.length) (e : (l.getD i ([], 0)).1 = k) : plook l k = some (l.getD i ([], 0)).2 := by
  unfold plook
  have : l.find? (fun p => p.1 == k) = some (l.getD i ([], 0)) := by
    rw [List.find?_eq_some_iff_getElem]
    refine ⟨by simpa using e, i, hi, by rw [getD_of_lt hi], fun j hj => ?_⟩
    have := hA j hj
    rw [getD_of_lt (by omega)] at this
    simpa using this
  rw [this]; rfl
theorem plook_no {l : PL} {k : List Nat} (hA : ∀ j, j < l.length → (l.getD j ([], 0)).1 ≠ k) : plook l k = none := plook_none fun p hp => by
  obtain ⟨i, hi, rfl⟩ := List.getElem_of_mem hp
  have := hA i hi
  rwa [getD_of_lt hi] at this
def plsPost (ty : Nat) (l : PL) (w : World) (e : Ending) (w' : World) : Prop := ∃ v, e = .returned v ∧ PLs ty w v l w'
theorem begF_take {k : List Nat} {l : PL} {i : Nat} (hi : i < l.length) : begF k (l.take (i + 1)) = begF k (l.take i) ++ if (l.getD i ([], 0)).1 <+: k then [l.getD i ([], 0)] else [] := by
  rw [List.take_succ_eq_append_getElem hi, begF_append, getD_of_lt hi]
  congr 1
  simp [begF, List.filter_cons]
/-- a block of a pair holds no bytes -/
theorem sl_off_pair {w w' : World} {b : Nat} {t : Nat} {a : Option Addr} {n c : Nat} {bs : List Nat} (h : Sl w a n c bs) (hb : w.heap[b]? = some (.cells [.slice none 0 0, .int .u64 0].toArray t (0, 0))) (hm : Mod (fun j => j = b) w w') : Sl w' a n c bs := by
  refine ⟨h.len, ⟨h.at_.1, fun i hi => ?_⟩, h.cap, h.capm, h.nil⟩
  obtain ⟨p, e, h1, h2⟩ := h.at_.2 i hi
  have hne : (p.add i).block ≠ b := fun q => by
    rw [World.cell?, q, hb] at h2
    simp only at h2
    split at h2
    · cases h2
    · rcases ho : (p.add i).off with _ | _ | o <;> rw [ho] at h2 <;> simp at h2
  refine ⟨p, e, Nat.lt_of_lt_of_le h1 hm.size, ?_⟩
  rw [← h2]
  unfold World.cell?
  rw [hm.same _ h1 hne]
theorem lastL_at {l : PL} {n : Nat} (h : l.length = n + 1) : lastL l = ((l.getD n ([], 0)).1, (l.getD n ([], 0)).2, true) := by
  unfold lastL
  rw [List.getLast?_eq_getElem?, h, Nat.add_sub_cancel, List.getElem?_eq_getElem (by omega), getD_of_lt (by omega)]
end Go.Proofs.Ytkonbldjmcccmaa
/- A canonical tree is told by its pairs. No program. -/
namespace Go.Proofs.Ytkonbldjmcccmaa
def sh : Tr → Tr
  | .nil => .nil
  | .kid b t r => .kid b (sh t) (sh r)
  | .node bs v has _ ks => .node bs v has false (sh ks)
theorem tstep_sh : ∀ (t : Tr) (k : List Nat), tstep (sh t) k = tstep t k
  | .nil, _ => rfl
  | .kid b t r, [] => rfl
  | .kid b t r, c :: k => by simp only [sh, tstep, tstep_sh t k, tstep_sh r (c :: k)]
  | .node bs v has leaf ks, k => by simp only [sh, tstep, tstep_sh ks]
theorem tl_ne : ∀ (t : Tr), IsN t → TOk t → Can t → tl t ≠ []
  | .nil, h, _, _ => h.elim
  | .kid .., h, _, _ => h.elim
  | .node bs v has leaf ks, _, ⟨h1, h2, h3, h4, h5, h6, h7⟩, ⟨c1, c2⟩ => by
    cases has with
    | true => simp [tl]
    | false =>
      have hl : leaf = false := by
        cases leaf with
        | false => rfl
        | true => exact absurd (h5 rfl).1 (by simp)
      have := c2 hl
      match ks, h6, h7, c1, this with
      | .nil, _, _, _, q => simp [chain] at q
      | .node .., h, _, _, _ => exact h.elim
      | .kid b t r, _, ⟨k1, k2, k3, k4, k5, k6⟩, ⟨d1, d2⟩, q =>
        have := tl_ne t k2 k3 d1
        simp [tl, pre, this]
theorem pre_inj {p : List Nat} {l m : PL} (h : pre p l = pre p m) : l = m := by
  have := congrArg (strip p.length) h
  simpa [strip, pre, Function.comp_def] using this
theorem part_long {bs : List Nat} {v : Int} {has leaf : Bool} {ks : Tr} (hO : TOk (.node bs v has leaf ks)) (hC : Can (.node bs v has leaf ks)) (c : Nat) (r : List Nat) : ¬ ∀ p ∈ tl (.node bs v has leaf ks), (bs ++ c :: r) <+: p.1 := by
  intro h
  obtain ⟨h1, h2, h3, h4, h5, h6, h7⟩ := hO
  obtain ⟨c1, c2⟩ := hC
  cases has with
  | true =>
    have := (h (bs, v) (by simp [tl])).length_le
    simp at this
    omega
  | false =>
    have hl : leaf = false := by
      cases leaf with
      | false => rfl
      | true => exact absurd (h5 rfl).1 (by simp)
    have := c2 hl
    match ks, h6, h7, c1, this with
    | .nil, _, _, _, q => simp [chain] at q
    | .node .., h, _, _, _ => exact h.elim
    | .kid b t .nil, _, _, _, q => simp [chain] at q
    | .kid b t (.node ..), _, ⟨_, _, _, k4, _⟩, _, q => exact k4.elim
    | .kid b t (.kid b2 t2 r2), _, ⟨k1, k2, k3, k4, ⟨m1, m2, m3, m4, m5, m6⟩, k6⟩, ⟨d1, d2, d3⟩, q =>
      have k6 : b < b2 := k6
      obtain ⟨x, hx⟩ := List.exists_mem_of_ne_nil _ (tl_ne t k2 k3 d1)
      obtain ⟨y, hy⟩ := List.exists_mem_of_ne_nil _ (tl_ne t2 m2 m3 d2)
      have e1 := h (bs ++ b :: x.1, x.2) (by
        simp only [tl, pre_append, pre_pre, List.mem_append]
        exact Or.inr (Or.inl (List.mem_map.2 ⟨x, hx, by simp⟩)))
      have e2 := h (bs ++ b2 :: y.1, y.2) (by
        simp only [tl, pre_append, pre_pre, List.mem_append]
        exact Or.inr (Or.inr (Or.inl (List.mem_map.2 ⟨y, hy, by simp⟩))))
      rw [List.prefix_append_right_inj, List.cons_prefix_cons] at e1 e2
      omega
theorem tl_begins {bs : List Nat} {v : Int} {has leaf : Bool} {ks : Tr} : ∀ p ∈ tl (.node bs v has leaf ks), bs <+: p.1 := fun p hp => by
  unfold tl at hp
  rcases List.mem_append.1 hp with hp | hp
  · cases has
    · simp at hp
    · simp at hp; subst hp; exact List.prefix_refl _
  · obtain ⟨q, hq, rfl⟩ := List.mem_map.1 hp
    exact List.prefix_append _ _
theorem pre_split {p : List Nat} : ∀ {q : List Nat} {k : List Nat}, p <+: k → q <+: k → (p = q ∨ (∃ c r, q = p ++ c :: r) ∨ ∃ c r, p = q ++ c :: r) := by
  intro q k h1 h2
  rcases Nat.lt_trichotomy p.length q.length with h | h | h
  · obtain ⟨r, rfl⟩ := List.prefix_of_prefix_length_le h1 h2 (by omega)
    cases r with
    | nil => simp at h
    | cons c r => exact Or.inr (Or.inl ⟨c, r, rfl⟩)
  · exact Or.inl ((List.prefix_of_prefix_length_le h1 h2 (by omega)).eq_of_length h)
  · obtain ⟨r, rfl⟩ := List.prefix_of_prefix_length_le h2 h1 (by omega)
    cases r with
    | nil => simp at h
    | cons c r => exact Or.inr (Or.inr ⟨c, r, rfl⟩)
def hd (b : Nat) (p : List Nat × Int) : Bool := p.1.head? == some b
theorem hd_pre (b : Nat) (l : PL) : (pre [b] l).filter (hd b) = pre [b] l := by
  rw [List.filter_eq_self]
  intro x hx
  obtain ⟨q, hq, rfl⟩ := List.mem_map.1 hx
  simp [hd]
theorem hd_pre' (b : Nat) (l : PL) : (pre [b] l).filter (fun x => !hd b x) = [] := by
  rw [List.filter_eq_nil_iff]
  intro x hx
  obtain ⟨q, hq, rfl⟩ := List.mem_map.1 hx
  simp [hd]
theorem hd_from {b : Nat} {r : Tr} (h1 : IsK r) (h2 : TOk r) (h3 : From b r) : (tl r).filter (hd b) = [] ∧ (tl r).filter (fun x => !hd b x) = tl r := by
  have key : ∀ p ∈ tl r, hd b p = false := fun p hp => by
    obtain ⟨c, s, e, hc⟩ := tl_from r b h1 h2 h3 p hp
    simp [hd, e]
    omega
  exact ⟨List.filter_eq_nil_iff.2 fun p hp => by simp [key p hp], List.filter_eq_self.2 fun p hp => by simp [key p hp]⟩
theorem sh_eq : ∀ (t t' : Tr), (IsN t ∧ IsN t' ∨ IsK t ∧ IsK t') → TOk t → TOk t' → Can t → Can t' → tl t = tl t' → sh t = sh t'
  | .nil, .nil, _, _, _, _, _, _ => rfl
  | .nil, .node .., h, _, _, _, _, _ => by rcases h with ⟨h, _⟩ | ⟨_, h⟩ <;> exact h.elim
  | .kid .., .node .., h, _, _, _, _, _ => by rcases h with ⟨h, _⟩ | ⟨_, h⟩ <;> exact h.elim
  | .node .., .nil, h, _, _, _, _, _ => by rcases h with ⟨_, h⟩ | ⟨h, _⟩ <;> exact h.elim
  | .node .., .kid .., h, _, _, _, _, _ => by rcases h with ⟨_, h⟩ | ⟨h, _⟩ <;> exact h.elim
  | .nil, .kid b t r, _, _, ⟨_, h2, h3, _⟩, _, ⟨c1, _⟩, e => by
    have := tl_ne t h2 h3 c1
    simp [tl, pre, this] at e
  | .kid b t r, .nil, _, ⟨_, h2, h3, _⟩, _, ⟨c1, _⟩, _, e => by
    have := tl_ne t h2 h3 c1
    simp [tl, pre, this] at e
  | .kid b t r, .kid b' t' r', _, ⟨h1, h2, h3, h4, h5, h6⟩, ⟨k1, k2, k3, k4, k5, k6⟩, ⟨c1, c2⟩, ⟨d1, d2⟩, e => by
    unfold tl at e
    obtain rfl : b = b' := by
      cases e1 : tl t with
      | nil => exact absurd e1 (tl_ne t h2 h3 c1)
      | cons x l =>
        cases e2 : tl t' with
        | nil => exact absurd e2 (tl_ne t' k2 k3 d1)
        | cons y m =>
          rw [e1, e2] at e
          simp [pre] at e
          exact e.1.1.1
    have f1 := congrArg (List.filter (hd b)) e
    have f2 := congrArg (List.filter (fun x => !hd b x)) e
    rw [List.filter_append, List.filter_append, hd_pre, hd_pre, (hd_from h4 h5 h6).1, (hd_from k4 k5 k6).1, List.append_nil, List.append_nil] at f1
    rw [List.filter_append, List.filter_append, hd_pre', hd_pre', (hd_from h4 h5 h6).2, (hd_from k4 k5 k6).2, List.nil_append, List.nil_append] at f2
    simp only [sh, sh_eq t t' (Or.inl ⟨h2, k2⟩) h3 k3 c1 d1 (pre_inj f1), sh_eq r r' (Or.inr ⟨h4, k4⟩) h5 k5 c2 d2 f2]
  | .node bs v has leaf ks, .node bs' v' has' leaf' ks', _, hO, hO', hC, hC', e => by
    obtain rfl : bs = bs' := by
      obtain ⟨x, hx⟩ := List.exists_mem_of_ne_nil _ (tl_ne (.node bs v has leaf ks) trivial hO hC)
      rcases pre_split (tl_begins x hx) (tl_begins x (by rw [← e]; exact hx)) with q | ⟨c, r, q⟩ | ⟨c, r, q⟩
      · exact q
      · exact absurd (fun p hp => by rw [← q]; exact tl_begins p (by rw [← e]; exact hp)) (part_long hO hC c r)
      · exact absurd (fun p hp => by rw [← q]; exact tl_begins p (by rw [e]; exact hp)) (part_long hO' hC' c r)
    obtain ⟨h1, h2, h3, h4, h5, h6, h7⟩ := hO
    obtain ⟨k1, k2, k3, k4, k5, k6, k7⟩ := hO'
    unfold tl at e
    have hno : ∀ {l : Tr} {w : Int} {m : PL}, IsK l → TOk l → ∀ x, (bs, x) ∉ pre bs (tl l) := fun {l w m} a1 a2 x q => by
      obtain ⟨y, hy, ey⟩ := List.mem_map.1 q
      obtain ⟨c, s, e2, _⟩ := tl_heads l a1 a2 y hy
      rw [e2] at ey
      have := congrArg (fun z => z.1.length) ey
      simp at this
    have hhas : has = has' ∧ v = v' ∧ tl ks = tl ks' := by
      cases has <;> cases has'
      · simp only [Bool.false_eq_true, if_false, List.nil_append] at e
        exact ⟨rfl, (h4 rfl).trans (k4 rfl).symm, pre_inj e⟩
      · simp only [Bool.false_eq_true, if_false, List.nil_append, if_true] at e
        exact absurd (by rw [e]; simp) (hno (w := 0) (m := []) h6 h7 v')
      · simp only [Bool.false_eq_true, if_false, List.nil_append, if_true] at e
        exact absurd (by rw [← e]; simp) (hno (w := 0) (m := []) k6 k7 v)
      · simp only [if_true, List.singleton_append, List.cons.injEq, Prod.mk.injEq, true_and] at e
        exact ⟨rfl, e.1, pre_inj e.2⟩
    obtain ⟨rfl, rfl, e3⟩ := hhas
    simp only [sh, sh_eq ks ks' (Or.inr ⟨h6, k6⟩) h7 k7 hC.1 hC'.1 e3]
end Go.Proofs.Ytkonbldjmcccmaa
/- alive of law 14. -/
namespace Go.Proofs.Ytkonbldjmcccmaa
open Go.RowKit
theorem sl_one (w : World) (x : Nat) (t : TypeId) (hx : x < 256) : Sl (w.alloc (.cells #[.int .u8 (x : Nat)] t)) (some ⟨w.heap.size, 0, none⟩) 1 1 [x] := by
  have hb : (w.alloc (.cells #[.int .u8 (x : Nat)] t)).heap[w.heap.size]? = some (.cells [.int .u8 (x : Nat)].toArray t (0, 0)) := heap_alloc_new w _
  refine ⟨rfl, ⟨by simpa using hx, fun i hi => ⟨_, rfl, ?_, ?_⟩⟩, Nat.le_refl _, by unfold maxLen; omega, fun e => by cases e⟩
  · rw [add0]; simp
  · rw [add0, cell_of_blk hb]
    have hi : i < 1 := hi
    obtain rfl : i = 0 := by omega
    rfl
theorem sl_two (w : World) (x y : Nat) (t : TypeId) (hx : x < 256) (hy : y < 256) : Sl (w.alloc (.cells #[.int .u8 (x : Nat), .int .u8 (y : Nat)] t)) (some ⟨w.heap.size, 0, none⟩) 2 2 [x, y] := by
  have hb : (w.alloc (.cells #[.int .u8 (x : Nat), .int .u8 (y : Nat)] t)).heap[w.heap.size]? = some (.cells [.int .u8 (x : Nat), .int .u8 (y : Nat)].toArray t (0, 0)) := heap_alloc_new w _
  refine ⟨rfl, ⟨by simp [hx, hy], fun i hi => ⟨_, rfl, ?_, ?_⟩⟩, Nat.le_refl _, by unfold maxLen; omega, fun e => by cases e⟩
  · rw [add0]; simp
  · rw [add0, cell_of_blk hb]
    have hi : i < 2 := hi
    obtain rfl | rfl : i = 0 ∨ i = 1 := by omega
    · rfl
    · rfl
def alL : PL := [([1], 5), ([1, 2], 6)]
def alT : Tr := .node [1] 5 true false (.kid 2 (.node [] 6 true true .nil) .nil)
theorem alT_ok : TOk alT := by simp [alT, TOk, IsN, IsK, From]
theorem alT_can : Can alT := by simp [alT, Can, chain]
theorem alT_l : tl alT = alL := rfl
theorem TreeV.node {Q : List NP} {t : Tr} {v : Value} (h : TreeV Q t v) (hne : tl t ≠ []) : IsN t := by
  rcases h with ⟨rfl, _⟩ | ⟨h, _⟩
  · exact absurd rfl hne
  · exact h
theorem al_steps {t : Tr} (hk : IsN t) (h1 : TOk t) (h2 : Can t) (h3 : tl t = alL) : tstep t [1, 2] = 2 := by
  rw [← tstep_sh, sh_eq t alT (Or.inl ⟨hk, trivial⟩) h1 alT_ok h2 alT_can (h3.trans alT_l.symm), tstep_sh]
  rfl
/-- what finds say of a tree that was built, in every later world -/
structure Says (w0 w : World) (a : Option Addr) (l : PL) : Prop where
  below : Below w0.heap.size w0 w
  get : ∀ w', Below w.heap.size w w' → ∀ ka kn kc k, Sl w' ka kn kc k → kn ≤ 1000 → Calls Try.prog 45 #[.pointer a, .slice ka kn kc] w' (belowPost (getVal (plook l k)) w')
  has : ∀ w', Below w.heap.size w w' → ∀ ka kn kc k, Sl w' ka kn kc k → kn ≤ 1000 → Calls Try.prog 103 #[.pointer a, .slice ka kn kc] w' (belowPost (.bool (plook l k).isSome) w')
  longest : ∀ w', Below w.heap.size w w' → ∀ ka kn kc k, Sl w' ka kn kc k → kn ≤ 1000 → Calls Try.prog 102 #[.pointer a, .slice ka kn kc] w' (pairPost (lastL (begF k l)).1 (lastL (begF k l)).2.1 (lastL (begF k l)).2.2 w')
  begs : ∀ w', Below w.heap.size w w' → ∀ ka kn kc k, Sl w' ka kn kc k → kn ≤ 1000 → Calls Try.prog 104 #[.pointer a, .slice ka kn kc] w' (prsPost (begF k l) w')
  steps : ∃ t, TOk t ∧ Can t ∧ tl t = l ∧ (t = .nil ∨ IsN t) ∧ ∀ w', Below w.heap.size w w' → ∀ ka kn kc k, Sl w' ka kn kc k → kn ≤ 1000 → Calls Try.prog 39 #[.pointer a, .slice ka kn kc] w' (belowPost (.int .i64 (tstep t k : Nat)) w')
theorem says_tree {w0 w : World} {Q : List NP} {t : Tr} {a : Option Addr} (hQ : StoreP NoB w0 w Q) (hT : TreeV Q t (.pointer a)) (hO : TOk t) (hC : Can t) : Says w0 w a (tl t) where
  below := hQ.below_
  get := fun w' hb ka kn kc k hK hn => by rw [← tget_look t k hO]; exact find_get (hQ.below hb) hK hT hO hn
  has := fun w' hb ka kn kc k hK hn => by rw [← tget_look t k hO]; exact find_has (hQ.below hb) hK hT hO hn
  longest := fun w' hb ka kn kc k hK hn => by rw [← lastK_pairs t k hO]; exact find_longest (hQ.below hb) hK hT hO hn
  begs := fun w' hb ka kn kc k hK hn => by rw [← begL_pairs t k hO]; exact find_beginnings (hQ.below hb) hK hT hO hn
  steps := ⟨t, hO, hC, rfl, by
    rcases hT with ⟨h, _⟩ | ⟨h, _⟩
    · exact Or.inl h
    · exact Or.inr h, fun w' hb ka kn kc k hK hn => find_steps (hQ.below hb) hK hT hO hn⟩
def saysPost (l : PL) (w : World) (e : Ending) (w' : World) : Prop := ∃ a, e = .returned (.pointer a) ∧ Says w w' a l
theorem law_tree_says (w : World) (a : Option Addr) (n c : Nat) (l : PL) (h : Prs w a n c l) (hn : n ≤ 100000) (hs : PSrt l) (hk : ∀ x ∈ l, x.1.length ≤ 65535) : Calls Try.prog 38 #[.slice a n c] w (saysPost l w) :=
  (law_tree w a n c l h hn hs hk).mono fun e w' ⟨t, a, Q, e1, q1, q2, q3, q4, q5⟩ => ⟨a, e1, by rw [← q5]; exact says_tree q1 q2 q3 q4⟩
theorem al_prs (w : World) (t1 t2 t3 : TypeId) : Prs (((w.alloc (.cells #[.int .u8 1] t1)).alloc (.cells #[.int .u8 1, .int .u8 2] t2)).alloc (.cells #[.slice (some ⟨w.heap.size, 0, none⟩) 1 1, .int .u64 5, .slice (some ⟨w.heap.size + 1, 0, none⟩) 2 2, .int .u64 6] t3)) (some ⟨w.heap.size + 1 + 1, 0, none⟩) 2 2 alL := by
  obtain ⟨w1, h1⟩ : ∃ w1, w1 = w.alloc (.cells #[.int .u8 1] t1) := ⟨_, rfl⟩
  obtain ⟨w2, h2⟩ : ∃ w2, w2 = w1.alloc (.cells #[.int .u8 1, .int .u8 2] t2) := ⟨_, rfl⟩
  have s1 : w1.heap.size = w.heap.size + 1 := by rw [h1]; simp
  have s2 : w2.heap.size = w.heap.size + 1 + 1 := by rw [h2, World.size_alloc, s1]
  rw [← h1, ← h2]
  obtain ⟨w3, h3⟩ : ∃ w3, w3 = w2.alloc (.cells #[.slice (some ⟨w.heap.size, 0, none⟩) 1 1, .int .u64 5, .slice (some ⟨w.heap.size + 1, 0, none⟩) 2 2, .int .u64 6] t3) := ⟨_, rfl⟩
  rw [← h3]
  have b3 : Below w2.heap.size w2 w3 := by rw [h3]; exact (Below.refl _ _).alloc (Nat.le_refl _) _
  have b2 : Below w1.heap.size w1 w2 := by rw [h2]; exact (Below.refl _ _).alloc (Nat.le_refl _) _
  have k1 : Sl w3 (some ⟨w.heap.size, 0, none⟩) 1 1 [1] := by
    have := sl_one w 1 t1 (by omega)
    have : Sl w1 (some ⟨w.heap.size, 0, none⟩) 1 1 [1] := by rw [h1]; exact this
    exact (this.below b2).below b3
  have k2 : Sl w3 (some ⟨w.heap.size + 1, 0, none⟩) 2 2 [1, 2] := by
    have := sl_two w1 1 2 t2 (by omega) (by omega)
    rw [s1] at this
    have : Sl w2 (some ⟨w.heap.size + 1, 0, none⟩) 2 2 [1, 2] := by rw [h2]; exact this
    exact this.below b3
  have hb : w3.heap[w.heap.size + 1 + 1]? = some (.cells [.slice (some ⟨w.heap.size, 0, none⟩) 1 1, .int .u64 5, .slice (some ⟨w.heap.size + 1, 0, none⟩) 2 2, .int .u64 6].toArray t3 (0, 0)) := by
    have := heap_alloc_new w2 (.cells #[.slice (some ⟨w.heap.size, 0, none⟩) 1 1, .int .u64 5, .slice (some ⟨w.heap.size + 1, 0, none⟩) 2 2, .int .u64 6] t3)
    rw [s2] at this
    rw [h3]; exact this
  have s3 : w3.heap.size = w.heap.size + 1 + 1 + 1 := by rw [h3, World.size_alloc, s2]
  refine ⟨rfl, Nat.le_refl _, by unfold maxLen; omega, (fun e => by cases e), (by simp [alL]), fun i hi => ⟨_, rfl, ?_⟩⟩
  have hi : i < 2 := hi
  obtain rfl | rfl : i = 0 ∨ i = 1 := by omega
  · refine ⟨by rw [add0]; show w.heap.size + 1 + 1 < _; omega, _, _, _, ?_, ?_, k1⟩
    · rw [add0, cell_of_blk hb]; rfl
    · rw [add0, cell_of_blk hb]; rfl
  · refine ⟨by rw [add0]; show w.heap.size + 1 + 1 < _; omega, _, _, _, ?_, ?_, k2⟩
    · rw [add0, cell_of_blk hb]; rfl
    · rw [add0, cell_of_blk hb]; rfl
theorem al_srt : PSrt alL := by
  refine List.pairwise_cons.2 ⟨fun y hy => ?_, List.pairwise_singleton _ _⟩
  simp at hy; subst hy; rfl
theorem al_get : getVal (plook alL [1, 2]) = .tuple #[.int .u64 6, .bool true] := rfl
theorem al_has : (plook alL [1, 3]).isSome = false := rfl
theorem al_long : lastL (begF [1, 3] alL) = ([1], 5, true) := by decide
theorem al_begs : (begF [1, 2] alL).length = 2 := by decide
structure AlS (w : World) (a : Option Addr) : Prop where
  get : ∀ w', Below w.heap.size w w' → Calls Try.prog 45 #[.pointer a, .slice (some ⟨w'.heap.size, 0, none⟩) 2 2] (w'.alloc (.cells #[.int .u8 1, .int .u8 2] 5)) (belowPost (.tuple #[.int .u64 6, .bool true]) w')
  has : ∀ w', Below w.heap.size w w' → Calls Try.prog 103 #[.pointer a, .slice (some ⟨w'.heap.size, 0, none⟩) 2 2] (w'.alloc (.cells #[.int .u8 1, .int .u8 3] 5)) (belowPost (.bool false) w')
  longest : ∀ w', Below w.heap.size w w' → Calls Try.prog 102 #[.pointer a, .slice (some ⟨w'.heap.size, 0, none⟩) 2 2] (w'.alloc (.cells #[.int .u8 1, .int .u8 3] 5)) fun e w2 => ∃ b c, e = .returned (.tuple #[.agg #[.slice b 1 c, .int .u64 5], .bool true]) ∧ Below w'.heap.size w' w2
  begs : ∀ w', Below w.heap.size w w' → Calls Try.prog 104 #[.pointer a, .slice (some ⟨w'.heap.size, 0, none⟩) 2 2] (w'.alloc (.cells #[.int .u8 1, .int .u8 2] 5)) fun e w2 => ∃ b c, e = .returned (.slice b 2 c) ∧ Below w'.heap.size w' w2
  steps : ∀ w', Below w.heap.size w w' → Calls Try.prog 39 #[.pointer a, .slice (some ⟨w'.heap.size, 0, none⟩) 2 2] (w'.alloc (.cells #[.int .u8 1, .int .u8 2] 5)) (belowPost (.int .i64 2) w')
theorem al_says {w0 w : World} {a : Option Addr} (h : Says w0 w a alL) : AlS w a where
  get := fun w' hb => by
    have hB : Below w'.heap.size w' (w'.alloc (.cells #[.int .u8 1, .int .u8 2] 5)) := (Below.refl _ _).alloc (Nat.le_refl _) _
    refine (h.get _ (hb.trans (hB.mono hb.size)) _ _ _ _ (sl_two w' 1 2 _ (by omega) (by omega)) (by omega)).mono fun e w2 ⟨q1, q2⟩ => ⟨by rw [q1, al_get], hB.trans (q2.mono hB.size)⟩
  has := fun w' hb => by
    have hB : Below w'.heap.size w' (w'.alloc (.cells #[.int .u8 1, .int .u8 3] 5)) := (Below.refl _ _).alloc (Nat.le_refl _) _
    refine (h.has _ (hb.trans (hB.mono hb.size)) _ _ _ _ (sl_two w' 1 3 _ (by omega) (by omega)) (by omega)).mono fun e w2 ⟨q1, q2⟩ => ⟨by rw [q1, al_has], hB.trans (q2.mono hB.size)⟩
  longest := fun w' hb => by
    have hB : Below w'.heap.size w' (w'.alloc (.cells #[.int .u8 1, .int .u8 3] 5)) := (Below.refl _ _).alloc (Nat.le_refl _) _
    refine (h.longest _ (hb.trans (hB.mono hb.size)) _ _ _ _ (sl_two w' 1 3 _ (by omega) (by omega)) (by omega)).mono fun e w2 ⟨b, n, c, q1, q2, q3⟩ => ?_
    rw [al_long] at q1 q2
    obtain rfl : 1 = n := q2.len
    exact ⟨b, c, q1, hB.trans (q3.mono hB.size)⟩
  begs := fun w' hb => by
    have hB : Below w'.heap.size w' (w'.alloc (.cells #[.int .u8 1, .int .u8 2] 5)) := (Below.refl _ _).alloc (Nat.le_refl _) _
    refine (h.begs _ (hb.trans (hB.mono hb.size)) _ _ _ _ (sl_two w' 1 2 _ (by omega) (by omega)) (by omega)).mono fun e w2 ⟨b, c, q1, q2, q3⟩ => ?_
    rw [al_begs] at q1
    exact ⟨b, c, q1, hB.trans (q3.mono hB.size)⟩
  steps := fun w' hb => by
    have hB : Below w'.heap.size w' (w'.alloc (.cells #[.int .u8 1, .int .u8 2] 5)) := (Below.refl _ _).alloc (Nat.le_refl _) _
    obtain ⟨t, h1, h2, h3, h4, h5⟩ := h.steps
    have hk : IsN t := by
      rcases h4 with rfl | h4
      · cases h3
      · exact h4
    refine (h5 _ (hb.trans (hB.mono hb.size)) _ _ _ _ (sl_two w' 1 2 _ (by omega) (by omega)) (by omega)).mono fun e w2 ⟨q1, q2⟩ => ⟨by rw [q1, al_steps hk h1 h2 h3]; rfl, hB.trans (q2.mono hB.size)⟩
set_option maxHeartbeats 1000000 in
theorem aliveF_any (w : World) : Calls Try.prog 36 #[] w (belowPost (.bool true) w) := by
  have hP := Lib.hid (law_tree_says _ _ _ _ _ (al_prs w 5 5 kpT) (by omega) al_srt (by intro x hx; simp [alL] at hx; rcases hx with rfl | rfl <;> simp))
  have hB0 : Hid (Below w.heap.size w (((w.alloc (.cells #[.int .u8 1] 5)).alloc (.cells #[.int .u8 1, .int .u8 2] 5)).alloc (.cells #[.slice (some ⟨w.heap.size, 0, none⟩) 1 1, .int .u64 5, .slice (some ⟨w.heap.size + 1, 0, none⟩) 2 2, .int .u64 6] kpT))) := (((Below.refl _ w).alloc (Nat.le_refl _) _).alloc (by simp) _).alloc (by simp; omega) _
  go_enter Try.func36, Try.ntmps36
  go_wp2_with (first
    | (go_at_call 38; refine hP.out.mono ?_; rintro e w1 ⟨a, rfl, z1⟩; have hS := Lib.hid (al_says z1); have B1 := Lib.hid (Below.refl w1.heap.size w1); have BW := Lib.hid (hB0.out.trans (z1.below.mono hB0.out.size)); clear z1)
    | (go_at_call 45; refine (hS.out.get _ B1.out).mono ?_; rintro e w2 ⟨rfl, z1⟩; have B2 := Lib.hid (B1.out.trans (z1.mono B1.out.size)); clear z1)
    | (go_at_call 102; refine (hS.out.longest _ B2.out).mono ?_; rintro e w3 ⟨b3, c3, rfl, z1⟩; have B3 := Lib.hid (B2.out.trans (z1.mono B2.out.size));  have hH := hS.out.has (w3.alloc (.cells #[.slice b3 1 c3, .int .u64 5] apT)) (B3.out.alloc B3.out.size _); rw [World.size_alloc] at hH; have hH := Lib.hid hH; have BH : Hid (Below w1.heap.size w1 (w3.alloc (.cells #[.slice b3 1 c3, .int .u64 5] apT))) := B3.out.alloc B3.out.size _; clear z1)
    | (go_at_call 103; refine hH.out.mono ?_; rintro e w4 ⟨rfl, z1⟩; have B4 := Lib.hid (BH.out.trans (z1.mono BH.out.size)); clear z1)
    | (go_at_call 104; refine (hS.out.begs _ B4.out).mono ?_; rintro e w5 ⟨b5, c5, rfl, z1⟩; have B5 := Lib.hid (B4.out.trans (z1.mono B4.out.size)); clear z1)
    | (go_at_call 39; refine (hS.out.steps _ B5.out).mono ?_; rintro e w6 ⟨rfl, z1⟩; have B6 := Lib.hid (B5.out.trans (z1.mono B5.out.size)); clear z1))
  go_ret
  exact ⟨rfl, BW.out.trans (B6.out.mono BW.out.size)⟩
end Go.Proofs.Ytkonbldjmcccmaa
