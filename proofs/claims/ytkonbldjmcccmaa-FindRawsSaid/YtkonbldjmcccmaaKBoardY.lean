/- Boards: Drop, Copy. -/
import Derived.Test.YtkonbldjmcccmaaKBoardX
set_option linter.unusedVariables false
set_option linter.unusedSimpArgs false
namespace Go.Proofs.Ytkonbldjmcccmaa
open Go.RowKit
namespace I
variable {w : World} {r rm : Nat} {l : KV} {p : Nat → Nat} {vx : Value} {xs : List Value} {bx : Option Nat} {vf : Value} {fs : List Nat} {bf : Option Nat}
set_option maxHeartbeats 1000000 in
set_option maxRecDepth 100000 in
theorem bd_drop_none (h : BdIs bdT elT u16T w r rm l p vx xs bx vf fs bf) (b : Nat) (hb : b < 256) (hh : has l b = false) : Calls Try.prog 141 #[.pointer (some ⟨r, 0, none⟩), .int .u8 b] w fun e w' => e = .returned (.int .i64 6) ∧ w = w' := by
  have c0 := h.c0
  have hr := h.r1
  have cA := h.cA b hb
  rw [(h.pl.zero b hb).2 hh] at cA
  have cA' : w.cell? ⟨r, 2 + b, none⟩ = some (.int .u16 0) := cA
  have hbi : (b : Int) < 256 := by omega
  clear h hh cA
  go_enter Try.func141, Try.ntmps141
  go_wp2_with (go_at_call 184; refine (bok_yes _ _ _ c0 hr).mono ?_; rintro e w' ⟨rfl, rfl⟩)
  go_ret
  exact ⟨rfl, rfl⟩
def bdropPost (r rm : Nat) (l : KV) (b : Nat) (S : Nat → Prop) (w : World) (e : Ending) (w' : World) : Prop := e = .returned (.int .i64 0) ∧ ∃ S', BdAt bdT elT u16T w' r rm (kdel l b) S' ∧ Mod S w w' ∧ ∀ k, S' k → S k ∨ w.heap.size ≤ k
theorem bdrop_end (h : BdIs bdT elT u16T w r rm l p vx xs bx vf fs bf) (b : Nat) (hb : b < 256) (hh : has l b = true) (q n m : Nat) (g : Nat) (e1 : bx = some g) (e3 : p b = q + 1) (hn : l.length = n + 1) {o : Obj} {w2 : World} {v2 : Value} {bo2 : Option Nat}
    (HO : Own u16T w2 v2 (fsV fs ++ [.int .u16 ((q + 1 : Nat) : Int)]) bo2) (HM : Mod (fun k => bf = some k) (((w.setCell ⟨g, q, none⟩ (.int .i64 0)).alloc o).drewN m) w2) (HN : NewOr (((w.setCell ⟨g, q, none⟩ (.int .i64 0)).alloc o).drewN m) bf bo2) :
    bdropPost r rm l b (bdS r bx bf) w (.returned (.int .i64 0)) (((w2.setCell ⟨r, 259, none⟩ v2).setCell ⟨r, 2 + b, none⟩ (.int .u16 ((0 : Nat) : Int))).setCell ⟨r, 1, none⟩ (.int .i64 (n : Nat))) := by
  have hgr : g ≠ r := fun e => h.neX (by rw [e1, e])
  have hfg : bf ≠ some g := h.neXF g e1
  have hp := h.pl.drop hb hh (.int .i64 0) rfl
  rw [show p b - 1 = q from by omega, e3] at hp
  have hgl : g < w.heap.size := by have ho := h.ownX; rw [e1] at ho; exact ho.lt
  have sz : ((w.setCell ⟨g, q, none⟩ (.int .i64 0)).alloc o).heap.size = w.heap.size + 1 := by simp [World.setCell]
  have old : ∀ k, k < w.heap.size → k ≠ g → bf ≠ some k → w2.heap[k]? = w.heap[k]? := fun k hk hkg hkf =>
    (HM.same k (by show k < ((w.setCell ⟨g, q, none⟩ (.int .i64 0)).alloc o).heap.size; omega) hkf).trans ((Below.heap_alloc _ _ _ (by simp [World.setCell]; exact hk)).trans (Below.heap_setCell _ _ _ _ hkg))
  have blk2 : w2.heap[r]? = some (.cells (bdL rm l.length p vx vf).toArray bdT (0, 0)) := (old r h.lt (fun e => hgr e.symm) h.neF).trans h.blk
  have hb2g : bo2 ≠ some g := by
    rcases HN with e | ⟨g', e, hg'⟩
    · rw [e]; exact hfg
    · rw [e]; intro e'; cases e'
      have hg2 : ((w.setCell ⟨g, q, none⟩ (.int .i64 0)).alloc o).heap.size ≤ g := hg'
      omega
  have hb2r : bo2 ≠ some r := by
    rcases HN with e | ⟨g', e, hg'⟩
    · rw [e]; exact h.neF
    · rw [e]; intro e'; cases e'
      have hg2 : ((w.setCell ⟨g, q, none⟩ (.int .i64 0)).alloc o).heap.size ≤ r := hg'
      have := h.lt
      omega
  have b1 := setCell_list w2 r 259 _ bdT v2 blk2
  rw [bdL_setF] at b1
  have k1 := setRow_heap w2 r _ (bdL rm l.length p vx v2).toArray _ _ blk2
  rw [← b1] at k1
  have b2 := setCell_list _ r (2 + b) _ bdT (.int .u16 ((0 : Nat) : Int)) k1
  rw [bdL_setA _ _ _ _ _ _ _ hb] at b2
  have k2 := setRow_heap _ r _ (bdL rm l.length (upd p b 0) vx v2).toArray _ _ k1
  rw [← b2] at k2
  have b3 := setCell_list _ r 1 _ bdT (.int .i64 (n : Nat)) k2
  rw [bdL_set1] at b3
  have k3 := setRow_heap _ r _ (bdL rm n (upd p b 0) vx v2).toArray _ _ k2
  rw [← b3] at k3
  have kS : ∀ k, k ≠ r → (((w2.setCell ⟨r, 259, none⟩ v2).setCell ⟨r, 2 + b, none⟩ (.int .u16 ((0 : Nat) : Int))).setCell ⟨r, 1, none⟩ (.int .i64 (n : Nat))).heap[k]? = w2.heap[k]? := fun k hk => by
    rw [Below.heap_setCell _ _ _ _ hk, Below.heap_setCell _ _ _ _ hk, Below.heap_setCell _ _ _ _ hk]
  have hlen : (kdel l b).length = n := by have := del_len h.pl.srt hh; omega
  refine ⟨rfl, _, ⟨_, vx, _, bx, v2, _, bo2, ⟨?_, ?_, ?_, h.neX, hb2r, fun g' e => by rw [e1] at e; cases e; exact hb2g, hp⟩, rfl⟩, ?_, fun k hk => ?_⟩
  · rw [hlen]; exact k3
  · have ho := h.ownX
    rw [e1] at ho ⊢
    refine (ho.set q (.int .i64 0)).keep fun g' e => ?_
    cases e
    rw [kS g hgr]
    exact (HM.same g (by show g < ((w.setCell ⟨g, q, none⟩ (.int .i64 0)).alloc o).heap.size; omega) hfg).trans (Below.heap_alloc _ _ _ (by simp [World.setCell]; exact hgl))
  · have : fsV (fs ++ [q + 1]) = fsV fs ++ [.int .u16 ((q + 1 : Nat) : Int)] := by simp [fsV]
    rw [this]
    exact HO.keep fun g' e => kS g' (fun e' => hb2r (by rw [e, e']))
  · have m1 : Mod (bdS r bx bf) w w2 := ((((Mod.refl (bdS r bx bf) w).setCell ⟨g, q, none⟩ (.int .i64 0) (fun _ => Or.inr (Or.inl e1))).alloc o).drewN m).then HM (fun i _ e => Or.inr (Or.inr e))
    exact ((m1.setCell ⟨r, _, none⟩ _ (fun _ => Or.inl rfl)).setCell ⟨r, _, none⟩ _ (fun _ => Or.inl rfl)).setCell ⟨r, _, none⟩ _ (fun _ => Or.inl rfl)
  · rcases hk with hk | hk | hk
    · exact Or.inl (Or.inl hk)
    · exact Or.inl (Or.inr (Or.inl hk))
    · rcases HN with e | ⟨g', e, hg'⟩
      · exact Or.inl (Or.inr (Or.inr (by rw [← e, hk])))
      · rw [hk] at e; cases e
        have hg2 : ((w.setCell ⟨g, q, none⟩ (.int .i64 0)).alloc o).heap.size ≤ k := hg'
        exact Or.inr (by omega)
set_option maxHeartbeats 1000000 in
set_option maxRecDepth 100000 in
theorem bd_drop_is (h : BdIs bdT elT u16T w r rm l p vx xs bx vf fs bf) (b : Nat) (hb : b < 256) (hh : has l b = true) : Calls Try.prog 141 #[.pointer (some ⟨r, 0, none⟩), .int .u8 b] w (bdropPost r rm l b (bdS r bx bf) w) := by
  have c0 := h.c0
  have c1 := h.c1
  have hr := h.r1
  have cA := h.cA b hb
  have hbi : (b : Int) < 256 := by omega
  obtain ⟨g, cap, q, v, e1, e2, e3, e4, e5, e6, e7, e8⟩ := h.here hb hh
  rw [e3, show ((q + 1 : Nat) : Int) = (q : Int) + 1 from by omega] at cA
  have cX := h.cX
  rw [e2] at cX
  have hx : xs.length ≤ 256 := by have := h.pl.leX; have := h.r256; omega
  have hgr : g ≠ r := fun e => h.neX (by rw [e1, e])
  have hgr2 : r ≠ g := fun e => hgr e.symm
  obtain ⟨n, hn⟩ : ∃ n, l.length = n + 1 := ⟨l.length - 1, by have := (has_yes hh).1; omega⟩
  rw [hn, show ((n + 1 : Nat) : Int) = (n : Int) + 1 from by omega] at c1
  have Hn := Lib.hid hn
  have HH := Lib.hid h
  have Hh := Lib.hid hh
  have He1 := Lib.hid e1
  have He3 := Lib.hid e3
  obtain ⟨af, cf, hvf⟩ := h.ownF.len
  have cF := h.cF
  rw [hvf] at cF
  have Hvf := Lib.hid hvf
  have hfl : Hid ((fsV fs).length ≤ 256) := by have := h.pl.cnt; show _ ≤ _; simp [fsV]; omega
  have hnn : n ≤ 256 := by have := h.pl.cnt; omega
  have frr := frozen_of_blk h.blk
  have hneF := Lib.hid h.neF
  have hlt := h.lt
  have hoF : ∀ o, Hid (Own u16T (((w.setCell ⟨g, q, none⟩ (.int .i64 0)).alloc o).drew.drew) (.slice af (fsV fs).length cf) (fsV fs) bf) := fun o => by
    have ho := h.ownF
    rw [hvf] at ho
    refine ho.keep fun g' e => ?_
    have hl : g' < w.heap.size := by have ho := h.ownF; rw [e] at ho; exact ho.lt
    exact (Below.heap_alloc _ _ _ (by simp [World.setCell]; exact hl)).trans (Below.heap_setCell _ _ _ _ (fun e' => h.neXF g e1 (by rw [e, e'])))
  have hnw : Hid (∀ j u, [Value.int .u16 ((q : Int) + 1)][j]? = some u → (((w.setCell ⟨g, q, none⟩ (.int .i64 0)).alloc (.cells #[.int .u16 ((q : Int) + 1)] u16T)).drew.drew).cell? ((⟨w.heap.size, 0, none⟩ : Addr).add j) = some u) := by
    have := cell_one_new (w.setCell ⟨g, q, none⟩ (.int .i64 0)) (.int .u16 ((q : Int) + 1)) u16T
    rw [show (w.setCell ⟨g, q, none⟩ (.int .i64 0)).heap.size = w.heap.size from by simp [World.setCell]] at this
    exact this
  have hon : Hid (∀ u ∈ ([.int .u16 ((q : Int) + 1)] : List Value), u.oneCell' = true) := by intro u hu; simp at hu; rw [hu]; rfl
  have hb1 : Hid ((fsV fs).length + 1 ≤ maxLen) := by show _ ≤ _; have := hfl.out; simp only [maxLen]; omega
  have hb2 : Hid (((fsV fs).length + 1) * 2 ≤ 140737488355328) := by show _ ≤ _; have := hfl.out; omega
  have sz : Hid (∀ o, ((w.setCell ⟨g, q, none⟩ (.int .i64 0)).alloc o).drew.drew.heap.size = w.heap.size + 1) := fun o => by simp [World.setCell]
  generalize hfk : (fsV fs).length = fk at *
  have Hfk := Lib.hid hfk
  clear hfk
  generalize xs.length = k at *
  have hq0 : ((q : Int) + 1 == 0) = false := beq_eq_false_iff_ne.mpr (by omega)
  have hq1 : (q : Int) < (k : Int) := by omega
  have hq2 : (q : Int) ≤ 256 := by omega
  clear h hh e1 e2 e3 e7 hn hvf
  go_enter Try.func141, Try.ntmps141
  go_wp2_with (go_at_call 184; refine (bok_yes _ _ _ c0 hr).mono ?_; rintro e w' ⟨rfl, rfl⟩)
  have k1 : IntKind.u16.wrap ((q : Int) + 1 - 1) = (q : Int) := by rw [IntWalk.u16_in _ (by omega)]; omega
  go_region
  clear k1
  go_wp2_with fail
  go_region_law (refine step_append_at rfl (.tmp 35) (.tmp 42) 186 rfl u16T (.int .u16 0) 2 underU infoU rfl _ rfl (fsV fs) bf (hoF _).out ⟨w.heap.size, 0, none⟩ 1 1 [.int .u16 ((q : Int) + 1)] rfl rfl hnw.out hon.out (by rw [Hfk.out]; exact hb1.out) (by rw [Hfk.out]; exact hb2.out) ?_; intro v2 w2 bo2 HO HM HN; obtain ⟨a2, c2, rfl⟩ := HO.out.len; rw [List.length_append] at HO; have hh2 := Lib.hid ((HM.out.same r (by rw [sz.out]; omega) hneF.out).trans ((Below.heap_alloc _ _ _ (by simp [World.setCell]; exact hlt)).trans (Below.heap_setCell _ _ _ _ hgr2))); have d1 := (World.cell?_of_block (a := ⟨r, 259, none⟩) hh2.out).trans cF; have d2 := (World.cell?_of_block (a := ⟨r, 1, none⟩) hh2.out).trans c1; have d3 := (World.cell?_of_block (a := ⟨r, 2 + b, none⟩) hh2.out).trans cA; have d4 : ∀ j, w2.frozen? ⟨r, j, none⟩ = false := fun j => (World.frozen?_of_block (a := ⟨r, j, none⟩) hh2.out).trans (frr j))
  all_goals
    go_wp2_with fail
    go_ret
    exact bdrop_end HH.out b hb Hh.out q n 2 g He1.out He3.out Hn.out HO.out HM.out HN.out
end I

namespace N
variable {w : World} {r rm : Nat} {l : KV} {p : Nat → Nat} {vx : Value} {xs : List Value} {bx : Option Nat} {vf : Value} {fs : List Nat} {bf : Option Nat}
set_option maxHeartbeats 1000000 in
set_option maxRecDepth 100000 in
theorem bd_drop_none (h : BdIs bdT elT u16T w r rm l p vx xs bx vf fs bf) (b : Nat) (hb : b < 256) (hh : has l b = false) : Calls Try.prog 160 #[.pointer (some ⟨r, 0, none⟩), .int .u8 b] w fun e w' => e = .returned (.int .i64 6) ∧ w = w' := by
  have c0 := h.c0
  have hr := h.r1
  have cA := h.cA b hb
  rw [(h.pl.zero b hb).2 hh] at cA
  have cA' : w.cell? ⟨r, 2 + b, none⟩ = some (.int .u16 0) := cA
  have hbi : (b : Int) < 256 := by omega
  clear h hh cA
  go_enter Try.func160, Try.ntmps160
  go_wp2_with (go_at_call 194; refine (bok_yes _ _ _ c0 hr).mono ?_; rintro e w' ⟨rfl, rfl⟩)
  go_ret
  exact ⟨rfl, rfl⟩
def bdropPost (r rm : Nat) (l : KV) (b : Nat) (S : Nat → Prop) (w : World) (e : Ending) (w' : World) : Prop := e = .returned (.int .i64 0) ∧ ∃ S', BdAt bdT elT u16T w' r rm (kdel l b) S' ∧ Mod S w w' ∧ ∀ k, S' k → S k ∨ w.heap.size ≤ k
theorem bdrop_end (h : BdIs bdT elT u16T w r rm l p vx xs bx vf fs bf) (b : Nat) (hb : b < 256) (hh : has l b = true) (q n m : Nat) (g : Nat) (e1 : bx = some g) (e3 : p b = q + 1) (hn : l.length = n + 1) {o : Obj} {w2 : World} {v2 : Value} {bo2 : Option Nat}
    (HO : Own u16T w2 v2 (fsV fs ++ [.int .u16 ((q + 1 : Nat) : Int)]) bo2) (HM : Mod (fun k => bf = some k) (((w.setCell ⟨g, q, none⟩ (.pointer none)).alloc o).drewN m) w2) (HN : NewOr (((w.setCell ⟨g, q, none⟩ (.pointer none)).alloc o).drewN m) bf bo2) :
    bdropPost r rm l b (bdS r bx bf) w (.returned (.int .i64 0)) (((w2.setCell ⟨r, 259, none⟩ v2).setCell ⟨r, 2 + b, none⟩ (.int .u16 ((0 : Nat) : Int))).setCell ⟨r, 1, none⟩ (.int .i64 (n : Nat))) := by
  have hgr : g ≠ r := fun e => h.neX (by rw [e1, e])
  have hfg : bf ≠ some g := h.neXF g e1
  have hp := h.pl.drop hb hh (.pointer none) rfl
  rw [show p b - 1 = q from by omega, e3] at hp
  have hgl : g < w.heap.size := by have ho := h.ownX; rw [e1] at ho; exact ho.lt
  have sz : ((w.setCell ⟨g, q, none⟩ (.pointer none)).alloc o).heap.size = w.heap.size + 1 := by simp [World.setCell]
  have old : ∀ k, k < w.heap.size → k ≠ g → bf ≠ some k → w2.heap[k]? = w.heap[k]? := fun k hk hkg hkf =>
    (HM.same k (by show k < ((w.setCell ⟨g, q, none⟩ (.pointer none)).alloc o).heap.size; omega) hkf).trans ((Below.heap_alloc _ _ _ (by simp [World.setCell]; exact hk)).trans (Below.heap_setCell _ _ _ _ hkg))
  have blk2 : w2.heap[r]? = some (.cells (bdL rm l.length p vx vf).toArray bdT (0, 0)) := (old r h.lt (fun e => hgr e.symm) h.neF).trans h.blk
  have hb2g : bo2 ≠ some g := by
    rcases HN with e | ⟨g', e, hg'⟩
    · rw [e]; exact hfg
    · rw [e]; intro e'; cases e'
      have hg2 : ((w.setCell ⟨g, q, none⟩ (.pointer none)).alloc o).heap.size ≤ g := hg'
      omega
  have hb2r : bo2 ≠ some r := by
    rcases HN with e | ⟨g', e, hg'⟩
    · rw [e]; exact h.neF
    · rw [e]; intro e'; cases e'
      have hg2 : ((w.setCell ⟨g, q, none⟩ (.pointer none)).alloc o).heap.size ≤ r := hg'
      have := h.lt
      omega
  have b1 := setCell_list w2 r 259 _ bdT v2 blk2
  rw [bdL_setF] at b1
  have k1 := setRow_heap w2 r _ (bdL rm l.length p vx v2).toArray _ _ blk2
  rw [← b1] at k1
  have b2 := setCell_list _ r (2 + b) _ bdT (.int .u16 ((0 : Nat) : Int)) k1
  rw [bdL_setA _ _ _ _ _ _ _ hb] at b2
  have k2 := setRow_heap _ r _ (bdL rm l.length (upd p b 0) vx v2).toArray _ _ k1
  rw [← b2] at k2
  have b3 := setCell_list _ r 1 _ bdT (.int .i64 (n : Nat)) k2
  rw [bdL_set1] at b3
  have k3 := setRow_heap _ r _ (bdL rm n (upd p b 0) vx v2).toArray _ _ k2
  rw [← b3] at k3
  have kS : ∀ k, k ≠ r → (((w2.setCell ⟨r, 259, none⟩ v2).setCell ⟨r, 2 + b, none⟩ (.int .u16 ((0 : Nat) : Int))).setCell ⟨r, 1, none⟩ (.int .i64 (n : Nat))).heap[k]? = w2.heap[k]? := fun k hk => by
    rw [Below.heap_setCell _ _ _ _ hk, Below.heap_setCell _ _ _ _ hk, Below.heap_setCell _ _ _ _ hk]
  have hlen : (kdel l b).length = n := by have := del_len h.pl.srt hh; omega
  refine ⟨rfl, _, ⟨_, vx, _, bx, v2, _, bo2, ⟨?_, ?_, ?_, h.neX, hb2r, fun g' e => by rw [e1] at e; cases e; exact hb2g, hp⟩, rfl⟩, ?_, fun k hk => ?_⟩
  · rw [hlen]; exact k3
  · have ho := h.ownX
    rw [e1] at ho ⊢
    refine (ho.set q (.pointer none)).keep fun g' e => ?_
    cases e
    rw [kS g hgr]
    exact (HM.same g (by show g < ((w.setCell ⟨g, q, none⟩ (.pointer none)).alloc o).heap.size; omega) hfg).trans (Below.heap_alloc _ _ _ (by simp [World.setCell]; exact hgl))
  · have : fsV (fs ++ [q + 1]) = fsV fs ++ [.int .u16 ((q + 1 : Nat) : Int)] := by simp [fsV]
    rw [this]
    exact HO.keep fun g' e => kS g' (fun e' => hb2r (by rw [e, e']))
  · have m1 : Mod (bdS r bx bf) w w2 := ((((Mod.refl (bdS r bx bf) w).setCell ⟨g, q, none⟩ (.pointer none) (fun _ => Or.inr (Or.inl e1))).alloc o).drewN m).then HM (fun i _ e => Or.inr (Or.inr e))
    exact ((m1.setCell ⟨r, _, none⟩ _ (fun _ => Or.inl rfl)).setCell ⟨r, _, none⟩ _ (fun _ => Or.inl rfl)).setCell ⟨r, _, none⟩ _ (fun _ => Or.inl rfl)
  · rcases hk with hk | hk | hk
    · exact Or.inl (Or.inl hk)
    · exact Or.inl (Or.inr (Or.inl hk))
    · rcases HN with e | ⟨g', e, hg'⟩
      · exact Or.inl (Or.inr (Or.inr (by rw [← e, hk])))
      · rw [hk] at e; cases e
        have hg2 : ((w.setCell ⟨g, q, none⟩ (.pointer none)).alloc o).heap.size ≤ k := hg'
        exact Or.inr (by omega)
set_option maxHeartbeats 1000000 in
set_option maxRecDepth 100000 in
theorem bd_drop_is (h : BdIs bdT elT u16T w r rm l p vx xs bx vf fs bf) (b : Nat) (hb : b < 256) (hh : has l b = true) : Calls Try.prog 160 #[.pointer (some ⟨r, 0, none⟩), .int .u8 b] w (bdropPost r rm l b (bdS r bx bf) w) := by
  have c0 := h.c0
  have c1 := h.c1
  have hr := h.r1
  have cA := h.cA b hb
  have hbi : (b : Int) < 256 := by omega
  obtain ⟨g, cap, q, v, e1, e2, e3, e4, e5, e6, e7, e8⟩ := h.here hb hh
  rw [e3, show ((q + 1 : Nat) : Int) = (q : Int) + 1 from by omega] at cA
  have cX := h.cX
  rw [e2] at cX
  have hx : xs.length ≤ 256 := by have := h.pl.leX; have := h.r256; omega
  have hgr : g ≠ r := fun e => h.neX (by rw [e1, e])
  have hgr2 : r ≠ g := fun e => hgr e.symm
  obtain ⟨n, hn⟩ : ∃ n, l.length = n + 1 := ⟨l.length - 1, by have := (has_yes hh).1; omega⟩
  rw [hn, show ((n + 1 : Nat) : Int) = (n : Int) + 1 from by omega] at c1
  have Hn := Lib.hid hn
  have HH := Lib.hid h
  have Hh := Lib.hid hh
  have He1 := Lib.hid e1
  have He3 := Lib.hid e3
  obtain ⟨af, cf, hvf⟩ := h.ownF.len
  have cF := h.cF
  rw [hvf] at cF
  have Hvf := Lib.hid hvf
  have hfl : Hid ((fsV fs).length ≤ 256) := by have := h.pl.cnt; show _ ≤ _; simp [fsV]; omega
  have hnn : n ≤ 256 := by have := h.pl.cnt; omega
  have frr := frozen_of_blk h.blk
  have hneF := Lib.hid h.neF
  have hlt := h.lt
  have hoF : ∀ o, Hid (Own u16T (((w.setCell ⟨g, q, none⟩ (.pointer none)).alloc o).drew.drew) (.slice af (fsV fs).length cf) (fsV fs) bf) := fun o => by
    have ho := h.ownF
    rw [hvf] at ho
    refine ho.keep fun g' e => ?_
    have hl : g' < w.heap.size := by have ho := h.ownF; rw [e] at ho; exact ho.lt
    exact (Below.heap_alloc _ _ _ (by simp [World.setCell]; exact hl)).trans (Below.heap_setCell _ _ _ _ (fun e' => h.neXF g e1 (by rw [e, e'])))
  have hnw : Hid (∀ j u, [Value.int .u16 ((q : Int) + 1)][j]? = some u → (((w.setCell ⟨g, q, none⟩ (.pointer none)).alloc (.cells #[.int .u16 ((q : Int) + 1)] u16T)).drew.drew).cell? ((⟨w.heap.size, 0, none⟩ : Addr).add j) = some u) := by
    have := cell_one_new (w.setCell ⟨g, q, none⟩ (.pointer none)) (.int .u16 ((q : Int) + 1)) u16T
    rw [show (w.setCell ⟨g, q, none⟩ (.pointer none)).heap.size = w.heap.size from by simp [World.setCell]] at this
    exact this
  have hon : Hid (∀ u ∈ ([.int .u16 ((q : Int) + 1)] : List Value), u.oneCell' = true) := by intro u hu; simp at hu; rw [hu]; rfl
  have hb1 : Hid ((fsV fs).length + 1 ≤ maxLen) := by show _ ≤ _; have := hfl.out; simp only [maxLen]; omega
  have hb2 : Hid (((fsV fs).length + 1) * 2 ≤ 140737488355328) := by show _ ≤ _; have := hfl.out; omega
  have sz : Hid (∀ o, ((w.setCell ⟨g, q, none⟩ (.pointer none)).alloc o).drew.drew.heap.size = w.heap.size + 1) := fun o => by simp [World.setCell]
  generalize hfk : (fsV fs).length = fk at *
  have Hfk := Lib.hid hfk
  clear hfk
  generalize xs.length = k at *
  have hq0 : ((q : Int) + 1 == 0) = false := beq_eq_false_iff_ne.mpr (by omega)
  have hq1 : (q : Int) < (k : Int) := by omega
  have hq2 : (q : Int) ≤ 256 := by omega
  clear h hh e1 e2 e3 e7 hn hvf
  go_enter Try.func160, Try.ntmps160
  go_wp2_with (go_at_call 194; refine (bok_yes _ _ _ c0 hr).mono ?_; rintro e w' ⟨rfl, rfl⟩)
  have k1 : IntKind.u16.wrap ((q : Int) + 1 - 1) = (q : Int) := by rw [IntWalk.u16_in _ (by omega)]; omega
  go_region
  clear k1
  go_wp2_with fail
  go_region_law (refine step_append_at rfl (.tmp 35) (.tmp 42) 186 rfl u16T (.int .u16 0) 2 underU infoU rfl _ rfl (fsV fs) bf (hoF _).out ⟨w.heap.size, 0, none⟩ 1 1 [.int .u16 ((q : Int) + 1)] rfl rfl hnw.out hon.out (by rw [Hfk.out]; exact hb1.out) (by rw [Hfk.out]; exact hb2.out) ?_; intro v2 w2 bo2 HO HM HN; obtain ⟨a2, c2, rfl⟩ := HO.out.len; rw [List.length_append] at HO; have hh2 := Lib.hid ((HM.out.same r (by rw [sz.out]; omega) hneF.out).trans ((Below.heap_alloc _ _ _ (by simp [World.setCell]; exact hlt)).trans (Below.heap_setCell _ _ _ _ hgr2))); have d1 := (World.cell?_of_block (a := ⟨r, 259, none⟩) hh2.out).trans cF; have d2 := (World.cell?_of_block (a := ⟨r, 1, none⟩) hh2.out).trans c1; have d3 := (World.cell?_of_block (a := ⟨r, 2 + b, none⟩) hh2.out).trans cA; have d4 : ∀ j, w2.frozen? ⟨r, j, none⟩ = false := fun j => (World.frozen?_of_block (a := ⟨r, j, none⟩) hh2.out).trans (frr j))
  all_goals
    go_wp2_with fail
    go_ret
    exact bdrop_end HH.out b hb Hh.out q n 2 g He1.out He3.out Hn.out HO.out HM.out HN.out
end N
end Go.Proofs.Ytkonbldjmcccmaa
