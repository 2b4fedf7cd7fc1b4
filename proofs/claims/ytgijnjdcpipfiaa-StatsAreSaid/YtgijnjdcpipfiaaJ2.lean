/- Boards: Drop, Copy; Boards: Copy; Kids: what they are in memory; the calls that only read; Kids: KindOf, room, New, put; Sorted lists of bytes and things: what is below a byte; how many there may be; kinds; Kids: room of the greater kinds, New, put; Kids: move; Kids: Set and Drop; Kids: Drop and Copy; Kids: Copy; Kids that nobody made; Kids: alive (spunyarnlaw11): five, and four again; Two and three kids side by side, made since a world w0; Bytes that a slice has ahead; A slice of bytes that came in: the bytes that it has ahead; The document's Common, Cmp, Same (spunyarnref01) of bytes; Plain trees: pairs that rise, trees of parts; what is looked for in a tree is what its pairs have. No program; Meters: what is made is counted; A nil node: what it answers; bytes.Clone of bytes that came in, or were made. -/
import Derived.Test.YtgijnjdcpipfiaaJ1
import Derived.Lib.SliceRun
import Derived.Deep.WholeRow
import Derived.StillTailTactics
import Derived.Laws.LoneSync
set_option linter.unusedVariables false
set_option linter.unusedSimpArgs false
/- Boards: Drop, Copy. -/
namespace Go.Proofs.Ytgijnjdcpipfiaa
open Go.RowKit
namespace I
variable {w : World} {r rm : Nat} {l : KV} {p : Nat → Nat} {vx : Value} {xs : List Value} {bx : Option Nat} {vf : Value} {fs : List Nat} {bf : Option Nat}
set_option maxHeartbeats 1000000 in
set_option maxRecDepth 100000 in
theorem bd_drop_none (h : BdIs bdT elT u16T w r rm l p vx xs bx vf fs bf) (b : Nat) (hb : b < 256) (hh : has l b = false) : Calls Try.prog 79 #[.pointer (some ⟨r, 0, none⟩), .int .u8 b] w fun e w' => e = .returned (.int .i64 6) ∧ w = w' := by
  have c0 := h.c0
  have hr := h.r1
  have cA := h.cA b hb
  rw [(h.pl.zero b hb).2 hh] at cA
  have cA' : w.cell? ⟨r, 2 + b, none⟩ = some (.int .u16 0) := cA
  have hbi : (b : Int) < 256 := by omega
  clear h hh cA
  go_enter Try.func79, Try.ntmps79
  go_wp2_with (go_at_call 117; refine (bok_yes _ _ _ c0 hr).mono ?_; rintro e w' ⟨rfl, rfl⟩)
  go_ret
  exact ⟨rfl, rfl⟩
def bdropPost (r rm : Nat) (l : KV) (b : Nat) (S : Nat → Prop) (w : World) (e : Ending) (w' : World) : Prop := e = .returned (.int .i64 0) ∧ ∃ S', BdAt bdT elT u16T w' r rm (kdel l b) S' ∧ Mod S w w' ∧ ∀ k, S' k → S k ∨ w.heap.size ≤ k
theorem bdrop_end (h : BdIs bdT elT u16T w r rm l p vx xs bx vf fs bf) (b : Nat) (hb : b < 256) (hh : has l b = true) (q n m : Nat) (g : Nat) (e1 : bx = some g) (e3 : p b = q + 1) (hn : l.length = n + 1) {o : Obj} {w2 : World} {v2 : Value} {bo2 : Option Nat}
    (HO : Own u16T w2 v2 (fsV fs ++ [.int .u16 ((q + 1 : Nat) : Int)]) bo2) (HM : Mod (fun k => bf = some k) (((w.setCell ⟨g, q, none⟩ (.int .i64 0)).alloc o).drewN m) w2) (HN : NewOr (((w.setCell ⟨g, q, none⟩ (.int .i64 0)).alloc o).drewN m) bf bo2) :
    bdropPost r rm l b (bdS r bx bf) w (.returned (.int .i64 0)) (((w2.setCell ⟨r, 259, none⟩ v2).setCell ⟨r, 2 + b, none⟩ (.int .u16 ((0 : Nat) : Int))).setCell ⟨r, 1, none⟩ (.int .i64 (n : Nat))) := by
  have hgr : g ≠ r := fun e => h.neX (by rw [e1, e])
  have hfg : bf ≠ some g := h.neXF g e1
  have hp := h.pl.drop hb hh (.int .i64 0) rfl
  rw [show p b - 1 = q from by omega, e3] at hp
  have hgl : g < w.heap.size := by have ho := h.ownX; rw [e1] at ho; exact ho.lt
  have sz : ((w.setCell ⟨g, q, none⟩ (.int .i64 0)).alloc o).heap.size = w.heap.size + 1 := by simp [World.setCell]
  have old : ∀ k, k < w.heap.size → k ≠ g → bf ≠ some k → w2.heap[k]? = w.heap[k]? := fun k hk hkg hkf =>
    (HM.same k (by show k < ((w.setCell ⟨g, q, none⟩ (.int .i64 0)).alloc o).heap.size; omega) hkf).trans ((Below.heap_alloc _ _ _ (by simp [World.setCell]; exact hk)).trans (Below.heap_setCell _ _ _ _ hkg))
  have blk2 : w2.heap[r]? = some (.cells (bdL rm l.length p vx vf).toArray bdT (0, 0)) := (old r h.lt (fun e => hgr e.symm) h.neF).trans h.blk
  have hb2g : bo2 ≠ some g := by
    rcases HN with e | ⟨g', e, hg'⟩
    · rw [e]; exact hfg
    · rw [e]; intro e'; cases e'
      have hg2 : ((w.setCell ⟨g, q, none⟩ (.int .i64 0)).alloc o).heap.size ≤ g := hg'
      omega
  have hb2r : bo2 ≠ some r := by
    rcases HN with e | ⟨g', e, hg'⟩
    · rw [e]; exact h.neF
    · rw [e]; intro e'; cases e'
      have hg2 : ((w.setCell ⟨g, q, none⟩ (.int .i64 0)).alloc o).heap.size ≤ r := hg'
      have := h.lt
      omega
  have b1 := setCell_list w2 r 259 _ bdT v2 blk2
  rw [bdL_setF] at b1
  have k1 := setRow_heap w2 r _ (bdL rm l.length p vx v2).toArray _ _ blk2
  rw [← b1] at k1
  have b2 := setCell_list _ r (2 + b) _ bdT (.int .u16 ((0 : Nat) : Int)) k1
  rw [bdL_setA _ _ _ _ _ _ _ hb] at b2
  have k2 := setRow_heap _ r _ (bdL rm l.length (upd p b 0) vx v2).toArray _ _ k1
  rw [← b2] at k2
  have b3 := setCell_list _ r 1 _ bdT (.int .i64 (n : Nat)) k2
  rw [bdL_set1] at b3
  have k3 := setRow_heap _ r _ (bdL rm n (upd p b 0) vx v2).toArray _ _ k2
  rw [← b3] at k3
  have kS : ∀ k, k ≠ r → (((w2.setCell ⟨r, 259, none⟩ v2).setCell ⟨r, 2 + b, none⟩ (.int .u16 ((0 : Nat) : Int))).setCell ⟨r, 1, none⟩ (.int .i64 (n : Nat))).heap[k]? = w2.heap[k]? := fun k hk => by
    rw [Below.heap_setCell _ _ _ _ hk, Below.heap_setCell _ _ _ _ hk, Below.heap_setCell _ _ _ _ hk]
  have hlen : (kdel l b).length = n := by have := del_len h.pl.srt hh; omega
  refine ⟨rfl, _, ⟨_, vx, _, bx, v2, _, bo2, ⟨?_, ?_, ?_, h.neX, hb2r, fun g' e => by rw [e1] at e; cases e; exact hb2g, hp⟩, rfl⟩, ?_, fun k hk => ?_⟩
  · rw [hlen]; exact k3
  · have ho := h.ownX
    rw [e1] at ho ⊢
    refine (ho.set q (.int .i64 0)).keep fun g' e => ?_
    cases e
    rw [kS g hgr]
    exact (HM.same g (by show g < ((w.setCell ⟨g, q, none⟩ (.int .i64 0)).alloc o).heap.size; omega) hfg).trans (Below.heap_alloc _ _ _ (by simp [World.setCell]; exact hgl))
  · have : fsV (fs ++ [q + 1]) = fsV fs ++ [.int .u16 ((q + 1 : Nat) : Int)] := by simp [fsV]
    rw [this]
    exact HO.keep fun g' e => kS g' (fun e' => hb2r (by rw [e, e']))
  · have m1 : Mod (bdS r bx bf) w w2 := ((((Mod.refl (bdS r bx bf) w).setCell ⟨g, q, none⟩ (.int .i64 0) (fun _ => Or.inr (Or.inl e1))).alloc o).drewN m).then HM (fun i _ e => Or.inr (Or.inr e))
    exact ((m1.setCell ⟨r, _, none⟩ _ (fun _ => Or.inl rfl)).setCell ⟨r, _, none⟩ _ (fun _ => Or.inl rfl)).setCell ⟨r, _, none⟩ _ (fun _ => Or.inl rfl)
  · rcases hk with hk | hk | hk
    · exact Or.inl (Or.inl hk)
    · exact Or.inl (Or.inr (Or.inl hk))
    · rcases HN with e | ⟨g', e, hg'⟩
      · exact Or.inl (Or.inr (Or.inr (by rw [← e, hk])))
      · rw [hk] at e; cases e
        have hg2 : ((w.setCell ⟨g, q, none⟩ (.int .i64 0)).alloc o).heap.size ≤ k := hg'
        exact Or.inr (by omega)
set_option maxHeartbeats 1000000 in
set_option maxRecDepth 100000 in
theorem bd_drop_is (h : BdIs bdT elT u16T w r rm l p vx xs bx vf fs bf) (b : Nat) (hb : b < 256) (hh : has l b = true) : Calls Try.prog 79 #[.pointer (some ⟨r, 0, none⟩), .int .u8 b] w (bdropPost r rm l b (bdS r bx bf) w) := by
  have c0 := h.c0
  have c1 := h.c1
  have hr := h.r1
  have cA := h.cA b hb
  have hbi : (b : Int) < 256 := by omega
  obtain ⟨g, cap, q, v, e1, e2, e3, e4, e5, e6, e7, e8⟩ := h.here hb hh
  rw [e3, show ((q + 1 : Nat) : Int) = (q : Int) + 1 from by omega] at cA
  have cX := h.cX
  rw [e2] at cX
  have hx : xs.length ≤ 256 := by have := h.pl.leX; have := h.r256; omega
  have hgr : g ≠ r := fun e => h.neX (by rw [e1, e])
  have hgr2 : r ≠ g := fun e => hgr e.symm
  obtain ⟨n, hn⟩ : ∃ n, l.length = n + 1 := ⟨l.length - 1, by have := (has_yes hh).1; omega⟩
  rw [hn, show ((n + 1 : Nat) : Int) = (n : Int) + 1 from by omega] at c1
  have Hn := Lib.hid hn
  have HH := Lib.hid h
  have Hh := Lib.hid hh
  have He1 := Lib.hid e1
  have He3 := Lib.hid e3
  obtain ⟨af, cf, hvf⟩ := h.ownF.len
  have cF := h.cF
  rw [hvf] at cF
  have Hvf := Lib.hid hvf
  have hfl : Hid ((fsV fs).length ≤ 256) := by have := h.pl.cnt; show _ ≤ _; simp [fsV]; omega
  have hnn : n ≤ 256 := by have := h.pl.cnt; omega
  have frr := frozen_of_blk h.blk
  have hneF := Lib.hid h.neF
  have hlt := h.lt
  have hoF : ∀ o, Hid (Own u16T (((w.setCell ⟨g, q, none⟩ (.int .i64 0)).alloc o).drew.drew) (.slice af (fsV fs).length cf) (fsV fs) bf) := fun o => by
    have ho := h.ownF
    rw [hvf] at ho
    refine ho.keep fun g' e => ?_
    have hl : g' < w.heap.size := by have ho := h.ownF; rw [e] at ho; exact ho.lt
    exact (Below.heap_alloc _ _ _ (by simp [World.setCell]; exact hl)).trans (Below.heap_setCell _ _ _ _ (fun e' => h.neXF g e1 (by rw [e, e'])))
  have hnw : Hid (∀ j u, [Value.int .u16 ((q : Int) + 1)][j]? = some u → (((w.setCell ⟨g, q, none⟩ (.int .i64 0)).alloc (.cells #[.int .u16 ((q : Int) + 1)] u16T)).drew.drew).cell? ((⟨w.heap.size, 0, none⟩ : Addr).add j) = some u) := by
    have := cell_one_new (w.setCell ⟨g, q, none⟩ (.int .i64 0)) (.int .u16 ((q : Int) + 1)) u16T
    rw [show (w.setCell ⟨g, q, none⟩ (.int .i64 0)).heap.size = w.heap.size from by simp [World.setCell]] at this
    exact this
  have hon : Hid (∀ u ∈ ([.int .u16 ((q : Int) + 1)] : List Value), u.oneCell' = true) := by intro u hu; simp at hu; rw [hu]; rfl
  have hb1 : Hid ((fsV fs).length + 1 ≤ maxLen) := by show _ ≤ _; have := hfl.out; simp only [maxLen]; omega
  have hb2 : Hid (((fsV fs).length + 1) * 2 ≤ 140737488355328) := by show _ ≤ _; have := hfl.out; omega
  have sz : Hid (∀ o, ((w.setCell ⟨g, q, none⟩ (.int .i64 0)).alloc o).drew.drew.heap.size = w.heap.size + 1) := fun o => by simp [World.setCell]
  generalize hfk : (fsV fs).length = fk at *
  have Hfk := Lib.hid hfk
  clear hfk
  generalize xs.length = k at *
  have hq0 : ((q : Int) + 1 == 0) = false := beq_eq_false_iff_ne.mpr (by omega)
  have hq1 : (q : Int) < (k : Int) := by omega
  have hq2 : (q : Int) ≤ 256 := by omega
  clear h hh e1 e2 e3 e7 hn hvf
  go_enter Try.func79, Try.ntmps79
  go_wp2_with (go_at_call 117; refine (bok_yes _ _ _ c0 hr).mono ?_; rintro e w' ⟨rfl, rfl⟩)
  have k1 : IntKind.u16.wrap ((q : Int) + 1 - 1) = (q : Int) := by rw [IntWalk.u16_in _ (by omega)]; omega
  go_region
  clear k1
  go_wp2_with fail
  go_region_law (refine step_append_at rfl (.tmp 35) (.tmp 42) 148 rfl u16T (.int .u16 0) 2 underU infoU rfl _ rfl (fsV fs) bf (hoF _).out ⟨w.heap.size, 0, none⟩ 1 1 [.int .u16 ((q : Int) + 1)] rfl rfl hnw.out hon.out (by rw [Hfk.out]; exact hb1.out) (by rw [Hfk.out]; exact hb2.out) ?_; intro v2 w2 bo2 HO HM HN; obtain ⟨a2, c2, rfl⟩ := HO.out.len; rw [List.length_append] at HO; have hh2 := Lib.hid ((HM.out.same r (by rw [sz.out]; omega) hneF.out).trans ((Below.heap_alloc _ _ _ (by simp [World.setCell]; exact hlt)).trans (Below.heap_setCell _ _ _ _ hgr2))); have d1 := (World.cell?_of_block (a := ⟨r, 259, none⟩) hh2.out).trans cF; have d2 := (World.cell?_of_block (a := ⟨r, 1, none⟩) hh2.out).trans c1; have d3 := (World.cell?_of_block (a := ⟨r, 2 + b, none⟩) hh2.out).trans cA; have d4 : ∀ j, w2.frozen? ⟨r, j, none⟩ = false := fun j => (World.frozen?_of_block (a := ⟨r, j, none⟩) hh2.out).trans (frr j))
  all_goals
    go_wp2_with fail
    go_ret
    exact bdrop_end HH.out b hb Hh.out q n 2 g He1.out He3.out Hn.out HO.out HM.out HN.out
end I

namespace N
variable {w : World} {r rm : Nat} {l : KV} {p : Nat → Nat} {vx : Value} {xs : List Value} {bx : Option Nat} {vf : Value} {fs : List Nat} {bf : Option Nat}
set_option maxHeartbeats 1000000 in
set_option maxRecDepth 100000 in
theorem bd_drop_none (h : BdIs bdT elT u16T w r rm l p vx xs bx vf fs bf) (b : Nat) (hb : b < 256) (hh : has l b = false) : Calls Try.prog 98 #[.pointer (some ⟨r, 0, none⟩), .int .u8 b] w fun e w' => e = .returned (.int .i64 6) ∧ w = w' := by
  have c0 := h.c0
  have hr := h.r1
  have cA := h.cA b hb
  rw [(h.pl.zero b hb).2 hh] at cA
  have cA' : w.cell? ⟨r, 2 + b, none⟩ = some (.int .u16 0) := cA
  have hbi : (b : Int) < 256 := by omega
  clear h hh cA
  go_enter Try.func98, Try.ntmps98
  go_wp2_with (go_at_call 127; refine (bok_yes _ _ _ c0 hr).mono ?_; rintro e w' ⟨rfl, rfl⟩)
  go_ret
  exact ⟨rfl, rfl⟩
def bdropPost (r rm : Nat) (l : KV) (b : Nat) (S : Nat → Prop) (w : World) (e : Ending) (w' : World) : Prop := e = .returned (.int .i64 0) ∧ ∃ S', BdAt bdT elT u16T w' r rm (kdel l b) S' ∧ Mod S w w' ∧ ∀ k, S' k → S k ∨ w.heap.size ≤ k
theorem bdrop_end (h : BdIs bdT elT u16T w r rm l p vx xs bx vf fs bf) (b : Nat) (hb : b < 256) (hh : has l b = true) (q n m : Nat) (g : Nat) (e1 : bx = some g) (e3 : p b = q + 1) (hn : l.length = n + 1) {o : Obj} {w2 : World} {v2 : Value} {bo2 : Option Nat}
    (HO : Own u16T w2 v2 (fsV fs ++ [.int .u16 ((q + 1 : Nat) : Int)]) bo2) (HM : Mod (fun k => bf = some k) (((w.setCell ⟨g, q, none⟩ (.pointer none)).alloc o).drewN m) w2) (HN : NewOr (((w.setCell ⟨g, q, none⟩ (.pointer none)).alloc o).drewN m) bf bo2) :
    bdropPost r rm l b (bdS r bx bf) w (.returned (.int .i64 0)) (((w2.setCell ⟨r, 259, none⟩ v2).setCell ⟨r, 2 + b, none⟩ (.int .u16 ((0 : Nat) : Int))).setCell ⟨r, 1, none⟩ (.int .i64 (n : Nat))) := by
  have hgr : g ≠ r := fun e => h.neX (by rw [e1, e])
  have hfg : bf ≠ some g := h.neXF g e1
  have hp := h.pl.drop hb hh (.pointer none) rfl
  rw [show p b - 1 = q from by omega, e3] at hp
  have hgl : g < w.heap.size := by have ho := h.ownX; rw [e1] at ho; exact ho.lt
  have sz : ((w.setCell ⟨g, q, none⟩ (.pointer none)).alloc o).heap.size = w.heap.size + 1 := by simp [World.setCell]
  have old : ∀ k, k < w.heap.size → k ≠ g → bf ≠ some k → w2.heap[k]? = w.heap[k]? := fun k hk hkg hkf =>
    (HM.same k (by show k < ((w.setCell ⟨g, q, none⟩ (.pointer none)).alloc o).heap.size; omega) hkf).trans ((Below.heap_alloc _ _ _ (by simp [World.setCell]; exact hk)).trans (Below.heap_setCell _ _ _ _ hkg))
  have blk2 : w2.heap[r]? = some (.cells (bdL rm l.length p vx vf).toArray bdT (0, 0)) := (old r h.lt (fun e => hgr e.symm) h.neF).trans h.blk
  have hb2g : bo2 ≠ some g := by
    rcases HN with e | ⟨g', e, hg'⟩
    · rw [e]; exact hfg
    · rw [e]; intro e'; cases e'
      have hg2 : ((w.setCell ⟨g, q, none⟩ (.pointer none)).alloc o).heap.size ≤ g := hg'
      omega
  have hb2r : bo2 ≠ some r := by
    rcases HN with e | ⟨g', e, hg'⟩
    · rw [e]; exact h.neF
    · rw [e]; intro e'; cases e'
      have hg2 : ((w.setCell ⟨g, q, none⟩ (.pointer none)).alloc o).heap.size ≤ r := hg'
      have := h.lt
      omega
  have b1 := setCell_list w2 r 259 _ bdT v2 blk2
  rw [bdL_setF] at b1
  have k1 := setRow_heap w2 r _ (bdL rm l.length p vx v2).toArray _ _ blk2
  rw [← b1] at k1
  have b2 := setCell_list _ r (2 + b) _ bdT (.int .u16 ((0 : Nat) : Int)) k1
  rw [bdL_setA _ _ _ _ _ _ _ hb] at b2
  have k2 := setRow_heap _ r _ (bdL rm l.length (upd p b 0) vx v2).toArray _ _ k1
  rw [← b2] at k2
  have b3 := setCell_list _ r 1 _ bdT (.int .i64 (n : Nat)) k2
  rw [bdL_set1] at b3
  have k3 := setRow_heap _ r _ (bdL rm n (upd p b 0) vx v2).toArray _ _ k2
  rw [← b3] at k3
  have kS : ∀ k, k ≠ r → (((w2.setCell ⟨r, 259, none⟩ v2).setCell ⟨r, 2 + b, none⟩ (.int .u16 ((0 : Nat) : Int))).setCell ⟨r, 1, none⟩ (.int .i64 (n : Nat))).heap[k]? = w2.heap[k]? := fun k hk => by
    rw [Below.heap_setCell _ _ _ _ hk, Below.heap_setCell _ _ _ _ hk, Below.heap_setCell _ _ _ _ hk]
  have hlen : (kdel l b).length = n := by have := del_len h.pl.srt hh; omega
  refine ⟨rfl, _, ⟨_, vx, _, bx, v2, _, bo2, ⟨?_, ?_, ?_, h.neX, hb2r, fun g' e => by rw [e1] at e; cases e; exact hb2g, hp⟩, rfl⟩, ?_, fun k hk => ?_⟩
  · rw [hlen]; exact k3
  · have ho := h.ownX
    rw [e1] at ho ⊢
    refine (ho.set q (.pointer none)).keep fun g' e => ?_
    cases e
    rw [kS g hgr]
    exact (HM.same g (by show g < ((w.setCell ⟨g, q, none⟩ (.pointer none)).alloc o).heap.size; omega) hfg).trans (Below.heap_alloc _ _ _ (by simp [World.setCell]; exact hgl))
  · have : fsV (fs ++ [q + 1]) = fsV fs ++ [.int .u16 ((q + 1 : Nat) : Int)] := by simp [fsV]
    rw [this]
    exact HO.keep fun g' e => kS g' (fun e' => hb2r (by rw [e, e']))
  · have m1 : Mod (bdS r bx bf) w w2 := ((((Mod.refl (bdS r bx bf) w).setCell ⟨g, q, none⟩ (.pointer none) (fun _ => Or.inr (Or.inl e1))).alloc o).drewN m).then HM (fun i _ e => Or.inr (Or.inr e))
    exact ((m1.setCell ⟨r, _, none⟩ _ (fun _ => Or.inl rfl)).setCell ⟨r, _, none⟩ _ (fun _ => Or.inl rfl)).setCell ⟨r, _, none⟩ _ (fun _ => Or.inl rfl)
  · rcases hk with hk | hk | hk
    · exact Or.inl (Or.inl hk)
    · exact Or.inl (Or.inr (Or.inl hk))
    · rcases HN with e | ⟨g', e, hg'⟩
      · exact Or.inl (Or.inr (Or.inr (by rw [← e, hk])))
      · rw [hk] at e; cases e
        have hg2 : ((w.setCell ⟨g, q, none⟩ (.pointer none)).alloc o).heap.size ≤ k := hg'
        exact Or.inr (by omega)
set_option maxHeartbeats 1000000 in
set_option maxRecDepth 100000 in
theorem bd_drop_is (h : BdIs bdT elT u16T w r rm l p vx xs bx vf fs bf) (b : Nat) (hb : b < 256) (hh : has l b = true) : Calls Try.prog 98 #[.pointer (some ⟨r, 0, none⟩), .int .u8 b] w (bdropPost r rm l b (bdS r bx bf) w) := by
  have c0 := h.c0
  have c1 := h.c1
  have hr := h.r1
  have cA := h.cA b hb
  have hbi : (b : Int) < 256 := by omega
  obtain ⟨g, cap, q, v, e1, e2, e3, e4, e5, e6, e7, e8⟩ := h.here hb hh
  rw [e3, show ((q + 1 : Nat) : Int) = (q : Int) + 1 from by omega] at cA
  have cX := h.cX
  rw [e2] at cX
  have hx : xs.length ≤ 256 := by have := h.pl.leX; have := h.r256; omega
  have hgr : g ≠ r := fun e => h.neX (by rw [e1, e])
  have hgr2 : r ≠ g := fun e => hgr e.symm
  obtain ⟨n, hn⟩ : ∃ n, l.length = n + 1 := ⟨l.length - 1, by have := (has_yes hh).1; omega⟩
  rw [hn, show ((n + 1 : Nat) : Int) = (n : Int) + 1 from by omega] at c1
  have Hn := Lib.hid hn
  have HH := Lib.hid h
  have Hh := Lib.hid hh
  have He1 := Lib.hid e1
  have He3 := Lib.hid e3
  obtain ⟨af, cf, hvf⟩ := h.ownF.len
  have cF := h.cF
  rw [hvf] at cF
  have Hvf := Lib.hid hvf
  have hfl : Hid ((fsV fs).length ≤ 256) := by have := h.pl.cnt; show _ ≤ _; simp [fsV]; omega
  have hnn : n ≤ 256 := by have := h.pl.cnt; omega
  have frr := frozen_of_blk h.blk
  have hneF := Lib.hid h.neF
  have hlt := h.lt
  have hoF : ∀ o, Hid (Own u16T (((w.setCell ⟨g, q, none⟩ (.pointer none)).alloc o).drew.drew) (.slice af (fsV fs).length cf) (fsV fs) bf) := fun o => by
    have ho := h.ownF
    rw [hvf] at ho
    refine ho.keep fun g' e => ?_
    have hl : g' < w.heap.size := by have ho := h.ownF; rw [e] at ho; exact ho.lt
    exact (Below.heap_alloc _ _ _ (by simp [World.setCell]; exact hl)).trans (Below.heap_setCell _ _ _ _ (fun e' => h.neXF g e1 (by rw [e, e'])))
  have hnw : Hid (∀ j u, [Value.int .u16 ((q : Int) + 1)][j]? = some u → (((w.setCell ⟨g, q, none⟩ (.pointer none)).alloc (.cells #[.int .u16 ((q : Int) + 1)] u16T)).drew.drew).cell? ((⟨w.heap.size, 0, none⟩ : Addr).add j) = some u) := by
    have := cell_one_new (w.setCell ⟨g, q, none⟩ (.pointer none)) (.int .u16 ((q : Int) + 1)) u16T
    rw [show (w.setCell ⟨g, q, none⟩ (.pointer none)).heap.size = w.heap.size from by simp [World.setCell]] at this
    exact this
  have hon : Hid (∀ u ∈ ([.int .u16 ((q : Int) + 1)] : List Value), u.oneCell' = true) := by intro u hu; simp at hu; rw [hu]; rfl
  have hb1 : Hid ((fsV fs).length + 1 ≤ maxLen) := by show _ ≤ _; have := hfl.out; simp only [maxLen]; omega
  have hb2 : Hid (((fsV fs).length + 1) * 2 ≤ 140737488355328) := by show _ ≤ _; have := hfl.out; omega
  have sz : Hid (∀ o, ((w.setCell ⟨g, q, none⟩ (.pointer none)).alloc o).drew.drew.heap.size = w.heap.size + 1) := fun o => by simp [World.setCell]
  generalize hfk : (fsV fs).length = fk at *
  have Hfk := Lib.hid hfk
  clear hfk
  generalize xs.length = k at *
  have hq0 : ((q : Int) + 1 == 0) = false := beq_eq_false_iff_ne.mpr (by omega)
  have hq1 : (q : Int) < (k : Int) := by omega
  have hq2 : (q : Int) ≤ 256 := by omega
  clear h hh e1 e2 e3 e7 hn hvf
  go_enter Try.func98, Try.ntmps98
  go_wp2_with (go_at_call 127; refine (bok_yes _ _ _ c0 hr).mono ?_; rintro e w' ⟨rfl, rfl⟩)
  have k1 : IntKind.u16.wrap ((q : Int) + 1 - 1) = (q : Int) := by rw [IntWalk.u16_in _ (by omega)]; omega
  go_region
  clear k1
  go_wp2_with fail
  go_region_law (refine step_append_at rfl (.tmp 35) (.tmp 42) 148 rfl u16T (.int .u16 0) 2 underU infoU rfl _ rfl (fsV fs) bf (hoF _).out ⟨w.heap.size, 0, none⟩ 1 1 [.int .u16 ((q : Int) + 1)] rfl rfl hnw.out hon.out (by rw [Hfk.out]; exact hb1.out) (by rw [Hfk.out]; exact hb2.out) ?_; intro v2 w2 bo2 HO HM HN; obtain ⟨a2, c2, rfl⟩ := HO.out.len; rw [List.length_append] at HO; have hh2 := Lib.hid ((HM.out.same r (by rw [sz.out]; omega) hneF.out).trans ((Below.heap_alloc _ _ _ (by simp [World.setCell]; exact hlt)).trans (Below.heap_setCell _ _ _ _ hgr2))); have d1 := (World.cell?_of_block (a := ⟨r, 259, none⟩) hh2.out).trans cF; have d2 := (World.cell?_of_block (a := ⟨r, 1, none⟩) hh2.out).trans c1; have d3 := (World.cell?_of_block (a := ⟨r, 2 + b, none⟩) hh2.out).trans cA; have d4 : ∀ j, w2.frozen? ⟨r, j, none⟩ = false := fun j => (World.frozen?_of_block (a := ⟨r, j, none⟩) hh2.out).trans (frr j))
  all_goals
    go_wp2_with fail
    go_ret
    exact bdrop_end HH.out b hb Hh.out q n 2 g He1.out He3.out Hn.out HO.out HM.out HN.out
end N
end Go.Proofs.Ytgijnjdcpipfiaa
/- Boards: Copy. -/
namespace Go.Proofs.Ytgijnjdcpipfiaa
open Go.RowKit
/-- a clone of a slice -/
def clonePost (ty : Nat) (xs : List Value) (w : World) (e : Ending) (w' : World) : Prop := ∃ v' bo', e = .returned v' ∧ Own ty w' v' xs bo' ∧ Below w.heap.size w w' ∧ (bo' = none ∨ ∃ g, bo' = some g ∧ w.heap.size ≤ g)
theorem Own.read {ty : Nat} {w : World} {a : Addr} {n c : Nat} {xs : List Value} {bo : Option Nat} (h : Own ty w (.slice (some a) n c) xs bo) : xs.length = n ∧ ∀ j u, xs[j]? = some u → w.cell? (a.add j) = some u := by
  rcases h with ⟨h, _, _⟩ | ⟨g, cap, cur, rfl, hv, hg, hl, hm, hs, ht⟩
  · simp at h
  · simp only [Value.slice.injEq, Option.some.injEq] at hv
    obtain ⟨rfl, rfl, rfl⟩ := hv
    refine ⟨rfl, fun j u hj => ?_⟩
    have hjl : j < xs.length := by
      by_cases h : j < xs.length
      · exact h
      · rw [List.getElem?_eq_none (by omega)] at hj; simp at hj
    have e : (⟨g, 0, none⟩ : Addr).add j = ⟨g, j, none⟩ := by unfold Addr.add; split <;> simp_all
    rw [e, cell_of_row w g j cur _ (0, 0) hg, ← hj, ← take_get ht hjl]
    simp
theorem Own.fresh0 (ty : Nat) (w : World) : Own ty (w.alloc (.cells #[] ty)) (.slice (some ⟨w.heap.size, 0, none⟩) 0 0) [] (some w.heap.size) :=
  Or.inr ⟨w.heap.size, 0, #[], rfl, rfl, heap_alloc_new w _, by simp, by simp [maxLen], rfl, rfl⟩
theorem clone_end {ty : Nat} {xs : List Value} {w w1 : World} {v1 : Value} {bo1 : Option Nat} {o : Obj} (HO : Own ty w1 v1 ([] ++ xs) bo1) (HM : Mod (fun k => some w.heap.size = some k) (w.alloc o) w1) (HN : NewOr (w.alloc o) (some w.heap.size) bo1) : clonePost ty xs w (.returned v1) w1 := by
  refine ⟨v1, bo1, rfl, by simpa using HO, ?_, ?_⟩
  · have this : Mod (fun _ => False) w w1 := ((Mod.refl (fun _ => False) w).alloc o).then HM (fun i hi e => by have h := Option.some.inj e; omega)
    exact this.below
  · rcases HN with e | ⟨g, e, hg⟩
    · exact Or.inr ⟨_, e, Nat.le_refl _⟩
    · exact Or.inr ⟨g, e, by simp at hg; omega⟩
theorem cloneI_under : Try.prog.underlying 23 = some (.slice 3) := by kernel_rfl
theorem cloneI_info : (Try.prog.info? 3).map (fun i => (i.zero, i.size, i.bytes)) = some (some (.int .i64 0), 1, 8) := by kernel_rfl
set_option maxRecDepth 100000 in
theorem cloneI_any (w : World) (v : Value) (xs : List Value) (bo : Option Nat) (hown : Own 3 w v xs bo) (h1 : ∀ u ∈ xs, u.oneCell' = true) (hl : xs.length ≤ 1000) : Calls Try.prog 122 #[v] w (clonePost 3 xs w) := by
  have q1 : ∀ (w : World) (a : Option Addr) (n c n' c' : Nat), (binOp .eql 23 (.slice a n c) (.slice none n' c')).run Try.prog w = .ok (.bool a.isNone) w := fun w a n c n' c' => Lib.run_eql_slice_nil w _ _ a n c n' c' cloneI_under
  have Hown := Lib.hid hown
  rcases hown with ⟨rfl, rfl, rfl⟩ | ⟨g, cap, cur, rfl, rfl, hg, hnc, hcm, hcs, htake⟩
  · have hR : clonePost 3 [] w (.returned (.slice none 0 0)) w := ⟨_, none, rfl, Own.nil _ _, Below.refl _ _, Or.inl rfl⟩
    clear Hown h1 hl
    go_enter Try.func122, Try.ntmps122
    go_wp2_with fail
    go_ret
    exact hR
  · clear hg hnc hcm hcs htake
    have Hr : Hid (∀ o, ∀ j u, xs[j]? = some u → (w.alloc o).cell? ((⟨g, 0, none⟩ : Addr).add j) = some u) := fun o j u hj => (Hown.out.alloc o).read.2 j u hj
    have H1 := Lib.hid h1
    have hb1 : Hid (([] : List Value).length + xs.length ≤ maxLen) := by show _ ≤ _; simp only [maxLen, List.length_nil]; omega
    have hb2 : Hid ((([] : List Value).length + xs.length) * 8 ≤ 140737488355328) := by show _ ≤ _; simp only [List.length_nil]; omega
    clear h1 hl
    go_enter Try.func122, Try.ntmps122
    go_wp2_with (at_builtin; go_loud (refine wpList_append_at rfl (.tmp 5) (.tmp 6) 23 rfl 3 (.int .i64 0) 8 cloneI_under cloneI_info rfl _ rfl [] (some w.heap.size) (Own.fresh0 _ _) ⟨g, 0, none⟩ xs.length cap xs rfl rfl (Hr.out _) H1.out hb1.out hb2.out ?_); intro v1 w1 bo1 HO HM HN)
    go_ret
    exact clone_end HO.out HM.out HN.out

theorem cloneN_under : Try.prog.underlying 158 = some (.slice 28) := by kernel_rfl
theorem cloneN_info : (Try.prog.info? 28).map (fun i => (i.zero, i.size, i.bytes)) = some (some (.pointer none), 1, 8) := by kernel_rfl
set_option maxRecDepth 100000 in
theorem cloneN_any (w : World) (v : Value) (xs : List Value) (bo : Option Nat) (hown : Own 28 w v xs bo) (h1 : ∀ u ∈ xs, u.oneCell' = true) (hl : xs.length ≤ 1000) : Calls Try.prog 129 #[v] w (clonePost 28 xs w) := by
  have q1 : ∀ (w : World) (a : Option Addr) (n c n' c' : Nat), (binOp .eql 158 (.slice a n c) (.slice none n' c')).run Try.prog w = .ok (.bool a.isNone) w := fun w a n c n' c' => Lib.run_eql_slice_nil w _ _ a n c n' c' cloneN_under
  have Hown := Lib.hid hown
  rcases hown with ⟨rfl, rfl, rfl⟩ | ⟨g, cap, cur, rfl, rfl, hg, hnc, hcm, hcs, htake⟩
  · have hR : clonePost 28 [] w (.returned (.slice none 0 0)) w := ⟨_, none, rfl, Own.nil _ _, Below.refl _ _, Or.inl rfl⟩
    clear Hown h1 hl
    go_enter Try.func129, Try.ntmps129
    go_wp2_with fail
    go_ret
    exact hR
  · clear hg hnc hcm hcs htake
    have Hr : Hid (∀ o, ∀ j u, xs[j]? = some u → (w.alloc o).cell? ((⟨g, 0, none⟩ : Addr).add j) = some u) := fun o j u hj => (Hown.out.alloc o).read.2 j u hj
    have H1 := Lib.hid h1
    have hb1 : Hid (([] : List Value).length + xs.length ≤ maxLen) := by show _ ≤ _; simp only [maxLen, List.length_nil]; omega
    have hb2 : Hid ((([] : List Value).length + xs.length) * 8 ≤ 140737488355328) := by show _ ≤ _; simp only [List.length_nil]; omega
    clear h1 hl
    go_enter Try.func129, Try.ntmps129
    go_wp2_with (at_builtin; go_loud (refine wpList_append_at rfl (.tmp 5) (.tmp 6) 158 rfl 28 (.pointer none) 8 cloneN_under cloneN_info rfl _ rfl [] (some w.heap.size) (Own.fresh0 _ _) ⟨g, 0, none⟩ xs.length cap xs rfl rfl (Hr.out _) H1.out hb1.out hb2.out ?_); intro v1 w1 bo1 HO HM HN)
    go_ret
    exact clone_end HO.out HM.out HN.out

theorem cloneU_under : Try.prog.underlying 148 = some (.slice 146) := by kernel_rfl
theorem cloneU_info : (Try.prog.info? 146).map (fun i => (i.zero, i.size, i.bytes)) = some (some (.int .u16 0), 1, 2) := by kernel_rfl
set_option maxRecDepth 100000 in
theorem cloneU_any (w : World) (v : Value) (xs : List Value) (bo : Option Nat) (hown : Own 146 w v xs bo) (h1 : ∀ u ∈ xs, u.oneCell' = true) (hl : xs.length ≤ 1000) : Calls Try.prog 123 #[v] w (clonePost 146 xs w) := by
  have q1 : ∀ (w : World) (a : Option Addr) (n c n' c' : Nat), (binOp .eql 148 (.slice a n c) (.slice none n' c')).run Try.prog w = .ok (.bool a.isNone) w := fun w a n c n' c' => Lib.run_eql_slice_nil w _ _ a n c n' c' cloneU_under
  have Hown := Lib.hid hown
  rcases hown with ⟨rfl, rfl, rfl⟩ | ⟨g, cap, cur, rfl, rfl, hg, hnc, hcm, hcs, htake⟩
  · have hR : clonePost 146 [] w (.returned (.slice none 0 0)) w := ⟨_, none, rfl, Own.nil _ _, Below.refl _ _, Or.inl rfl⟩
    clear Hown h1 hl
    go_enter Try.func123, Try.ntmps123
    go_wp2_with fail
    go_ret
    exact hR
  · clear hg hnc hcm hcs htake
    have Hr : Hid (∀ o, ∀ j u, xs[j]? = some u → (w.alloc o).cell? ((⟨g, 0, none⟩ : Addr).add j) = some u) := fun o j u hj => (Hown.out.alloc o).read.2 j u hj
    have H1 := Lib.hid h1
    have hb1 : Hid (([] : List Value).length + xs.length ≤ maxLen) := by show _ ≤ _; simp only [maxLen, List.length_nil]; omega
    have hb2 : Hid ((([] : List Value).length + xs.length) * 2 ≤ 140737488355328) := by show _ ≤ _; simp only [List.length_nil]; omega
    clear h1 hl
    go_enter Try.func123, Try.ntmps123
    go_wp2_with (at_builtin; go_loud (refine wpList_append_at rfl (.tmp 5) (.tmp 6) 148 rfl 146 (.int .u16 0) 2 cloneU_under cloneU_info rfl _ rfl [] (some w.heap.size) (Own.fresh0 _ _) ⟨g, 0, none⟩ xs.length cap xs rfl rfl (Hr.out _) H1.out hb1.out hb2.out ?_); intro v1 w1 bo1 HO HM HN)
    go_ret
    exact clone_end HO.out HM.out HN.out
namespace I
variable {w : World} {r rm : Nat} {l : KV} {p : Nat → Nat} {vx : Value} {xs : List Value} {bx : Option Nat} {vf : Value} {fs : List Nat} {bf : Option Nat}
def bcopyPost (rm : Nat) (l : KV) (w : World) (e : Ending) (w' : World) : Prop := e = .returned (.pointer (some ⟨w.heap.size, 0, none⟩)) ∧ ∃ S, BdAt bdT elT u16T w' w.heap.size rm l S ∧ Below w.heap.size w w' ∧ ∀ k, S k → w.heap.size ≤ k
theorem bcopy_end (h : BdIs bdT elT u16T w r rm l p vx xs bx vf fs bf) {W0 w1 w2 : World} {v1 v2 : Value} {bo1 bo2 : Option Nat} (hB0 : Below w.heap.size w W0) (hs0 : W0.heap.size = w.heap.size + 1)
    (HB1 : Below W0.drew.heap.size W0.drew w1) (HB2 : Below w1.heap.size w1 w2) (HO1 : Own elT w1 v1 xs bo1) (HO2 : Own u16T w2 v2 (fsV fs) bo2) (HN1 : bo1 = none ∨ ∃ g, bo1 = some g ∧ W0.drew.heap.size ≤ g) (HN2 : bo2 = none ∨ ∃ g, bo2 = some g ∧ w1.heap.size ≤ g)
    (hb2 : w2.heap[w.heap.size]? = some (.cells (bdL rm l.length p vx vf).toArray bdT (0, 0))) :
    bcopyPost rm l w (.returned (.pointer (some ⟨w.heap.size, 0, none⟩))) ((w2.setCell ⟨w.heap.size, 258, none⟩ v1).setCell ⟨w.heap.size, 259, none⟩ v2) := by
  have s1 : W0.heap.size ≤ w1.heap.size := HB1.size
  have s2 := HB2.size
  have n1 : ∀ g, bo1 = some g → w.heap.size < g ∧ g < w1.heap.size := fun g e => by
    rcases HN1 with e' | ⟨g', e', hg⟩
    · rw [e'] at e; simp at e
    · rw [e'] at e; cases e
      rw [e'] at HO1
      have hg2 : W0.heap.size ≤ g := hg
      exact ⟨by omega, HO1.lt⟩
  have n2 : ∀ g, bo2 = some g → w1.heap.size ≤ g := fun g e => by
    rcases HN2 with e' | ⟨g', e', hg⟩
    · rw [e'] at e; simp at e
    · rw [e'] at e; cases e; exact hg
  have b1 := setCell_list w2 w.heap.size 258 _ bdT v1 hb2
  rw [bdL_setX] at b1
  have k1 := setRow_heap w2 w.heap.size _ (bdL rm l.length p v1 vf).toArray _ _ hb2
  rw [← b1] at k1
  have b2 := setCell_list _ w.heap.size 259 _ bdT v2 k1
  rw [bdL_setF] at b2
  have k2 := setRow_heap _ w.heap.size _ (bdL rm l.length p v1 v2).toArray _ _ k1
  rw [← b2] at k2
  have kS : ∀ k, k ≠ w.heap.size → ((w2.setCell ⟨w.heap.size, 258, none⟩ v1).setCell ⟨w.heap.size, 259, none⟩ v2).heap[k]? = w2.heap[k]? := fun k hk => by
    rw [Below.heap_setCell _ _ _ _ hk, Below.heap_setCell _ _ _ _ hk]
  refine ⟨rfl, _, ⟨p, v1, xs, bo1, v2, fs, bo2, ⟨k2, ?_, ?_, fun e => by have := n1 _ e; omega, fun e => by have := n2 _ e; omega, fun g e e' => by have := n1 _ e; have := n2 _ e'; omega, h.pl⟩, rfl⟩, ?_, fun k hk => ?_⟩
  · exact HO1.keep fun g e => (kS g (by have := n1 _ e; omega)).trans (HB2.block g (n1 _ e).2)
  · exact HO2.keep fun g e => kS g (by have := n2 _ e; omega)
  · have m : Below w.heap.size w w2 := (hB0.drew.trans (HB1.mono (by show w.heap.size ≤ W0.heap.size; omega))).trans (HB2.mono (by omega))
    exact (m.setCell (p := ⟨w.heap.size, 258, none⟩) (Nat.le_refl _) _).setCell (p := ⟨w.heap.size, 259, none⟩) (Nat.le_refl _) _
  · rcases hk with hk | hk | hk
    · omega
    · have := n1 _ hk; omega
    · have := n2 _ hk; omega
theorem bd_info : (Try.prog.info? bdT).map (·.size) = some 260 := by kernel_rfl
set_option maxHeartbeats 2000000 in
set_option maxRecDepth 100000 in
theorem bd_copy (h : BdIs bdT elT u16T w r rm l p vx xs bx vf fs bf) : Calls Try.prog 83 #[.pointer (some ⟨r, 0, none⟩)] w (bcopyPost rm l w) := by
  obtain ⟨cs, hcs⟩ : ∃ cs : List Value, cs = bdL rm l.length p vx vf := ⟨_, rfl⟩
  have hlen : cs.length = 260 := by rw [hcs, bdL_length]
  have hblk := Lib.hid h.blk
  rw [← hcs] at hblk
  obtain ⟨ax, cx, hvx⟩ := h.ownX.len
  obtain ⟨af, cf, hvf⟩ := h.ownF.len
  have hone : ∀ v ∈ cs, v.oneCell' = true := by
    rw [hcs]; intro v hv
    simp only [bdL, List.mem_cons, List.mem_append, List.not_mem_nil, or_false] at hv
    rcases hv with rfl | rfl | hv | rfl | rfl
    · rfl
    · rfl
    · simp only [atL, List.mem_map] at hv; obtain ⟨b, _, rfl⟩ := hv; rfl
    · rw [hvx]; rfl
    · rw [hvf]; rfl
  have c0 := h.c0
  have cX := h.cX
  have cF := h.cF
  have hr := h.r1
  have hlt := h.lt
  have HH := Lib.hid h
  have Hcs := Lib.hid hcs
  have Hvx := Lib.hid hvx
  have Hvf := Lib.hid hvf
  have hz : Hid ((Try.prog.info? bdT).map (·.size) = some cs.toArray.size) := by show _ = _; rw [bd_info]; simp [hlen]
  have ha : Hid (cs.toArray.all (·.oneCell') = true) := by show _ = _; rw [Array.all_eq_true_iff_forall_mem]; intro v hv; exact hone v (by simpa using hv)
  have hs : Hid (260 = cs.toArray.size) := by show _ = _; simp [hlen]
  rw [hvx] at cX
  rw [hvf] at cF
  clear h hcs hone hlen hvx hvf
  go_enter Try.func83, Try.ntmps83
  go_wp2_with (first | (go_at_call 117; refine (bok_yes _ _ _ c0 hr).mono ?_; rintro e w' ⟨rfl, rfl⟩) | (refine wpList_load_row rfl bdT _ rfl r rfl bdT cs.toArray (0, 0) _ hblk.out Try.underlying150 rfl hz.out ?_) | (refine wpList_store_row rfl bdT (.tmp 3) (.tmp 9) rfl _ cs.toArray rfl rfl bdT _ (heap_alloc_new _ _) hz.out hs.out ha.out ?_; rw [World.setRow_alloc_new]))
  have hSX := Lib.hid (show ∀ v ∈ xs, v.oneCell' = true from HH.out.pl.one)
  have hSF := Lib.hid (show ∀ v ∈ fsV fs, v.oneCell' = true from fun v hv => by simp only [fsV, List.mem_map] at hv; obtain ⟨b, _, rfl⟩ := hv; rfl)
  have hLX : Hid (xs.length ≤ 1000) := by have := HH.out.pl.leX; have := HH.out.r256; show _ ≤ _; omega
  have hLF : Hid ((fsV fs).length ≤ 1000) := by have := HH.out.pl.leX; have := HH.out.r256; have := HH.out.pl.cnt; show _ ≤ _; simp [fsV]; omega
  obtain ⟨W0, HW⟩ : ∃ W0, Hid (W0 = w.alloc (Obj.cells cs.toArray bdT)) := ⟨_, rfl⟩
  rw [show w.alloc (Obj.cells cs.toArray 150) = W0 from HW.out.symm]
  have hoX : Hid (Own elT W0 (.slice ax xs.length cx) xs bx) := by have := HH.out.ownX.alloc (Obj.cells cs.toArray bdT); rw [Hvx.out, ← HW.out] at this; exact this
  have hoF : Hid (Own u16T W0 (.slice af (fsV fs).length cf) (fsV fs) bf) := by have := HH.out.ownF.alloc (Obj.cells cs.toArray bdT); rw [Hvf.out, ← HW.out] at this; exact this
  have hB0 : Hid (Below w.heap.size w W0) := by rw [HW.out]; exact (Below.refl _ _).alloc (Nat.le_refl _) _
  have hs0 : Hid (W0.heap.size = w.heap.size + 1) := by show _ = _; rw [HW.out]; simp
  have hb0 : Hid (W0.heap[w.heap.size]? = some (.cells cs.toArray bdT (0, 0))) := by show _ = _; rw [HW.out]; exact heap_alloc_new _ _
  have cX0 : W0.cell? ⟨r, 258, none⟩ = some (.slice ax xs.length cx) := (hB0.out.cell (p := ⟨r, 258, none⟩) hlt).trans cX
  have cF0 : W0.cell? ⟨r, 259, none⟩ = some (.slice af (fsV fs).length cf) := (hB0.out.cell (p := ⟨r, 259, none⟩) hlt).trans cF
  clear cX cF c0
  simp only [Act.put]
  have hcl : Hid (Calls Try.prog 122 #[.slice ax xs.length cx] W0.drew (clonePost elT xs W0.drew)) := cloneI_any W0.drew _ xs bx (hoX.out.keep fun _ _ => rfl) hSX.out hLX.out
  have F1 : Hid (∀ w1, Below W0.drew.heap.size W0.drew w1 → w1.cell? ⟨r, 259, none⟩ = some (.slice af (fsV fs).length cf) ∧ Hid (Own u16T w1 (.slice af (fsV fs).length cf) (fsV fs) bf) ∧ Hid (w1.heap[w.heap.size]? = some (.cells cs.toArray bdT (0, 0)) ∧ w.heap.size < w1.heap.size)) := fun w1 hb =>
    ⟨(hb.cell (p := ⟨r, 259, none⟩) (by have := hs0.out; show r < W0.heap.size; omega)).trans cF0, hoF.out.keep (fun g hg => hb.block g (by subst hg; exact hoF.out.lt)), (hb.block w.heap.size (by have h1 := hs0.out; show _ < W0.heap.size; omega)).trans hb0.out, by have h1 := hs0.out; have h2 : W0.heap.size ≤ w1.heap.size := hb.size; omega⟩
  have F2 : Hid (∀ w1, Own u16T w1 (.slice af (fsV fs).length cf) (fsV fs) bf → Calls Try.prog 123 #[.slice af (fsV fs).length cf] w1 (clonePost u16T (fsV fs) w1)) := fun w1 ho => cloneU_any w1 _ (fsV fs) bf ho hSF.out hLF.out
  have F3 : Hid (∀ w1 w2, (w1.heap[w.heap.size]? = some (.cells cs.toArray bdT (0, 0)) ∧ w.heap.size < w1.heap.size) → Below w1.heap.size w1 w2 → Hid (w2.heap[w.heap.size]? = some (.cells cs.toArray bdT (0, 0))) ∧ w2.cell? ⟨w.heap.size, 258, none⟩ = some (.slice ax xs.length cx) ∧ w2.cell? ⟨w.heap.size, 259, none⟩ = some (.slice af (fsV fs).length cf) ∧ (∀ j, w2.frozen? ⟨w.heap.size, j, none⟩ = false)) := fun w1 w2 h1 hb => by
    have hb2 := (hb.block w.heap.size h1.2).trans h1.1
    refine ⟨hb2, ?_, ?_, fun j => frozen_of_blk hb2 j⟩
    · rw [cell_of_blk hb2, Hcs.out, bdL_X, Hvx.out]
    · rw [cell_of_blk hb2, Hcs.out, bdL_F, Hvf.out]
  go_region_with (first | (go_at_call 122; go_loud (refine hcl.out.mono ?_); rintro e w1 ⟨v1, bo1, rfl, HO1, HB1, HN1⟩; obtain ⟨a1, c1, rfl⟩ := HO1.len; obtain ⟨cF1, hoF1, hb1⟩ := F1.out _ HB1; have HO1 := Lib.hid HO1; have HB1 := Lib.hid HB1; have HN1 := Lib.hid HN1) | (go_at_call 123; go_loud (refine (F2.out _ hoF1.out).mono ?_); rintro e w2 ⟨v2, bo2, rfl, HO2, HB2, HN2⟩; obtain ⟨a2, c2, rfl⟩ := HO2.len; obtain ⟨hb2, q1, q2, q3⟩ := F3.out _ _ hb1.out HB2; have HO2 := Lib.hid HO2; have HB2 := Lib.hid HB2; have HN2 := Lib.hid HN2))
  all_goals
    go_wp2_with fail
    go_ret
    exact bcopy_end HH.out hB0.out hs0.out HB1.out HB2.out HO1.out HO2.out HN1.out HN2.out (by have := hb2.out; rw [Hcs.out] at this; exact this)
end I

namespace N
variable {w : World} {r rm : Nat} {l : KV} {p : Nat → Nat} {vx : Value} {xs : List Value} {bx : Option Nat} {vf : Value} {fs : List Nat} {bf : Option Nat}
def bcopyPost (rm : Nat) (l : KV) (w : World) (e : Ending) (w' : World) : Prop := e = .returned (.pointer (some ⟨w.heap.size, 0, none⟩)) ∧ ∃ S, BdAt bdT elT u16T w' w.heap.size rm l S ∧ Below w.heap.size w w' ∧ ∀ k, S k → w.heap.size ≤ k
theorem bcopy_end (h : BdIs bdT elT u16T w r rm l p vx xs bx vf fs bf) {W0 w1 w2 : World} {v1 v2 : Value} {bo1 bo2 : Option Nat} (hB0 : Below w.heap.size w W0) (hs0 : W0.heap.size = w.heap.size + 1)
    (HB1 : Below W0.drew.heap.size W0.drew w1) (HB2 : Below w1.heap.size w1 w2) (HO1 : Own elT w1 v1 xs bo1) (HO2 : Own u16T w2 v2 (fsV fs) bo2) (HN1 : bo1 = none ∨ ∃ g, bo1 = some g ∧ W0.drew.heap.size ≤ g) (HN2 : bo2 = none ∨ ∃ g, bo2 = some g ∧ w1.heap.size ≤ g)
    (hb2 : w2.heap[w.heap.size]? = some (.cells (bdL rm l.length p vx vf).toArray bdT (0, 0))) :
    bcopyPost rm l w (.returned (.pointer (some ⟨w.heap.size, 0, none⟩))) ((w2.setCell ⟨w.heap.size, 258, none⟩ v1).setCell ⟨w.heap.size, 259, none⟩ v2) := by
  have s1 : W0.heap.size ≤ w1.heap.size := HB1.size
  have s2 := HB2.size
  have n1 : ∀ g, bo1 = some g → w.heap.size < g ∧ g < w1.heap.size := fun g e => by
    rcases HN1 with e' | ⟨g', e', hg⟩
    · rw [e'] at e; simp at e
    · rw [e'] at e; cases e
      rw [e'] at HO1
      have hg2 : W0.heap.size ≤ g := hg
      exact ⟨by omega, HO1.lt⟩
  have n2 : ∀ g, bo2 = some g → w1.heap.size ≤ g := fun g e => by
    rcases HN2 with e' | ⟨g', e', hg⟩
    · rw [e'] at e; simp at e
    · rw [e'] at e; cases e; exact hg
  have b1 := setCell_list w2 w.heap.size 258 _ bdT v1 hb2
  rw [bdL_setX] at b1
  have k1 := setRow_heap w2 w.heap.size _ (bdL rm l.length p v1 vf).toArray _ _ hb2
  rw [← b1] at k1
  have b2 := setCell_list _ w.heap.size 259 _ bdT v2 k1
  rw [bdL_setF] at b2
  have k2 := setRow_heap _ w.heap.size _ (bdL rm l.length p v1 v2).toArray _ _ k1
  rw [← b2] at k2
  have kS : ∀ k, k ≠ w.heap.size → ((w2.setCell ⟨w.heap.size, 258, none⟩ v1).setCell ⟨w.heap.size, 259, none⟩ v2).heap[k]? = w2.heap[k]? := fun k hk => by
    rw [Below.heap_setCell _ _ _ _ hk, Below.heap_setCell _ _ _ _ hk]
  refine ⟨rfl, _, ⟨p, v1, xs, bo1, v2, fs, bo2, ⟨k2, ?_, ?_, fun e => by have := n1 _ e; omega, fun e => by have := n2 _ e; omega, fun g e e' => by have := n1 _ e; have := n2 _ e'; omega, h.pl⟩, rfl⟩, ?_, fun k hk => ?_⟩
  · exact HO1.keep fun g e => (kS g (by have := n1 _ e; omega)).trans (HB2.block g (n1 _ e).2)
  · exact HO2.keep fun g e => kS g (by have := n2 _ e; omega)
  · have m : Below w.heap.size w w2 := (hB0.drew.trans (HB1.mono (by show w.heap.size ≤ W0.heap.size; omega))).trans (HB2.mono (by omega))
    exact (m.setCell (p := ⟨w.heap.size, 258, none⟩) (Nat.le_refl _) _).setCell (p := ⟨w.heap.size, 259, none⟩) (Nat.le_refl _) _
  · rcases hk with hk | hk | hk
    · omega
    · have := n1 _ hk; omega
    · have := n2 _ hk; omega
theorem bd_info : (Try.prog.info? bdT).map (·.size) = some 260 := by kernel_rfl
set_option maxHeartbeats 2000000 in
set_option maxRecDepth 100000 in
theorem bd_copy (h : BdIs bdT elT u16T w r rm l p vx xs bx vf fs bf) : Calls Try.prog 93 #[.pointer (some ⟨r, 0, none⟩)] w (bcopyPost rm l w) := by
  obtain ⟨cs, hcs⟩ : ∃ cs : List Value, cs = bdL rm l.length p vx vf := ⟨_, rfl⟩
  have hlen : cs.length = 260 := by rw [hcs, bdL_length]
  have hblk := Lib.hid h.blk
  rw [← hcs] at hblk
  obtain ⟨ax, cx, hvx⟩ := h.ownX.len
  obtain ⟨af, cf, hvf⟩ := h.ownF.len
  have hone : ∀ v ∈ cs, v.oneCell' = true := by
    rw [hcs]; intro v hv
    simp only [bdL, List.mem_cons, List.mem_append, List.not_mem_nil, or_false] at hv
    rcases hv with rfl | rfl | hv | rfl | rfl
    · rfl
    · rfl
    · simp only [atL, List.mem_map] at hv; obtain ⟨b, _, rfl⟩ := hv; rfl
    · rw [hvx]; rfl
    · rw [hvf]; rfl
  have c0 := h.c0
  have cX := h.cX
  have cF := h.cF
  have hr := h.r1
  have hlt := h.lt
  have HH := Lib.hid h
  have Hcs := Lib.hid hcs
  have Hvx := Lib.hid hvx
  have Hvf := Lib.hid hvf
  have hz : Hid ((Try.prog.info? bdT).map (·.size) = some cs.toArray.size) := by show _ = _; rw [bd_info]; simp [hlen]
  have ha : Hid (cs.toArray.all (·.oneCell') = true) := by show _ = _; rw [Array.all_eq_true_iff_forall_mem]; intro v hv; exact hone v (by simpa using hv)
  have hs : Hid (260 = cs.toArray.size) := by show _ = _; simp [hlen]
  rw [hvx] at cX
  rw [hvf] at cF
  clear h hcs hone hlen hvx hvf
  go_enter Try.func93, Try.ntmps93
  go_wp2_with (first | (go_at_call 127; refine (bok_yes _ _ _ c0 hr).mono ?_; rintro e w' ⟨rfl, rfl⟩) | (refine wpList_load_row rfl bdT _ rfl r rfl bdT cs.toArray (0, 0) _ hblk.out Try.underlying160 rfl hz.out ?_) | (refine wpList_store_row rfl bdT (.tmp 3) (.tmp 9) rfl _ cs.toArray rfl rfl bdT _ (heap_alloc_new _ _) hz.out hs.out ha.out ?_; rw [World.setRow_alloc_new]))
  have hSX := Lib.hid (show ∀ v ∈ xs, v.oneCell' = true from HH.out.pl.one)
  have hSF := Lib.hid (show ∀ v ∈ fsV fs, v.oneCell' = true from fun v hv => by simp only [fsV, List.mem_map] at hv; obtain ⟨b, _, rfl⟩ := hv; rfl)
  have hLX : Hid (xs.length ≤ 1000) := by have := HH.out.pl.leX; have := HH.out.r256; show _ ≤ _; omega
  have hLF : Hid ((fsV fs).length ≤ 1000) := by have := HH.out.pl.leX; have := HH.out.r256; have := HH.out.pl.cnt; show _ ≤ _; simp [fsV]; omega
  obtain ⟨W0, HW⟩ : ∃ W0, Hid (W0 = w.alloc (Obj.cells cs.toArray bdT)) := ⟨_, rfl⟩
  rw [show w.alloc (Obj.cells cs.toArray 160) = W0 from HW.out.symm]
  have hoX : Hid (Own elT W0 (.slice ax xs.length cx) xs bx) := by have := HH.out.ownX.alloc (Obj.cells cs.toArray bdT); rw [Hvx.out, ← HW.out] at this; exact this
  have hoF : Hid (Own u16T W0 (.slice af (fsV fs).length cf) (fsV fs) bf) := by have := HH.out.ownF.alloc (Obj.cells cs.toArray bdT); rw [Hvf.out, ← HW.out] at this; exact this
  have hB0 : Hid (Below w.heap.size w W0) := by rw [HW.out]; exact (Below.refl _ _).alloc (Nat.le_refl _) _
  have hs0 : Hid (W0.heap.size = w.heap.size + 1) := by show _ = _; rw [HW.out]; simp
  have hb0 : Hid (W0.heap[w.heap.size]? = some (.cells cs.toArray bdT (0, 0))) := by show _ = _; rw [HW.out]; exact heap_alloc_new _ _
  have cX0 : W0.cell? ⟨r, 258, none⟩ = some (.slice ax xs.length cx) := (hB0.out.cell (p := ⟨r, 258, none⟩) hlt).trans cX
  have cF0 : W0.cell? ⟨r, 259, none⟩ = some (.slice af (fsV fs).length cf) := (hB0.out.cell (p := ⟨r, 259, none⟩) hlt).trans cF
  clear cX cF c0
  simp only [Act.put]
  have hcl : Hid (Calls Try.prog 129 #[.slice ax xs.length cx] W0.drew (clonePost elT xs W0.drew)) := cloneN_any W0.drew _ xs bx (hoX.out.keep fun _ _ => rfl) hSX.out hLX.out
  have F1 : Hid (∀ w1, Below W0.drew.heap.size W0.drew w1 → w1.cell? ⟨r, 259, none⟩ = some (.slice af (fsV fs).length cf) ∧ Hid (Own u16T w1 (.slice af (fsV fs).length cf) (fsV fs) bf) ∧ Hid (w1.heap[w.heap.size]? = some (.cells cs.toArray bdT (0, 0)) ∧ w.heap.size < w1.heap.size)) := fun w1 hb =>
    ⟨(hb.cell (p := ⟨r, 259, none⟩) (by have := hs0.out; show r < W0.heap.size; omega)).trans cF0, hoF.out.keep (fun g hg => hb.block g (by subst hg; exact hoF.out.lt)), (hb.block w.heap.size (by have h1 := hs0.out; show _ < W0.heap.size; omega)).trans hb0.out, by have h1 := hs0.out; have h2 : W0.heap.size ≤ w1.heap.size := hb.size; omega⟩
  have F2 : Hid (∀ w1, Own u16T w1 (.slice af (fsV fs).length cf) (fsV fs) bf → Calls Try.prog 123 #[.slice af (fsV fs).length cf] w1 (clonePost u16T (fsV fs) w1)) := fun w1 ho => cloneU_any w1 _ (fsV fs) bf ho hSF.out hLF.out
  have F3 : Hid (∀ w1 w2, (w1.heap[w.heap.size]? = some (.cells cs.toArray bdT (0, 0)) ∧ w.heap.size < w1.heap.size) → Below w1.heap.size w1 w2 → Hid (w2.heap[w.heap.size]? = some (.cells cs.toArray bdT (0, 0))) ∧ w2.cell? ⟨w.heap.size, 258, none⟩ = some (.slice ax xs.length cx) ∧ w2.cell? ⟨w.heap.size, 259, none⟩ = some (.slice af (fsV fs).length cf) ∧ (∀ j, w2.frozen? ⟨w.heap.size, j, none⟩ = false)) := fun w1 w2 h1 hb => by
    have hb2 := (hb.block w.heap.size h1.2).trans h1.1
    refine ⟨hb2, ?_, ?_, fun j => frozen_of_blk hb2 j⟩
    · rw [cell_of_blk hb2, Hcs.out, bdL_X, Hvx.out]
    · rw [cell_of_blk hb2, Hcs.out, bdL_F, Hvf.out]
  go_region_with (first | (go_at_call 129; go_loud (refine hcl.out.mono ?_); rintro e w1 ⟨v1, bo1, rfl, HO1, HB1, HN1⟩; obtain ⟨a1, c1, rfl⟩ := HO1.len; obtain ⟨cF1, hoF1, hb1⟩ := F1.out _ HB1; have HO1 := Lib.hid HO1; have HB1 := Lib.hid HB1; have HN1 := Lib.hid HN1) | (go_at_call 123; go_loud (refine (F2.out _ hoF1.out).mono ?_); rintro e w2 ⟨v2, bo2, rfl, HO2, HB2, HN2⟩; obtain ⟨a2, c2, rfl⟩ := HO2.len; obtain ⟨hb2, q1, q2, q3⟩ := F3.out _ _ hb1.out HB2; have HO2 := Lib.hid HO2; have HB2 := Lib.hid HB2; have HN2 := Lib.hid HN2))
  all_goals
    go_wp2_with fail
    go_ret
    exact bcopy_end HH.out hB0.out hs0.out HB1.out HB2.out HO1.out HO2.out HN1.out HN2.out (by have := hb2.out; rw [Hcs.out] at this; exact this)
end N
end Go.Proofs.Ytgijnjdcpipfiaa
/- Kids: what they are in memory; the calls that only read. -/
namespace Go.Proofs.Ytgijnjdcpipfiaa
open Go.RowKit
theorem RowAt.lt {w : World} {ty r rm : Nat} {l : KV} (h : RowAt ty w r rm l) : r < w.heap.size := by obtain ⟨B, X, h⟩ := h; exact h.lt
theorem BdAt.keep {w w' : World} {ty tx tf r rm : Nat} {l : KV} {S : Nat → Prop} (h : BdAt ty tx tf w r rm l S) (hk : ∀ j, S j → w'.heap[j]? = w.heap[j]?) : BdAt ty tx tf w' r rm l S := by
  obtain ⟨p, vx, xs, bx, vf, fs, bf, h, rfl⟩ := h
  exact ⟨p, vx, xs, bx, vf, fs, bf, h.keep hk, rfl⟩
theorem BdAt.lt {w : World} {ty tx tf r rm : Nat} {l : KV} {S : Nat → Prop} (h : BdAt ty tx tf w r rm l S) : ∀ j, S j → j < w.heap.size := by
  obtain ⟨p, vx, xs, bx, vf, fs, bf, h, rfl⟩ := h
  intro j hj
  rcases hj with rfl | hj | hj
  · exact h.lt
  · have := h.ownX; rw [hj] at this; exact this.lt
  · have := h.ownF; rw [hj] at this; exact this.lt
theorem BdAt.self {w : World} {ty tx tf r rm : Nat} {l : KV} {S : Nat → Prop} (h : BdAt ty tx tf w r rm l S) : S r := by
  obtain ⟨p, vx, xs, bx, vf, fs, bf, h, rfl⟩ := h
  exact Or.inl rfl
theorem cells2 {w : World} {k : Nat} {a b : Value} {t : Nat} (h : w.heap[k]? = some (.cells #[a, b] t (0, 0))) : w.cell? ⟨k, 0, none⟩ = some a ∧ w.cell? ⟨k, 1, none⟩ = some b := by
  constructor <;> simp [World.cell?, h]
namespace I
abbrev kdT : Nat := 111
/-- kids at block k: few in a row, many on a board -/
def KdAt (w : World) (k rm : Nat) (l : KV) (S : Nat → Prop) : Prop :=
  (∃ r, w.heap[k]? = some (.cells #[.pointer (some ⟨r, 0, none⟩), .pointer none] kdT (0, 0)) ∧ RowAt rowT w r rm l ∧ r ≠ k ∧ S = fun j => j = k ∨ j = r) ∨
  (∃ r S', w.heap[k]? = some (.cells #[.pointer none, .pointer (some ⟨r, 0, none⟩)] kdT (0, 0)) ∧ BdAt bdT elT u16T w r rm l S' ∧ ¬ S' k ∧ S = fun j => j = k ∨ S' j)
def Vals (l : KV) : Prop := ∀ p ∈ l, ∃ v : Int, p.2 = .int .i64 v
variable {w : World} {k rm : Nat} {l : KV} {S : Nat → Prop}
theorem KdAt.self (h : KdAt w k rm l S) : S k := by
  rcases h with ⟨r, _, _, _, rfl⟩ | ⟨r, S', _, _, _, rfl⟩ <;> exact Or.inl rfl
theorem KdAt.lt (h : KdAt w k rm l S) : ∀ j, S j → j < w.heap.size := by
  rcases h with ⟨r, hb, hr, hne, rfl⟩ | ⟨r, S', hb, hr, hne, rfl⟩
  · rintro j (rfl | rfl)
    · exact (Array.getElem?_eq_some_iff.1 hb).1
    · exact hr.lt
  · rintro j (rfl | hj)
    · exact (Array.getElem?_eq_some_iff.1 hb).1
    · exact hr.lt j hj
theorem KdAt.keep {w' : World} (h : KdAt w k rm l S) (hk : ∀ j, S j → w'.heap[j]? = w.heap[j]?) : KdAt w' k rm l S := by
  rcases h with ⟨r, hb, hr, hne, rfl⟩ | ⟨r, S', hb, hr, hne, rfl⟩
  · exact Or.inl ⟨r, (hk k (Or.inl rfl)).trans hb, hr.keep (hk r (Or.inr rfl)), hne, rfl⟩
  · exact Or.inr ⟨r, S', (hk k (Or.inl rfl)).trans hb, hr.keep fun j hj => hk j (Or.inr hj), hne, rfl⟩
theorem KdAt.below {w' : World} (h : KdAt w k rm l S) (hb : Below w.heap.size w w') : KdAt w' k rm l S := h.keep fun j hj => hb.block j (h.lt j hj)
theorem KdAt.drewN (h : KdAt w k rm l S) (n : Nat) : KdAt (w.drewN n) k rm l S := h.keep fun _ _ => rfl
theorem KdAt.srt (h : KdAt w k rm l S) : Srt l ∧ Low l ∧ l.length ≤ rm := by
  rcases h with ⟨r, hb, ⟨B, X, hr⟩, hne, rfl⟩ | ⟨r, S', hb, ⟨p, vx, xs, bx, vf, fs, bf, hr, rfl⟩, hne, rfl⟩
  · exact ⟨hr.srt, hr.low, hr.le⟩
  · exact ⟨hr.pl.srt, hr.pl.low, hr.pl.le⟩
theorem kok_nil (w : World) : Calls Try.prog 71 #[.pointer none] w fun e w' => e = .returned (.bool false) ∧ w = w' := by
  go_enter Try.func71, Try.ntmps71
  go_wp2_with fail
  go_ret
  exact ⟨rfl, rfl⟩
theorem kok_bare (w : World) (k o : Nat) (h0 : w.cell? ⟨k, o, none⟩ = some (.pointer none)) (h1 : w.cell? ⟨k, o + 1, none⟩ = some (.pointer none)) : Calls Try.prog 71 #[.pointer (some ⟨k, o, none⟩)] w fun e w' => e = .returned (.bool false) ∧ w = w' := by
  go_enter Try.func71, Try.ntmps71
  go_wp2_with fail
  go_ret
  exact ⟨rfl, rfl⟩
theorem kok_row (w : World) (k : Nat) (a : Addr) (h0 : w.cell? ⟨k, 0, none⟩ = some (.pointer (some a))) : Calls Try.prog 71 #[.pointer (some ⟨k, 0, none⟩)] w fun e w' => e = .returned (.bool true) ∧ w = w' := by
  go_enter Try.func71, Try.ntmps71
  go_wp2_with fail
  go_ret
  exact ⟨rfl, rfl⟩
theorem kok_board (w : World) (k : Nat) (a : Addr) (h0 : w.cell? ⟨k, 0, none⟩ = some (.pointer none)) (h1 : w.cell? ⟨k, 1, none⟩ = some (.pointer (some a))) : Calls Try.prog 71 #[.pointer (some ⟨k, 0, none⟩)] w fun e w' => e = .returned (.bool true) ∧ w = w' := by
  go_enter Try.func71, Try.ntmps71
  go_wp2_with fail
  go_ret
  exact ⟨rfl, rfl⟩
theorem kd_len (h : KdAt w k rm l S) : Calls Try.prog 42 #[.pointer (some ⟨k, 0, none⟩)] w fun e w' => e = .returned (.int .i64 l.length) ∧ w = w' := by
  rcases h with ⟨r, hb, ⟨B, X, hr⟩, hne, rfl⟩ | ⟨r, S', hb, ⟨p, vx, xs, bx, vf, fs, bf, hr, rfl⟩, hne, rfl⟩
  · obtain ⟨c0, c1⟩ := cells2 hb
    have hx := Lib.hid (row_len hr)
    clear hb hr
    go_enter Try.func42, Try.ntmps42
    go_wp2_with (first | (go_at_call 71; refine (kok_row _ _ _ c0).mono ?_; rintro e w' ⟨rfl, rfl⟩) | (go_at_call 80; refine hx.out.mono ?_; rintro e w' ⟨rfl, rfl⟩))
    go_ret
    exact ⟨rfl, rfl⟩
  · obtain ⟨c0, c1⟩ := cells2 hb
    have hx := Lib.hid (bd_len hr)
    clear hb hr
    go_enter Try.func42, Try.ntmps42
    go_wp2_with (first | (go_at_call 71; refine (kok_board _ _ _ c0 c1).mono ?_; rintro e w' ⟨rfl, rfl⟩) | (go_at_call 81; refine hx.out.mono ?_; rintro e w' ⟨rfl, rfl⟩))
    go_ret
    exact ⟨rfl, rfl⟩
theorem kd_kind (h : KdAt w k rm l S) : Calls Try.prog 38 #[.pointer (some ⟨k, 0, none⟩)] w fun e w' => e = .returned (.int .i64 rm) ∧ w = w' := by
  rcases h with ⟨r, hb, ⟨B, X, hr⟩, hne, rfl⟩ | ⟨r, S', hb, ⟨p, vx, xs, bx, vf, fs, bf, hr, rfl⟩, hne, rfl⟩
  · obtain ⟨c0, c1⟩ := cells2 hb
    have hx := Lib.hid (row_room hr)
    clear hb hr
    go_enter Try.func38, Try.ntmps38
    go_wp2_with (first | (go_at_call 71; refine (kok_row _ _ _ c0).mono ?_; rintro e w' ⟨rfl, rfl⟩) | (go_at_call 72; refine hx.out.mono ?_; rintro e w' ⟨rfl, rfl⟩))
    go_ret
    exact ⟨rfl, rfl⟩
  · obtain ⟨c0, c1⟩ := cells2 hb
    have hx := Lib.hid (bd_room hr)
    clear hb hr
    go_enter Try.func38, Try.ntmps38
    go_wp2_with (first | (go_at_call 71; refine (kok_board _ _ _ c0 c1).mono ?_; rintro e w' ⟨rfl, rfl⟩) | (go_at_call 73; refine hx.out.mono ?_; rintro e w' ⟨rfl, rfl⟩))
    go_ret
    exact ⟨rfl, rfl⟩
def duo (V a b : Value) : Prop := V = .tuple #[a, b]
theorem getV_duo (o : Option Value) : ∃ a b, duo (getV o) a b := by
  cases o with
  | none => exact ⟨_, _, rfl⟩
  | some p => exact ⟨_, _, rfl⟩
theorem kd_get (h : KdAt w k rm l S) (b : Nat) (hbb : b < 256) : Calls Try.prog 40 #[.pointer (some ⟨k, 0, none⟩), .int .u8 b] w fun e w' => e = .returned (getV (kget l b)) ∧ ∃ n, w' = w.drewN n := by
  obtain ⟨a1, a2, ht⟩ := getV_duo (kget l b)
  have Ht := Lib.hid ht
  clear ht
  rcases h with ⟨r, hb, ⟨B, X, hr⟩, hne, rfl⟩ | ⟨r, S', hb, ⟨p, vx, xs, bx, vf, fs, bf, hr, rfl⟩, hne, rfl⟩
  · obtain ⟨c0, c1⟩ := cells2 hb
    have hx := Lib.hid (row_get hr b)
    clear hb hr
    generalize getV (kget l b) = V at *
    go_enter Try.func40, Try.ntmps40
    go_wp2_with (first | (go_at_call 71; refine (kok_row _ _ _ c0).mono ?_; rintro e w' ⟨rfl, rfl⟩) | (go_at_call 76; refine hx.out.mono ?_; rintro e w' ⟨rfl, nd, rfl⟩; rw [Ht.out]))
    go_ret2
    exact ⟨congrArg Ending.returned Ht.out.symm, nd, rfl⟩
  · obtain ⟨c0, c1⟩ := cells2 hb
    have hx := Lib.hid (bd_get hr b hbb)
    clear hb hr
    generalize getV (kget l b) = V at *
    go_enter Try.func40, Try.ntmps40
    go_wp2_with (first | (go_at_call 71; refine (kok_board _ _ _ c0 c1).mono ?_; rintro e w' ⟨rfl, rfl⟩) | (go_at_call 77; refine hx.out.mono ?_; rintro e w' ⟨rfl, nd, rfl⟩; rw [Ht.out]))
    go_ret2
    exact ⟨congrArg Ending.returned Ht.out.symm, nd, rfl⟩
theorem kd_next (h : KdAt w k rm l S) (f : Int) (hlo : -9223372036854775808 ≤ f) (hhi : f ≤ 9223372036854775807) : Calls Try.prog 118 #[.pointer (some ⟨k, 0, none⟩), .int .i64 f] w fun e w' => e = .returned (atV (knxt l f)) ∧ ∃ n, w' = w.drewN n := by
  obtain ⟨a1, a2, a3, ht⟩ := atV_trip (knxt l f)
  have Ht := Lib.hid ht
  clear ht
  rcases h with ⟨r, hb, ⟨B, X, hr⟩, hne, rfl⟩ | ⟨r, S', hb, ⟨p, vx, xs, bx, vf, fs, bf, hr, rfl⟩, hne, rfl⟩
  · obtain ⟨c0, c1⟩ := cells2 hb
    have hx := Lib.hid (row_next hr f hlo hhi)
    clear hb hr hlo hhi
    generalize atV (knxt l f) = V at *
    go_enter Try.func118, Try.ntmps118
    go_wp2_with (first | (go_at_call 71; refine (kok_row _ _ _ c0).mono ?_; rintro e w' ⟨rfl, rfl⟩) | (go_at_call 140; refine hx.out.mono ?_; rintro e w' ⟨rfl, nd, rfl⟩; rw [Ht.out]))
    go_ret3
    exact ⟨congrArg Ending.returned Ht.out.symm, nd, rfl⟩
  · obtain ⟨c0, c1⟩ := cells2 hb
    have hx := Lib.hid (bd_next hr f hlo hhi)
    clear hb hr hlo hhi
    generalize atV (knxt l f) = V at *
    go_enter Try.func118, Try.ntmps118
    go_wp2_with (first | (go_at_call 71; refine (kok_board _ _ _ c0 c1).mono ?_; rintro e w' ⟨rfl, rfl⟩) | (go_at_call 141; refine hx.out.mono ?_; rintro e w' ⟨rfl, nd, rfl⟩; rw [Ht.out]))
    go_ret3
    exact ⟨congrArg Ending.returned Ht.out.symm, nd, rfl⟩
end I

namespace N
abbrev kdT : Nat := 119
/-- kids at block k: few in a row, many on a board -/
def KdAt (w : World) (k rm : Nat) (l : KV) (S : Nat → Prop) : Prop :=
  (∃ r, w.heap[k]? = some (.cells #[.pointer (some ⟨r, 0, none⟩), .pointer none] kdT (0, 0)) ∧ RowAt rowT w r rm l ∧ r ≠ k ∧ S = fun j => j = k ∨ j = r) ∨
  (∃ r S', w.heap[k]? = some (.cells #[.pointer none, .pointer (some ⟨r, 0, none⟩)] kdT (0, 0)) ∧ BdAt bdT elT u16T w r rm l S' ∧ ¬ S' k ∧ S = fun j => j = k ∨ S' j)
def Vals (l : KV) : Prop := ∀ p ∈ l, ∃ v : (Option Addr), p.2 = .pointer v
variable {w : World} {k rm : Nat} {l : KV} {S : Nat → Prop}
theorem KdAt.self (h : KdAt w k rm l S) : S k := by
  rcases h with ⟨r, _, _, _, rfl⟩ | ⟨r, S', _, _, _, rfl⟩ <;> exact Or.inl rfl
theorem KdAt.lt (h : KdAt w k rm l S) : ∀ j, S j → j < w.heap.size := by
  rcases h with ⟨r, hb, hr, hne, rfl⟩ | ⟨r, S', hb, hr, hne, rfl⟩
  · rintro j (rfl | rfl)
    · exact (Array.getElem?_eq_some_iff.1 hb).1
    · exact hr.lt
  · rintro j (rfl | hj)
    · exact (Array.getElem?_eq_some_iff.1 hb).1
    · exact hr.lt j hj
theorem KdAt.keep {w' : World} (h : KdAt w k rm l S) (hk : ∀ j, S j → w'.heap[j]? = w.heap[j]?) : KdAt w' k rm l S := by
  rcases h with ⟨r, hb, hr, hne, rfl⟩ | ⟨r, S', hb, hr, hne, rfl⟩
  · exact Or.inl ⟨r, (hk k (Or.inl rfl)).trans hb, hr.keep (hk r (Or.inr rfl)), hne, rfl⟩
  · exact Or.inr ⟨r, S', (hk k (Or.inl rfl)).trans hb, hr.keep fun j hj => hk j (Or.inr hj), hne, rfl⟩
theorem KdAt.below {w' : World} (h : KdAt w k rm l S) (hb : Below w.heap.size w w') : KdAt w' k rm l S := h.keep fun j hj => hb.block j (h.lt j hj)
theorem KdAt.drewN (h : KdAt w k rm l S) (n : Nat) : KdAt (w.drewN n) k rm l S := h.keep fun _ _ => rfl
theorem KdAt.srt (h : KdAt w k rm l S) : Srt l ∧ Low l ∧ l.length ≤ rm := by
  rcases h with ⟨r, hb, ⟨B, X, hr⟩, hne, rfl⟩ | ⟨r, S', hb, ⟨p, vx, xs, bx, vf, fs, bf, hr, rfl⟩, hne, rfl⟩
  · exact ⟨hr.srt, hr.low, hr.le⟩
  · exact ⟨hr.pl.srt, hr.pl.low, hr.pl.le⟩
theorem kok_nil (w : World) : Calls Try.prog 84 #[.pointer none] w fun e w' => e = .returned (.bool false) ∧ w = w' := by
  go_enter Try.func84, Try.ntmps84
  go_wp2_with fail
  go_ret
  exact ⟨rfl, rfl⟩
theorem kok_bare (w : World) (k o : Nat) (h0 : w.cell? ⟨k, o, none⟩ = some (.pointer none)) (h1 : w.cell? ⟨k, o + 1, none⟩ = some (.pointer none)) : Calls Try.prog 84 #[.pointer (some ⟨k, o, none⟩)] w fun e w' => e = .returned (.bool false) ∧ w = w' := by
  go_enter Try.func84, Try.ntmps84
  go_wp2_with fail
  go_ret
  exact ⟨rfl, rfl⟩
theorem kok_row (w : World) (k : Nat) (a : Addr) (h0 : w.cell? ⟨k, 0, none⟩ = some (.pointer (some a))) : Calls Try.prog 84 #[.pointer (some ⟨k, 0, none⟩)] w fun e w' => e = .returned (.bool true) ∧ w = w' := by
  go_enter Try.func84, Try.ntmps84
  go_wp2_with fail
  go_ret
  exact ⟨rfl, rfl⟩
theorem kok_board (w : World) (k : Nat) (a : Addr) (h0 : w.cell? ⟨k, 0, none⟩ = some (.pointer none)) (h1 : w.cell? ⟨k, 1, none⟩ = some (.pointer (some a))) : Calls Try.prog 84 #[.pointer (some ⟨k, 0, none⟩)] w fun e w' => e = .returned (.bool true) ∧ w = w' := by
  go_enter Try.func84, Try.ntmps84
  go_wp2_with fail
  go_ret
  exact ⟨rfl, rfl⟩
theorem kd_len (h : KdAt w k rm l S) : Calls Try.prog 57 #[.pointer (some ⟨k, 0, none⟩)] w fun e w' => e = .returned (.int .i64 l.length) ∧ w = w' := by
  rcases h with ⟨r, hb, ⟨B, X, hr⟩, hne, rfl⟩ | ⟨r, S', hb, ⟨p, vx, xs, bx, vf, fs, bf, hr, rfl⟩, hne, rfl⟩
  · obtain ⟨c0, c1⟩ := cells2 hb
    have hx := Lib.hid (row_len hr)
    clear hb hr
    go_enter Try.func57, Try.ntmps57
    go_wp2_with (first | (go_at_call 84; refine (kok_row _ _ _ c0).mono ?_; rintro e w' ⟨rfl, rfl⟩) | (go_at_call 101; refine hx.out.mono ?_; rintro e w' ⟨rfl, rfl⟩))
    go_ret
    exact ⟨rfl, rfl⟩
  · obtain ⟨c0, c1⟩ := cells2 hb
    have hx := Lib.hid (bd_len hr)
    clear hb hr
    go_enter Try.func57, Try.ntmps57
    go_wp2_with (first | (go_at_call 84; refine (kok_board _ _ _ c0 c1).mono ?_; rintro e w' ⟨rfl, rfl⟩) | (go_at_call 102; refine hx.out.mono ?_; rintro e w' ⟨rfl, rfl⟩))
    go_ret
    exact ⟨rfl, rfl⟩
theorem kd_kind (h : KdAt w k rm l S) : Calls Try.prog 56 #[.pointer (some ⟨k, 0, none⟩)] w fun e w' => e = .returned (.int .i64 rm) ∧ w = w' := by
  rcases h with ⟨r, hb, ⟨B, X, hr⟩, hne, rfl⟩ | ⟨r, S', hb, ⟨p, vx, xs, bx, vf, fs, bf, hr, rfl⟩, hne, rfl⟩
  · obtain ⟨c0, c1⟩ := cells2 hb
    have hx := Lib.hid (row_room hr)
    clear hb hr
    go_enter Try.func56, Try.ntmps56
    go_wp2_with (first | (go_at_call 84; refine (kok_row _ _ _ c0).mono ?_; rintro e w' ⟨rfl, rfl⟩) | (go_at_call 99; refine hx.out.mono ?_; rintro e w' ⟨rfl, rfl⟩))
    go_ret
    exact ⟨rfl, rfl⟩
  · obtain ⟨c0, c1⟩ := cells2 hb
    have hx := Lib.hid (bd_room hr)
    clear hb hr
    go_enter Try.func56, Try.ntmps56
    go_wp2_with (first | (go_at_call 84; refine (kok_board _ _ _ c0 c1).mono ?_; rintro e w' ⟨rfl, rfl⟩) | (go_at_call 100; refine hx.out.mono ?_; rintro e w' ⟨rfl, rfl⟩))
    go_ret
    exact ⟨rfl, rfl⟩
def duo (V a b : Value) : Prop := V = .tuple #[a, b]
theorem getV_duo (o : Option Value) : ∃ a b, duo (getV o) a b := by
  cases o with
  | none => exact ⟨_, _, rfl⟩
  | some p => exact ⟨_, _, rfl⟩
theorem kd_get (h : KdAt w k rm l S) (b : Nat) (hbb : b < 256) : Calls Try.prog 46 #[.pointer (some ⟨k, 0, none⟩), .int .u8 b] w fun e w' => e = .returned (getV (kget l b)) ∧ ∃ n, w' = w.drewN n := by
  obtain ⟨a1, a2, ht⟩ := getV_duo (kget l b)
  have Ht := Lib.hid ht
  clear ht
  rcases h with ⟨r, hb, ⟨B, X, hr⟩, hne, rfl⟩ | ⟨r, S', hb, ⟨p, vx, xs, bx, vf, fs, bf, hr, rfl⟩, hne, rfl⟩
  · obtain ⟨c0, c1⟩ := cells2 hb
    have hx := Lib.hid (row_get hr b)
    clear hb hr
    generalize getV (kget l b) = V at *
    go_enter Try.func46, Try.ntmps46
    go_wp2_with (first | (go_at_call 84; refine (kok_row _ _ _ c0).mono ?_; rintro e w' ⟨rfl, rfl⟩) | (go_at_call 89; refine hx.out.mono ?_; rintro e w' ⟨rfl, nd, rfl⟩; rw [Ht.out]))
    go_ret2
    exact ⟨congrArg Ending.returned Ht.out.symm, nd, rfl⟩
  · obtain ⟨c0, c1⟩ := cells2 hb
    have hx := Lib.hid (bd_get hr b hbb)
    clear hb hr
    generalize getV (kget l b) = V at *
    go_enter Try.func46, Try.ntmps46
    go_wp2_with (first | (go_at_call 84; refine (kok_board _ _ _ c0 c1).mono ?_; rintro e w' ⟨rfl, rfl⟩) | (go_at_call 90; refine hx.out.mono ?_; rintro e w' ⟨rfl, nd, rfl⟩; rw [Ht.out]))
    go_ret2
    exact ⟨congrArg Ending.returned Ht.out.symm, nd, rfl⟩
theorem kd_next (h : KdAt w k rm l S) (f : Int) (hlo : -9223372036854775808 ≤ f) (hhi : f ≤ 9223372036854775807) : Calls Try.prog 44 #[.pointer (some ⟨k, 0, none⟩), .int .i64 f] w fun e w' => e = .returned (atV (knxt l f)) ∧ ∃ n, w' = w.drewN n := by
  obtain ⟨a1, a2, a3, ht⟩ := atV_trip (knxt l f)
  have Ht := Lib.hid ht
  clear ht
  rcases h with ⟨r, hb, ⟨B, X, hr⟩, hne, rfl⟩ | ⟨r, S', hb, ⟨p, vx, xs, bx, vf, fs, bf, hr, rfl⟩, hne, rfl⟩
  · obtain ⟨c0, c1⟩ := cells2 hb
    have hx := Lib.hid (row_next hr f hlo hhi)
    clear hb hr hlo hhi
    generalize atV (knxt l f) = V at *
    go_enter Try.func44, Try.ntmps44
    go_wp2_with (first | (go_at_call 84; refine (kok_row _ _ _ c0).mono ?_; rintro e w' ⟨rfl, rfl⟩) | (go_at_call 85; refine hx.out.mono ?_; rintro e w' ⟨rfl, nd, rfl⟩; rw [Ht.out]))
    go_ret3
    exact ⟨congrArg Ending.returned Ht.out.symm, nd, rfl⟩
  · obtain ⟨c0, c1⟩ := cells2 hb
    have hx := Lib.hid (bd_next hr f hlo hhi)
    clear hb hr hlo hhi
    generalize atV (knxt l f) = V at *
    go_enter Try.func44, Try.ntmps44
    go_wp2_with (first | (go_at_call 84; refine (kok_board _ _ _ c0 c1).mono ?_; rintro e w' ⟨rfl, rfl⟩) | (go_at_call 86; refine hx.out.mono ?_; rintro e w' ⟨rfl, nd, rfl⟩; rw [Ht.out]))
    go_ret3
    exact ⟨congrArg Ending.returned Ht.out.symm, nd, rfl⟩
theorem kd_prev (h : KdAt w k rm l S) (f : Int) (hlo : -9223372036854775808 ≤ f) (hhi : f ≤ 9223372036854775807) : Calls Try.prog 45 #[.pointer (some ⟨k, 0, none⟩), .int .i64 f] w fun e w' => e = .returned (atV (kprv l f)) ∧ ∃ n, w' = w.drewN n := by
  obtain ⟨a1, a2, a3, ht⟩ := atV_trip (kprv l f)
  have Ht := Lib.hid ht
  clear ht
  rcases h with ⟨r, hb, ⟨B, X, hr⟩, hne, rfl⟩ | ⟨r, S', hb, ⟨p, vx, xs, bx, vf, fs, bf, hr, rfl⟩, hne, rfl⟩
  · obtain ⟨c0, c1⟩ := cells2 hb
    have hx := Lib.hid (row_prev hr f hlo hhi)
    clear hb hr hlo hhi
    generalize atV (kprv l f) = V at *
    go_enter Try.func45, Try.ntmps45
    go_wp2_with (first | (go_at_call 84; refine (kok_row _ _ _ c0).mono ?_; rintro e w' ⟨rfl, rfl⟩) | (go_at_call 87; refine hx.out.mono ?_; rintro e w' ⟨rfl, nd, rfl⟩; rw [Ht.out]))
    go_ret3
    exact ⟨congrArg Ending.returned Ht.out.symm, nd, rfl⟩
  · obtain ⟨c0, c1⟩ := cells2 hb
    have hx := Lib.hid (bd_prev hr f hlo hhi)
    clear hb hr hlo hhi
    generalize atV (kprv l f) = V at *
    go_enter Try.func45, Try.ntmps45
    go_wp2_with (first | (go_at_call 84; refine (kok_board _ _ _ c0 c1).mono ?_; rintro e w' ⟨rfl, rfl⟩) | (go_at_call 88; refine hx.out.mono ?_; rintro e w' ⟨rfl, nd, rfl⟩; rw [Ht.out]))
    go_ret3
    exact ⟨congrArg Ending.returned Ht.out.symm, nd, rfl⟩
end N
end Go.Proofs.Ytgijnjdcpipfiaa
/- Kids: KindOf, room, New, put. -/
namespace Go.Proofs.Ytgijnjdcpipfiaa
open Go.RowKit
def kindZ (n : Int) : Int := if n < 0 then 0 else if n ≤ 4 then 4 else if n ≤ 16 then 16 else if n ≤ 48 then 48 else if n ≤ 256 then 256 else 0
abbrev kArr : Value := .agg #[.int .i64 4, .int .i64 16, .int .i64 48, .int .i64 256]
theorem kIdx0 (w : World) : (Instr.index 56 kArr (.int .i64 0)).run Try.prog w = .ok (.int .i64 4) w := by kernel_rfl
theorem kIdx1 (w : World) : (Instr.index 56 kArr (.int .i64 1)).run Try.prog w = .ok (.int .i64 16) w := by kernel_rfl
theorem kIdx2 (w : World) : (Instr.index 56 kArr (.int .i64 2)).run Try.prog w = .ok (.int .i64 48) w := by kernel_rfl
theorem kIdx3 (w : World) : (Instr.index 56 kArr (.int .i64 3)).run Try.prog w = .ok (.int .i64 256) w := by kernel_rfl
theorem kindOf_any (n : Int) (w : World) : Calls Try.prog 7 #[.int .i64 n] w fun e w' => e = .returned (.int .i64 (kindZ n)) ∧ w = w' := by
  obtain ⟨K, HK⟩ : ∃ K, Hid (kindZ n = K) := ⟨_, rfl⟩
  rw [HK.out]
  by_cases h0 : n < 0
  · have hR : Hid (K = 0) := by show _ = _; rw [← HK.out]; unfold kindZ; rw [if_pos h0]
    go_enter Try.func7, Try.ntmps7
    go_wp2_with fail
    go_ret
    exact ⟨by rw [hR.out]; rfl, rfl⟩
  · have i0 := kIdx0
    have i1 := kIdx1
    have i2 := kIdx2
    have i3 := kIdx3
    have h0' : 0 ≤ n := by omega
    go_enter Try.func7, Try.ntmps7
    go_wp2_with fail
    go_loop [8] (fun v => ∃ j : Int, (j = 0 ∨ j = 1 ∧ 4 < n ∨ j = 2 ∧ 16 < n ∨ j = 3 ∧ 48 < n ∨ j = 4 ∧ 256 < n) ∧ v = .int .i64 j) (fun v => (4 - intOf v).toNat)
    case atStart => exact ⟨0, Or.inl rfl, rfl⟩
    case round =>
      obtain ⟨j, hj, rfl⟩ := hrel
      rcases hj with rfl | ⟨rfl, hj⟩ | ⟨rfl, hj⟩ | ⟨rfl, hj⟩ | ⟨rfl, hj⟩
      · by_cases hn : n ≤ 4
        · have hR : Hid (K = 4) := by show _ = _; rw [← HK.out]; unfold kindZ; rw [if_neg (show ¬ n < 0 by omega), if_pos hn]
          go_wp2_with fail
          go_ret
          exact ⟨by rw [hR.out]; rfl, rfl⟩
        · go_wp2_with fail
          go_round
          case rel => exact ⟨1, Or.inr (Or.inl ⟨rfl, by omega⟩), rfl⟩
          case measure => simp [intOf]
      · by_cases hn : n ≤ 16
        · have hR : Hid (K = 16) := by show _ = _; rw [← HK.out]; unfold kindZ; rw [if_neg (show ¬ n < 0 by omega), if_neg (by omega), if_pos hn]
          go_wp2_with fail
          go_ret
          exact ⟨by rw [hR.out]; rfl, rfl⟩
        · go_wp2_with fail
          go_round
          case rel => exact ⟨2, Or.inr (Or.inr (Or.inl ⟨rfl, by omega⟩)), rfl⟩
          case measure => simp [intOf]
      · by_cases hn : n ≤ 48
        · have hR : Hid (K = 48) := by show _ = _; rw [← HK.out]; unfold kindZ; rw [if_neg (show ¬ n < 0 by omega), if_neg (by omega), if_neg (by omega), if_pos hn]
          go_wp2_with fail
          go_ret
          exact ⟨by rw [hR.out]; rfl, rfl⟩
        · go_wp2_with fail
          go_round
          case rel => exact ⟨3, Or.inr (Or.inr (Or.inr (Or.inl ⟨rfl, by omega⟩))), rfl⟩
          case measure => simp [intOf]
      · by_cases hn : n ≤ 256
        · have hR : Hid (K = 256) := by show _ = _; rw [← HK.out]; unfold kindZ; rw [if_neg (show ¬ n < 0 by omega), if_neg (by omega), if_neg (by omega), if_neg (by omega), if_pos hn]
          go_wp2_with fail
          go_ret
          exact ⟨by rw [hR.out]; rfl, rfl⟩
        · go_wp2_with fail
          go_round
          case rel => exact ⟨4, Or.inr (Or.inr (Or.inr (Or.inr ⟨rfl, by omega⟩))), rfl⟩
          case measure => simp [intOf]
      · have hR : Hid (K = 0) := by show _ = _; rw [← HK.out]; unfold kindZ; rw [if_neg (show ¬ n < 0 by omega), if_neg (by omega), if_neg (by omega), if_neg (by omega), if_neg (by omega)]
        go_wp2_with fail
        go_ret
        exact ⟨by rw [hR.out]; rfl, rfl⟩
theorem kindZ_nat (n : Nat) (h : n ≤ 256) : kindZ n = (kindOf n : Nat) := by
  unfold kindZ kindOf
  rw [if_neg (by omega)]
  by_cases h1 : n ≤ 4
  · rw [if_pos (by omega), if_pos h1]; rfl
  · rw [if_neg (by omega), if_neg h1]
    by_cases h2 : n ≤ 16
    · rw [if_pos (by omega), if_pos h2]; rfl
    · rw [if_neg (by omega), if_neg h2]
      by_cases h3 : n ≤ 48
      · rw [if_pos (by omega), if_pos h3]; rfl
      · rw [if_neg (by omega), if_neg h3, if_pos (by omega)]; rfl
namespace I
def roomPost (rm : Nat) (w : World) (e : Ending) (w' : World) : Prop := e = .returned (.pointer (some ⟨w.heap.size, 0, none⟩)) ∧ ∃ S, KdAt w' w.heap.size rm [] S ∧ Below w.heap.size w w' ∧ ∀ j, S j → w.heap.size ≤ j
theorem room_row (rm : Nat) (h1 : 1 ≤ rm) (h16 : rm ≤ 16) (w : World) : Calls Try.prog 70 #[.int .i64 rm] w (roomPost rm w) := by
  have hq : (rm : Int) ≤ 16 := by omega
  have hn : ∀ w, Hid (Calls Try.prog 114 #[.int .i64 rm] w (newPost rm w)) := fun w => row_new rm h1 h16 w
  have fin : Hid (∀ w1, RowAt rowT w1 (w.heap.size + 1) rm [] → Below (w.heap.size + 1) (w.alloc (.cells #[.pointer none, .pointer none] kdT)) w1 → w1.cell? ⟨w.heap.size, 0, none⟩ = some (.pointer none) ∧ w1.frozen? ⟨w.heap.size, 0, none⟩ = false ∧ Hid (roomPost rm w (.returned (.pointer (some ⟨w.heap.size, 0, none⟩))) (w1.setCell ⟨w.heap.size, 0, none⟩ (.pointer (some ⟨w.heap.size + 1, 0, none⟩))))) := fun w1 hr hb => by
    have hb1 := (hb.block w.heap.size (by omega)).trans (heap_alloc_new w _)
    refine ⟨by simp [World.cell?, hb1], by simp [World.frozen?, hb1], rfl, _, Or.inl ⟨w.heap.size + 1, ?_, hr.keep (Below.heap_setCell _ _ _ _ (by simp)), by omega, rfl⟩, ?_, ?_⟩
    · rw [setCell_list w1 w.heap.size 0 [.pointer none, .pointer none] kdT _ hb1, setRow_heap w1 _ _ _ _ _ hb1]; rfl
    · exact ((((Below.refl _ w).alloc (Nat.le_refl _) _).trans (hb.mono (by omega)))).setCell (p := ⟨w.heap.size, 0, none⟩) (Nat.le_refl _) _
    · rintro j (rfl | rfl) <;> omega
  go_enter Try.func70, Try.ntmps70
  go_wp2_with (go_at_call 114; refine (hn _).out.mono ?_; rintro e w1 ⟨rfl, hr, hb⟩; simp only [World.size_alloc] at hr hb; obtain ⟨q1, q2, q3⟩ := fin.out _ hr hb)
  go_ret
  exact q3.out
end I

namespace N
def roomPost (rm : Nat) (w : World) (e : Ending) (w' : World) : Prop := e = .returned (.pointer (some ⟨w.heap.size, 0, none⟩)) ∧ ∃ S, KdAt w' w.heap.size rm [] S ∧ Below w.heap.size w w' ∧ ∀ j, S j → w.heap.size ≤ j
theorem room_row (rm : Nat) (h1 : 1 ≤ rm) (h16 : rm ≤ 16) (w : World) : Calls Try.prog 130 #[.int .i64 rm] w (roomPost rm w) := by
  have hq : (rm : Int) ≤ 16 := by omega
  have hn : ∀ w, Hid (Calls Try.prog 144 #[.int .i64 rm] w (newPost rm w)) := fun w => row_new rm h1 h16 w
  have fin : Hid (∀ w1, RowAt rowT w1 (w.heap.size + 1) rm [] → Below (w.heap.size + 1) (w.alloc (.cells #[.pointer none, .pointer none] kdT)) w1 → w1.cell? ⟨w.heap.size, 0, none⟩ = some (.pointer none) ∧ w1.frozen? ⟨w.heap.size, 0, none⟩ = false ∧ Hid (roomPost rm w (.returned (.pointer (some ⟨w.heap.size, 0, none⟩))) (w1.setCell ⟨w.heap.size, 0, none⟩ (.pointer (some ⟨w.heap.size + 1, 0, none⟩))))) := fun w1 hr hb => by
    have hb1 := (hb.block w.heap.size (by omega)).trans (heap_alloc_new w _)
    refine ⟨by simp [World.cell?, hb1], by simp [World.frozen?, hb1], rfl, _, Or.inl ⟨w.heap.size + 1, ?_, hr.keep (Below.heap_setCell _ _ _ _ (by simp)), by omega, rfl⟩, ?_, ?_⟩
    · rw [setCell_list w1 w.heap.size 0 [.pointer none, .pointer none] kdT _ hb1, setRow_heap w1 _ _ _ _ _ hb1]; rfl
    · exact ((((Below.refl _ w).alloc (Nat.le_refl _) _).trans (hb.mono (by omega)))).setCell (p := ⟨w.heap.size, 0, none⟩) (Nat.le_refl _) _
    · rintro j (rfl | rfl) <;> omega
  go_enter Try.func130, Try.ntmps130
  go_wp2_with (go_at_call 144; refine (hn _).out.mono ?_; rintro e w1 ⟨rfl, hr, hb⟩; simp only [World.size_alloc] at hr hb; obtain ⟨q1, q2, q3⟩ := fin.out _ hr hb)
  go_ret
  exact q3.out
end N
end Go.Proofs.Ytgijnjdcpipfiaa
/- Sorted lists of bytes and things: what is below a byte; how many there may be; kinds. -/
namespace Go.Proofs.Ytgijnjdcpipfiaa
def klt (l : KV) (t : Nat) : KV := l.filter (fun p => decide (p.1 < t))
theorem get_klt (l : KV) (t c : Nat) : kget (klt l t) c = if c < t then kget l c else none := by
  unfold kget klt
  rw [List.find?_filter]
  by_cases h : c < t
  · rw [if_pos h]
    congr 1
    apply find_congr'
    intro p _
    by_cases e : p.1 = c
    · subst e; simp [h]
    · simp [e]
  · rw [if_neg h, Option.map_eq_none_iff, List.find?_eq_none]
    intro p _
    by_cases e : p.1 = c
    · subst e; simp [h]
    · simp [e]
theorem Srt.klt {l : KV} (h : Srt l) (t : Nat) : Srt (klt l t) := h.filter _
theorem klt_zero (l : KV) : klt l 0 = [] := by simp [klt]
theorem klt_all {l : KV} {t : Nat} (h : knxt l (t : Nat) = none) : klt l t = l := by
  unfold klt
  rw [List.filter_eq_self]
  intro p hp
  have := List.find?_eq_none.1 h p hp
  simp at this ⊢; omega
theorem klt_len (l : KV) (t : Nat) : (klt l t).length ≤ l.length := List.length_filter_le _ _
theorem nxt_some {l : KV} (hs : Srt l) {t : Int} {b : Nat} {x : Value} (h : knxt l t = some (b, x)) : (b, x) ∈ l ∧ t ≤ b ∧ ∀ p ∈ l, p.1 < b → (p.1 : Int) < t := by
  obtain ⟨h1, us, bs, rfl, h2⟩ := List.find?_eq_some_iff_append.1 h
  refine ⟨by simp, by simpa using h1, ?_⟩
  intro p hp hlt
  have hs2 := (srt_append.1 hs)
  rcases List.mem_append.1 hp with hp | hp
  · have := h2 p hp; simp at this; omega
  · rcases List.mem_cons.1 hp with rfl | hp
    · simp at hlt
    · exfalso
      have h3 : (p.1 :: bs.map (·.1)).length = (p.1 :: bs.map (·.1)).length := rfl
      have h4 : Srt ((b, x) :: bs) := hs2.2.1
      have h5 := (List.pairwise_cons.1 (show List.Pairwise _ _ from h4)).1 p.1 (List.mem_map_of_mem hp)
      simp at h5; omega
theorem klt_ins {l : KV} (hs : Srt l) {t b : Nat} {x : Value} (h : knxt l (t : Nat) = some (b, x)) : kins (klt l t) b x = klt l (b + 1) ∧ has (klt l t) b = false ∧ (klt l t).length < l.length := by
  obtain ⟨h1, h2, h3⟩ := nxt_some hs h
  have h2' : t ≤ b := by omega
  have hno : has (klt l t) b = false := by
    rw [← get_has (hs.klt t), get_klt, if_neg (by omega)]; rfl
  have he : kins (klt l t) b x = klt l (b + 1) := by
    refine ((hs.klt t).ins b x).ext (hs.klt _) fun c => ?_
    rw [get_ins (hs.klt t), get_klt, get_klt]
    by_cases e : c = b
    · subst e; rw [if_pos rfl, if_pos (by omega), (mem_get hs).2 h1]
    · rw [if_neg e]
      by_cases e1 : c < t
      · rw [if_pos e1, if_pos (by omega)]
      · rw [if_neg e1]
        by_cases e2 : c < b + 1
        · rw [if_pos e2]
          cases hk : kget l c with
          | none => rfl
          | some y => have := h3 _ ((mem_get hs).1 hk) (by omega : c < b); simp at this; omega
        · rw [if_neg e2]
  refine ⟨he, hno, ?_⟩
  have : (kins (klt l t) b x).length = (klt l t).length + 1 := by
    rw [ins_no (hs.klt t) hno]; have := pl_le (klt l t) b; simp; omega
  rw [he] at this
  have := klt_len l (b + 1)
  omega
theorem len256 {l : KV} (hs : Srt l) (hl : Low l) : l.length ≤ 256 := by
  by_cases h0 : l.length = 0
  · omega
  · have key : ∀ p, p < l.keys.length → p ≤ l.keys.getD p 0 := by
      intro p
      induction p with
      | zero => intro _; omega
      | succ p ih => intro hp; have := ih (by omega); have := srt_lt hs.keys (p := p) (q := p + 1) (by omega) hp; show p + 1 ≤ _; simp only [KV.keys] at *; omega
    have h1 := key (l.length - 1) (by rw [keys_length]; omega)
    have h2 : l.keys.getD (l.length - 1) 0 < 256 := by
      have hm : l.keys.getD (l.length - 1) 0 = (l[l.length - 1]'(by omega)).1 := by
        simp [KV.keys, List.getD, List.getElem?_eq_getElem (show l.length - 1 < l.length by omega)]
      rw [hm]; exact hl _ (List.getElem_mem _)
    omega
theorem ins_len3 {l : KV} (hs : Srt l) (b : Nat) (x : Value) : (kins l b x).length = if has l b then l.length else l.length + 1 := by
  cases h : has l b with
  | true => rw [ins_yes hs h]; have := has_yes h; simp; omega
  | false => rw [ins_no hs h]; have := pl_le l b; simp; omega
theorem kind_ge {n : Nat} (h : n ≤ 256) : n ≤ kindOf n := by
  unfold kindOf
  by_cases h1 : n ≤ 4
  · rw [if_pos h1]; exact h1
  · by_cases h2 : n ≤ 16
    · rw [if_neg h1, if_pos h2]; exact h2
    · by_cases h3 : n ≤ 48
      · rw [if_neg h1, if_neg h2, if_pos h3]; exact h3
      · rw [if_neg h1, if_neg h2, if_neg h3]; exact h
theorem kind_cases (n : Nat) : kindOf n = 4 ∨ kindOf n = 16 ∨ kindOf n = 48 ∨ kindOf n = 256 := by
  unfold kindOf
  by_cases h1 : n ≤ 4
  · rw [if_pos h1]; exact Or.inl rfl
  · by_cases h2 : n ≤ 16
    · rw [if_neg h1, if_pos h2]; exact Or.inr (Or.inl rfl)
    · by_cases h3 : n ≤ 48
      · rw [if_neg h1, if_neg h2, if_pos h3]; exact Or.inr (Or.inr (Or.inl rfl))
      · rw [if_neg h1, if_neg h2, if_neg h3]; exact Or.inr (Or.inr (Or.inr rfl))
theorem kind_step {n : Nat} (h : n < kindOf n) : kindOf (n + 1) = kindOf n := by
  unfold kindOf at *
  by_cases h1 : n ≤ 4
  · rw [if_pos h1] at h ⊢; rw [if_pos (by omega)]
  · by_cases h2 : n ≤ 16
    · rw [if_neg h1, if_pos h2] at h ⊢; rw [if_neg (by omega), if_pos (by omega)]
    · by_cases h3 : n ≤ 48
      · rw [if_neg h1, if_neg h2, if_pos h3] at h ⊢; rw [if_neg (by omega), if_neg (by omega), if_pos (by omega)]
      · rw [if_neg h1, if_neg h2, if_neg h3] at h ⊢; rw [if_neg (by omega), if_neg (by omega), if_neg (by omega)]
end Go.Proofs.Ytgijnjdcpipfiaa
/- Kids: room of the greater kinds, New, put. -/
namespace Go.Proofs.Ytgijnjdcpipfiaa
open Go.RowKit
namespace I
theorem room_board (rm : Nat) (w : World) (hn : ∀ w, Hid (Calls Try.prog 115 #[.int .i64 rm] w (bnewPost rm w))) (hq : ¬ (rm : Int) ≤ 16) : Calls Try.prog 70 #[.int .i64 rm] w (roomPost rm w) := by
  have fin : Hid (∀ w1, BdIs bdT elT u16T w1 (w.heap.size + 1) rm [] (fun _ => 0) (.slice none 0 0) [] none (.slice none 0 0) [] none → Below (w.heap.size + 1) (w.alloc (.cells #[.pointer none, .pointer none] kdT)) w1 → w1.cell? ⟨w.heap.size, 1, none⟩ = some (.pointer none) ∧ w1.frozen? ⟨w.heap.size, 1, none⟩ = false ∧ Hid (roomPost rm w (.returned (.pointer (some ⟨w.heap.size, 0, none⟩))) (w1.setCell ⟨w.heap.size, 1, none⟩ (.pointer (some ⟨w.heap.size + 1, 0, none⟩))))) := fun w1 hr hb => by
    have hb1 := (hb.block w.heap.size (by omega)).trans (heap_alloc_new w _)
    refine ⟨by simp [World.cell?, hb1], by simp [World.frozen?, hb1], rfl, _, Or.inr ⟨w.heap.size + 1, _, ?_, ⟨_, _, _, _, _, _, _, hr.keep ?_, rfl⟩, ?_, rfl⟩, ?_, ?_⟩
    · rw [setCell_list w1 w.heap.size 1 [.pointer none, .pointer none] kdT _ hb1, setRow_heap w1 _ _ _ _ _ hb1]; rfl
    · intro k hk
      rcases hk with rfl | hk | hk
      · exact Below.heap_setCell _ _ _ _ (by simp)
      · cases hk
      · cases hk
    · rintro (h | h | h)
      · omega
      · cases h
      · cases h
    · exact ((((Below.refl _ w).alloc (Nat.le_refl _) _).trans (hb.mono (by omega)))).setCell (p := ⟨w.heap.size, 1, none⟩) (Nat.le_refl _) _
    · rintro j (rfl | rfl | h | h)
      · omega
      · omega
      · cases h
      · cases h
  go_enter Try.func70, Try.ntmps70
  go_wp2_with (go_at_call 115; refine (hn _).out.mono ?_; rintro e w1 ⟨rfl, hr, hb⟩; simp only [World.size_alloc] at hr hb; obtain ⟨q1, q2, q3⟩ := fin.out _ hr hb)
  go_ret
  exact q3.out
theorem kd_room (rm : Nat) (h : rm = 4 ∨ rm = 16 ∨ rm = 48 ∨ rm = 256) (w : World) : Calls Try.prog 70 #[.int .i64 rm] w (roomPost rm w) := by
  rcases h with rfl | rfl | rfl | rfl
  · exact room_row 4 (by omega) (by omega) w
  · exact room_row 16 (by omega) (by omega) w
  · exact room_board 48 w (fun w => bd_new48 w) (by omega)
  · exact room_board 256 w (fun w => bd_new256 w) (by omega)
theorem kd_new (w : World) : Calls Try.prog 37 #[] w (roomPost 4 w) := by
  have hn : ∀ w, Hid (Calls Try.prog 70 #[.int .i64 4] w (roomPost 4 w)) := fun w => kd_room 4 (Or.inl rfl) w
  go_enter Try.func37, Try.ntmps37
  go_wp2_with (go_at_call 70; refine (hn _).out.mono ?_; rintro e w1 ⟨rfl, h⟩)
  go_ret
  exact ⟨rfl, h⟩
/-- kids k are l' now; only their own blocks have changed -/
def kPost (k rm : Nat) (l' : KV) (S : Nat → Prop) (w : World) (E : Ending) (e : Ending) (w' : World) : Prop := e = E ∧ ∃ S', KdAt w' k rm l' S' ∧ Mod S w w' ∧ ∀ j, S' j → S j ∨ w.heap.size ≤ j
variable {w : World} {k r rm : Nat} {l : KV} {S : Nat → Prop}
theorem row_set_at (h : RowAt rowT w r rm l) (b : Nat) (hb : b < 256) (hp : has l b = true ∨ l.length < rm) (x : Int) : Calls Try.prog 119 #[.pointer (some ⟨r, 0, none⟩), .int .u8 b, .int .i64 x] w (setPost r rm l b (.int .i64 x) 0 w) := by
  obtain ⟨B, X, h⟩ := h
  cases hh : has l b with
  | true => exact row_set_is h b hb hh x
  | false => exact row_set_new h b hb hh (by rcases hp with hp | hp; rw [hh] at hp; cases hp; exact hp) x
theorem row_drop_at (h : RowAt rowT w r rm l) (b : Nat) : Calls Try.prog 78 #[.pointer (some ⟨r, 0, none⟩), .int .u8 b] w fun e w' => e = .returned (.int .i64 (if has l b then 0 else 6)) ∧ RowAt rowT w' r rm (kdel l b) ∧ Mod (· = r) w w' := by
  obtain ⟨B, X, h⟩ := h
  cases hh : has l b with
  | true => exact (row_drop_is h b hh).mono fun e w' q => ⟨q.1, q.2.1, q.2.2⟩
  | false =>
    refine (row_drop_none h b hh).mono ?_
    rintro e w' ⟨rfl, n, rfl⟩
    exact ⟨rfl, by rw [del_no h.srt hh]; exact ⟨B, X, h.keep rfl⟩, (Mod.refl _ w).drewN n⟩
theorem bd_set_at (h : BdAt bdT elT u16T w r rm l S) (b : Nat) (hb : b < 256) (hp : has l b = true ∨ l.length < rm) (x : Int) : Calls Try.prog 120 #[.pointer (some ⟨r, 0, none⟩), .int .u8 b, .int .i64 x] w (bsetPost r rm l b (.int .i64 x) S w) := by
  obtain ⟨p, vx, xs, bx, vf, fs, bf, h, rfl⟩ := h
  cases hh : has l b with
  | true => exact bd_set_is h b hb hh x
  | false =>
    have hf : l.length < rm := by rcases hp with hp | hp; rw [hh] at hp; cases hp; exact hp
    rcases List.eq_nil_or_concat fs with rfl | ⟨gs, q, rfl⟩
    · exact bd_set_fresh h b hb hh hf x
    · rw [List.concat_eq_append] at h
      have := (h.pl.fin q (by simp)).1
      obtain ⟨q, rfl⟩ : ∃ q', q = q' + 1 := ⟨q - 1, by omega⟩
      exact bd_set_free h b hb hh hf x
theorem bd_drop_at (h : BdAt bdT elT u16T w r rm l S) (b : Nat) (hb : b < 256) : Calls Try.prog 79 #[.pointer (some ⟨r, 0, none⟩), .int .u8 b] w fun e w' => e = .returned (.int .i64 (if has l b then 0 else 6)) ∧ ∃ S', BdAt bdT elT u16T w' r rm (kdel l b) S' ∧ Mod S w w' ∧ ∀ k, S' k → S k ∨ w.heap.size ≤ k := by
  obtain ⟨p, vx, xs, bx, vf, fs, bf, h, rfl⟩ := h
  cases hh : has l b with
  | true => exact (bd_drop_is h b hb hh).mono fun e w' q => ⟨q.1, q.2⟩
  | false =>
    refine (bd_drop_none h b hb hh).mono ?_
    rintro e w' ⟨rfl, rfl⟩
    exact ⟨rfl, _, by rw [del_no h.pl.srt hh]; exact ⟨p, vx, xs, bx, vf, fs, bf, h, rfl⟩, Mod.refl _ w, fun k hk => Or.inl hk⟩
theorem row_kids {w' : World} (hb : w.heap[k]? = some (.cells #[.pointer (some ⟨r, 0, none⟩), .pointer none] kdT (0, 0))) (hne : r ≠ k) {l' : KV} (hr : RowAt rowT w' r rm l') (hm : Mod (· = r) w w') (E : Ending) : kPost k rm l' (fun j => j = k ∨ j = r) w E E w' :=
  ⟨rfl, _, Or.inl ⟨r, (hm.same k (Array.getElem?_eq_some_iff.1 hb).1 (fun e => hne e.symm)).trans hb, hr, hne, rfl⟩, hm.mono fun j _ e => Or.inr e, fun j hj => Or.inl hj⟩
theorem bd_kids {w' : World} (hb : w.heap[k]? = some (.cells #[.pointer none, .pointer (some ⟨r, 0, none⟩)] kdT (0, 0))) (hne : ¬ S k) {l' : KV} (hr : ∃ S', BdAt bdT elT u16T w' r rm l' S' ∧ Mod S w w' ∧ ∀ k, S' k → S k ∨ w.heap.size ≤ k) (E : Ending) : kPost k rm l' (fun j => j = k ∨ S j) w E E w' := by
  obtain ⟨S', h1, h2, h3⟩ := hr
  have hk := (Array.getElem?_eq_some_iff.1 hb).1
  refine ⟨rfl, _, Or.inr ⟨r, S', (h2.same k hk hne).trans hb, h1, fun e => ?_, rfl⟩, h2.mono fun j _ e => Or.inr e, ?_⟩
  · rcases h3 k e with e | e
    · exact hne e
    · omega
  · rintro j (rfl | hj)
    · exact Or.inl (Or.inl rfl)
    · rcases h3 j hj with e | e
      · exact Or.inl (Or.inr e)
      · exact Or.inr e
theorem kd_put (h : KdAt w k rm l S) (b : Nat) (hb : b < 256) (hp : has l b = true ∨ l.length < rm) (x : Int) : Calls Try.prog 75 #[.pointer (some ⟨k, 0, none⟩), .int .u8 b, .int .i64 x] w (kPost k rm (kins l b (.int .i64 x)) S w (.returned (.tuple #[]))) := by
  rcases h with ⟨r, hk, hr, hne, rfl⟩ | ⟨r, S', hk, hr, hne, rfl⟩
  · obtain ⟨c0, c1⟩ := cells2 hk
    have hx := Lib.hid (row_set_at hr b hb hp x)
    have fin : Hid (∀ w', RowAt rowT w' r rm (kins l b (.int .i64 x)) → Mod (· = r) w w' → kPost k rm (kins l b (.int .i64 x)) (fun j => j = k ∨ j = r) w (.returned (.tuple #[])) (.returned (.tuple #[])) w') := fun w' h1 h2 => row_kids hk hne h1 h2 _
    clear hk hr
    go_enter Try.func75, Try.ntmps75
    go_wp2_with (go_at_call 119; refine hx.out.mono ?_; rintro e w' ⟨rfl, q1, q2⟩; have q := Lib.hid (fin.out _ q1 q2); clear q1 q2)
    (try simp only [Exit.inBlock, Exit.then]); refine bodyPost_ret (results_none rfl _ _ _) rfl ?_
    exact q.out
  · obtain ⟨c0, c1⟩ := cells2 hk
    have hx := Lib.hid (bd_set_at hr b hb hp x)
    have fin : Hid (∀ w', (∃ S'', BdAt bdT elT u16T w' r rm (kins l b (.int .i64 x)) S'' ∧ Mod S' w w' ∧ ∀ k, S'' k → S' k ∨ w.heap.size ≤ k) → kPost k rm (kins l b (.int .i64 x)) (fun j => j = k ∨ S' j) w (.returned (.tuple #[])) (.returned (.tuple #[])) w') := fun w' h1 => bd_kids hk hne h1 _
    clear hk hr
    go_enter Try.func75, Try.ntmps75
    go_wp2_with (go_at_call 120; refine hx.out.mono ?_; rintro e w' ⟨rfl, q1⟩; have q := Lib.hid (fin.out _ q1); clear q1)
    go_end0
    exact q.out
end I

namespace N
theorem room_board (rm : Nat) (w : World) (hn : ∀ w, Hid (Calls Try.prog 145 #[.int .i64 rm] w (bnewPost rm w))) (hq : ¬ (rm : Int) ≤ 16) : Calls Try.prog 130 #[.int .i64 rm] w (roomPost rm w) := by
  have fin : Hid (∀ w1, BdIs bdT elT u16T w1 (w.heap.size + 1) rm [] (fun _ => 0) (.slice none 0 0) [] none (.slice none 0 0) [] none → Below (w.heap.size + 1) (w.alloc (.cells #[.pointer none, .pointer none] kdT)) w1 → w1.cell? ⟨w.heap.size, 1, none⟩ = some (.pointer none) ∧ w1.frozen? ⟨w.heap.size, 1, none⟩ = false ∧ Hid (roomPost rm w (.returned (.pointer (some ⟨w.heap.size, 0, none⟩))) (w1.setCell ⟨w.heap.size, 1, none⟩ (.pointer (some ⟨w.heap.size + 1, 0, none⟩))))) := fun w1 hr hb => by
    have hb1 := (hb.block w.heap.size (by omega)).trans (heap_alloc_new w _)
    refine ⟨by simp [World.cell?, hb1], by simp [World.frozen?, hb1], rfl, _, Or.inr ⟨w.heap.size + 1, _, ?_, ⟨_, _, _, _, _, _, _, hr.keep ?_, rfl⟩, ?_, rfl⟩, ?_, ?_⟩
    · rw [setCell_list w1 w.heap.size 1 [.pointer none, .pointer none] kdT _ hb1, setRow_heap w1 _ _ _ _ _ hb1]; rfl
    · intro k hk
      rcases hk with rfl | hk | hk
      · exact Below.heap_setCell _ _ _ _ (by simp)
      · cases hk
      · cases hk
    · rintro (h | h | h)
      · omega
      · cases h
      · cases h
    · exact ((((Below.refl _ w).alloc (Nat.le_refl _) _).trans (hb.mono (by omega)))).setCell (p := ⟨w.heap.size, 1, none⟩) (Nat.le_refl _) _
    · rintro j (rfl | rfl | h | h)
      · omega
      · omega
      · cases h
      · cases h
  go_enter Try.func130, Try.ntmps130
  go_wp2_with (go_at_call 145; refine (hn _).out.mono ?_; rintro e w1 ⟨rfl, hr, hb⟩; simp only [World.size_alloc] at hr hb; obtain ⟨q1, q2, q3⟩ := fin.out _ hr hb)
  go_ret
  exact q3.out
theorem kd_room (rm : Nat) (h : rm = 4 ∨ rm = 16 ∨ rm = 48 ∨ rm = 256) (w : World) : Calls Try.prog 130 #[.int .i64 rm] w (roomPost rm w) := by
  rcases h with rfl | rfl | rfl | rfl
  · exact room_row 4 (by omega) (by omega) w
  · exact room_row 16 (by omega) (by omega) w
  · exact room_board 48 w (fun w => bd_new48 w) (by omega)
  · exact room_board 256 w (fun w => bd_new256 w) (by omega)
theorem kd_new (w : World) : Calls Try.prog 103 #[] w (roomPost 4 w) := by
  have hn : ∀ w, Hid (Calls Try.prog 130 #[.int .i64 4] w (roomPost 4 w)) := fun w => kd_room 4 (Or.inl rfl) w
  go_enter Try.func103, Try.ntmps103
  go_wp2_with (go_at_call 130; refine (hn _).out.mono ?_; rintro e w1 ⟨rfl, h⟩)
  go_ret
  exact ⟨rfl, h⟩
/-- kids k are l' now; only their own blocks have changed -/
def kPost (k rm : Nat) (l' : KV) (S : Nat → Prop) (w : World) (E : Ending) (e : Ending) (w' : World) : Prop := e = E ∧ ∃ S', KdAt w' k rm l' S' ∧ Mod S w w' ∧ ∀ j, S' j → S j ∨ w.heap.size ≤ j
variable {w : World} {k r rm : Nat} {l : KV} {S : Nat → Prop}
theorem row_set_at (h : RowAt rowT w r rm l) (b : Nat) (hb : b < 256) (hp : has l b = true ∨ l.length < rm) (x : (Option Addr)) : Calls Try.prog 131 #[.pointer (some ⟨r, 0, none⟩), .int .u8 b, .pointer x] w (setPost r rm l b (.pointer x) 0 w) := by
  obtain ⟨B, X, h⟩ := h
  cases hh : has l b with
  | true => exact row_set_is h b hb hh x
  | false => exact row_set_new h b hb hh (by rcases hp with hp | hp; rw [hh] at hp; cases hp; exact hp) x
theorem row_drop_at (h : RowAt rowT w r rm l) (b : Nat) : Calls Try.prog 97 #[.pointer (some ⟨r, 0, none⟩), .int .u8 b] w fun e w' => e = .returned (.int .i64 (if has l b then 0 else 6)) ∧ RowAt rowT w' r rm (kdel l b) ∧ Mod (· = r) w w' := by
  obtain ⟨B, X, h⟩ := h
  cases hh : has l b with
  | true => exact (row_drop_is h b hh).mono fun e w' q => ⟨q.1, q.2.1, q.2.2⟩
  | false =>
    refine (row_drop_none h b hh).mono ?_
    rintro e w' ⟨rfl, n, rfl⟩
    exact ⟨rfl, by rw [del_no h.srt hh]; exact ⟨B, X, h.keep rfl⟩, (Mod.refl _ w).drewN n⟩
theorem bd_set_at (h : BdAt bdT elT u16T w r rm l S) (b : Nat) (hb : b < 256) (hp : has l b = true ∨ l.length < rm) (x : (Option Addr)) : Calls Try.prog 132 #[.pointer (some ⟨r, 0, none⟩), .int .u8 b, .pointer x] w (bsetPost r rm l b (.pointer x) S w) := by
  obtain ⟨p, vx, xs, bx, vf, fs, bf, h, rfl⟩ := h
  cases hh : has l b with
  | true => exact bd_set_is h b hb hh x
  | false =>
    have hf : l.length < rm := by rcases hp with hp | hp; rw [hh] at hp; cases hp; exact hp
    rcases List.eq_nil_or_concat fs with rfl | ⟨gs, q, rfl⟩
    · exact bd_set_fresh h b hb hh hf x
    · rw [List.concat_eq_append] at h
      have := (h.pl.fin q (by simp)).1
      obtain ⟨q, rfl⟩ : ∃ q', q = q' + 1 := ⟨q - 1, by omega⟩
      exact bd_set_free h b hb hh hf x
theorem bd_drop_at (h : BdAt bdT elT u16T w r rm l S) (b : Nat) (hb : b < 256) : Calls Try.prog 98 #[.pointer (some ⟨r, 0, none⟩), .int .u8 b] w fun e w' => e = .returned (.int .i64 (if has l b then 0 else 6)) ∧ ∃ S', BdAt bdT elT u16T w' r rm (kdel l b) S' ∧ Mod S w w' ∧ ∀ k, S' k → S k ∨ w.heap.size ≤ k := by
  obtain ⟨p, vx, xs, bx, vf, fs, bf, h, rfl⟩ := h
  cases hh : has l b with
  | true => exact (bd_drop_is h b hb hh).mono fun e w' q => ⟨q.1, q.2⟩
  | false =>
    refine (bd_drop_none h b hb hh).mono ?_
    rintro e w' ⟨rfl, rfl⟩
    exact ⟨rfl, _, by rw [del_no h.pl.srt hh]; exact ⟨p, vx, xs, bx, vf, fs, bf, h, rfl⟩, Mod.refl _ w, fun k hk => Or.inl hk⟩
theorem row_kids {w' : World} (hb : w.heap[k]? = some (.cells #[.pointer (some ⟨r, 0, none⟩), .pointer none] kdT (0, 0))) (hne : r ≠ k) {l' : KV} (hr : RowAt rowT w' r rm l') (hm : Mod (· = r) w w') (E : Ending) : kPost k rm l' (fun j => j = k ∨ j = r) w E E w' :=
  ⟨rfl, _, Or.inl ⟨r, (hm.same k (Array.getElem?_eq_some_iff.1 hb).1 (fun e => hne e.symm)).trans hb, hr, hne, rfl⟩, hm.mono fun j _ e => Or.inr e, fun j hj => Or.inl hj⟩
theorem bd_kids {w' : World} (hb : w.heap[k]? = some (.cells #[.pointer none, .pointer (some ⟨r, 0, none⟩)] kdT (0, 0))) (hne : ¬ S k) {l' : KV} (hr : ∃ S', BdAt bdT elT u16T w' r rm l' S' ∧ Mod S w w' ∧ ∀ k, S' k → S k ∨ w.heap.size ≤ k) (E : Ending) : kPost k rm l' (fun j => j = k ∨ S j) w E E w' := by
  obtain ⟨S', h1, h2, h3⟩ := hr
  have hk := (Array.getElem?_eq_some_iff.1 hb).1
  refine ⟨rfl, _, Or.inr ⟨r, S', (h2.same k hk hne).trans hb, h1, fun e => ?_, rfl⟩, h2.mono fun j _ e => Or.inr e, ?_⟩
  · rcases h3 k e with e | e
    · exact hne e
    · omega
  · rintro j (rfl | hj)
    · exact Or.inl (Or.inl rfl)
    · rcases h3 j hj with e | e
      · exact Or.inl (Or.inr e)
      · exact Or.inr e
theorem kd_put (h : KdAt w k rm l S) (b : Nat) (hb : b < 256) (hp : has l b = true ∨ l.length < rm) (x : (Option Addr)) : Calls Try.prog 96 #[.pointer (some ⟨k, 0, none⟩), .int .u8 b, .pointer x] w (kPost k rm (kins l b (.pointer x)) S w (.returned (.tuple #[]))) := by
  rcases h with ⟨r, hk, hr, hne, rfl⟩ | ⟨r, S', hk, hr, hne, rfl⟩
  · obtain ⟨c0, c1⟩ := cells2 hk
    have hx := Lib.hid (row_set_at hr b hb hp x)
    have fin : Hid (∀ w', RowAt rowT w' r rm (kins l b (.pointer x)) → Mod (· = r) w w' → kPost k rm (kins l b (.pointer x)) (fun j => j = k ∨ j = r) w (.returned (.tuple #[])) (.returned (.tuple #[])) w') := fun w' h1 h2 => row_kids hk hne h1 h2 _
    clear hk hr
    go_enter Try.func96, Try.ntmps96
    go_wp2_with (go_at_call 131; refine hx.out.mono ?_; rintro e w' ⟨rfl, q1, q2⟩; have q := Lib.hid (fin.out _ q1 q2); clear q1 q2)
    (try simp only [Exit.inBlock, Exit.then]); refine bodyPost_ret (results_none rfl _ _ _) rfl ?_
    exact q.out
  · obtain ⟨c0, c1⟩ := cells2 hk
    have hx := Lib.hid (bd_set_at hr b hb hp x)
    have fin : Hid (∀ w', (∃ S'', BdAt bdT elT u16T w' r rm (kins l b (.pointer x)) S'' ∧ Mod S' w w' ∧ ∀ k, S'' k → S' k ∨ w.heap.size ≤ k) → kPost k rm (kins l b (.pointer x)) (fun j => j = k ∨ S' j) w (.returned (.tuple #[])) (.returned (.tuple #[])) w') := fun w' h1 => bd_kids hk hne h1 _
    clear hk hr
    go_enter Try.func96, Try.ntmps96
    go_wp2_with (go_at_call 132; refine hx.out.mono ?_; rintro e w' ⟨rfl, q1⟩; have q := Lib.hid (fin.out _ q1); clear q1)
    go_end0
    exact q.out
end N
end Go.Proofs.Ytgijnjdcpipfiaa
/- Kids: move. -/
namespace Go.Proofs.Ytgijnjdcpipfiaa
open Go.RowKit
namespace I
variable {w : World} {k rm rm' : Nat} {l : KV} {S : Nat → Prop}
theorem kd_info : (Try.prog.info? kdT).map (·.size) = some 2 := by kernel_rfl
/-- what of the things has been moved, those below t -/
def mvInv (rm' : Nat) (l : KV) (w : World) (t : Nat) (wr : World) : Prop :=
  ∃ S1, KdAt wr w.heap.size rm' (klt l t) S1 ∧ Below w.heap.size w wr ∧ ∀ j, S1 j → w.heap.size ≤ j
theorem mvInv.drewN {t : Nat} {wr : World} (h : mvInv rm' l w t wr) (n : Nat) : mvInv rm' l w t (wr.drewN n) := by
  obtain ⟨S1, h1, h2, h3⟩ := h
  exact ⟨S1, h1.drewN n, ⟨h2.os, h2.tape, h2.output, h2.size, h2.block⟩, h3⟩
/-- the kids' own two cells are put where the first ones were -/
def mvEnd (k rm' : Nat) (l : KV) (S : Nat → Prop) (w wr : World) : Prop :=
  ∃ a b o0 o1, wr.cell? ⟨w.heap.size, 0, none⟩ = some (.pointer a) ∧ wr.cell? ⟨w.heap.size, 1, none⟩ = some (.pointer b) ∧ wr.cell? ⟨k, 0, none⟩ = some o0 ∧ wr.cell? ⟨k, 1, none⟩ = some o1 ∧ (∀ j, wr.frozen? ⟨k, j, none⟩ = false) ∧ Hid (kPost k rm' l S w (.returned (.tuple #[])) (.returned (.tuple #[])) ((wr.setCell ⟨k, 0, none⟩ (.pointer a)).setCell ⟨k, 1, none⟩ (.pointer b)))
theorem mv_end (h : KdAt w k rm l S) {t : Nat} {wr : World} (hi : mvInv rm' l w t wr) (ht : klt l t = l) : mvEnd k rm' l S w wr := by
  obtain ⟨S1, h1, h2, h3⟩ := hi
  rw [ht] at h1
  have hk : k < w.heap.size := h.lt k h.self
  have ho : ∃ o0 o1, w.heap[k]? = some (.cells [o0, o1].toArray kdT (0, 0)) := by
    rcases h with ⟨r, hb, _⟩ | ⟨r, S', hb, _⟩ <;> exact ⟨_, _, hb⟩
  obtain ⟨o0, o1, ho⟩ := ho
  have ho' := (h2.block k hk).trans ho
  have e1 : ∀ a, (wr.setCell ⟨k, 0, none⟩ a).heap[k]? = some (.cells [a, o1].toArray kdT (0, 0)) := fun a => by
    rw [setCell_list wr k 0 _ kdT _ ho', setRow_heap wr _ _ _ _ _ ho']; rfl
  have e2 : ∀ a b, ((wr.setCell ⟨k, 0, none⟩ a).setCell ⟨k, 1, none⟩ b).heap[k]? = some (.cells #[a, b] kdT (0, 0)) := fun a b => by
    rw [setCell_list (wr.setCell ⟨k, 0, none⟩ a) k 1 _ kdT _ (e1 a), setRow_heap (wr.setCell ⟨k, 0, none⟩ a) _ _ _ _ _ (e1 a)]; rfl
  have e3 : ∀ a b j, j ≠ k → ((wr.setCell ⟨k, 0, none⟩ a).setCell ⟨k, 1, none⟩ b).heap[j]? = wr.heap[j]? := fun a b j hj =>
    (Below.heap_setCell _ _ _ _ hj).trans (Below.heap_setCell _ _ _ _ hj)
  have hM : ∀ a b, Mod S w ((wr.setCell ⟨k, 0, none⟩ a).setCell ⟨k, 1, none⟩ b) := fun a b =>
    ((Mod.of_below h2).setCell ⟨k, 0, none⟩ a (fun _ => h.self)).setCell ⟨k, 1, none⟩ b (fun _ => h.self)
  have q0 : wr.cell? ⟨k, 0, none⟩ = some o0 := by rw [cell_of_blk ho']; rfl
  have q1 : wr.cell? ⟨k, 1, none⟩ = some o1 := by rw [cell_of_blk ho']; rfl
  have q2 : ∀ j, wr.frozen? ⟨k, j, none⟩ = false := fun j => frozen_of_blk ho' j
  rcases h1 with ⟨r, hb, hr, hne, rfl⟩ | ⟨r, S', hb, hr, hne, rfl⟩
  · have hr1 := h3 r (Or.inr rfl)
    obtain ⟨c0, c1⟩ := cells2 hb
    refine ⟨_, _, _, _, c0, c1, q0, q1, q2, rfl, fun j => j = k ∨ j = r, Or.inl ⟨r, e2 _ _, hr.keep (e3 _ _ _ (by omega)), by omega, rfl⟩, hM _ _, ?_⟩
    rintro j (rfl | rfl)
    · exact Or.inl h.self
    · exact Or.inr hr1
  · obtain ⟨c0, c1⟩ := cells2 hb
    refine ⟨_, _, _, _, c0, c1, q0, q1, q2, rfl, fun j => j = k ∨ S' j, Or.inr ⟨r, S', e2 _ _, hr.keep (fun j hj => e3 _ _ _ (by have := h3 j (Or.inr hj); omega)), fun e => by have := h3 k (Or.inr e); omega, rfl⟩, hM _ _, ?_⟩
    rintro j (rfl | hj)
    · exact Or.inl h.self
    · exact Or.inr (h3 j (Or.inr hj))
theorem knxt_val (hv : Vals l) {t : Int} {b : Nat} {v : Value} (h : knxt l t = some (b, v)) : ∃ x : Int, v = .int .i64 x := hv _ (List.mem_of_find?_eq_some h)
set_option maxHeartbeats 1000000 in
set_option maxRecDepth 100000 in
theorem kd_move (h : KdAt w k rm l S) (hv : Vals l) (hrm : rm' = 4 ∨ rm' = 16 ∨ rm' = 48 ∨ rm' = 256) (hle : l.length ≤ rm') : Calls Try.prog 74 #[.pointer (some ⟨k, 0, none⟩), .int .i64 rm'] w (kPost k rm' l S w (.returned (.tuple #[]))) := by
  obtain ⟨hs, hl, _⟩ := h.srt
  have hroom := Lib.hid (kd_room rm' hrm w)
  have H := Lib.hid h
  have HS := Lib.hid hs
  have HL := Lib.hid hl
  have HV := Lib.hid hv
  have HE := Lib.hid hle
  have start : Hid (∀ w1, (∃ S1, KdAt w1 w.heap.size rm' [] S1 ∧ Below w.heap.size w w1 ∧ ∀ j, S1 j → w.heap.size ≤ j) → mvInv rm' l w 0 w1) := fun w1 q => by
    obtain ⟨S1, q1, q2, q3⟩ := q
    exact ⟨S1, by rw [klt_zero]; exact q1, q2, q3⟩
  have nx : Hid (∀ t wr, t < 256 → mvInv rm' l w t wr → Calls Try.prog 118 #[.pointer (some ⟨k, 0, none⟩), .int .i64 (t : Nat)] wr fun e w' => e = .returned (atV (knxt l (t : Nat))) ∧ ∃ n, w' = wr.drewN n) := fun t wr ht q => by
    obtain ⟨S1, q1, q2, q3⟩ := q
    exact kd_next (h.below q2) (t : Nat) (by omega) (by omega)
  have pt : Hid (∀ t wr b x, mvInv rm' l w t wr → knxt l (t : Nat) = some (b, .int .i64 x) → Calls Try.prog 75 #[.pointer (some ⟨w.heap.size, 0, none⟩), .int .u8 (b : Nat), .int .i64 x] wr fun e w' => e = .returned (.tuple #[]) ∧ mvInv rm' l w (b + 1) w') := fun t wr b x q hk => by
    obtain ⟨S1, q1, q2, q3⟩ := q
    obtain ⟨h1, h2, h3⟩ := klt_ins hs hk
    refine (kd_put q1 b (hl _ (nxt_some hs hk).1) (Or.inr (by omega)) x).mono ?_
    rintro e w' ⟨rfl, S2, p1, p2, p3⟩
    refine ⟨rfl, S2, by rw [← h1]; exact p1, ?_, ?_⟩
    · refine q2.trans (?_ : Below w.heap.size wr w'); exact ⟨p2.os, p2.tape, p2.output, p2.size, fun j hj => p2.same j (Nat.lt_of_lt_of_le hj q2.size) (fun e => by have := q3 j e; omega)⟩
    · intro j hj
      rcases p3 j hj with e | e
      · exact q3 j e
      · have h9 := q2.size; exact Nat.le_trans h9 e
  have fin : Hid (∀ t wr, mvInv rm' l w t wr → klt l t = l → mvEnd k rm' l S w wr) := fun t wr q e => mv_end h q e
  clear h hs hl hv hle hrm
  go_enter Try.func74, Try.ntmps74
  go_wp2_with (go_at_call 70; refine hroom.out.mono ?_; rintro e w1 ⟨rfl, q⟩; have q := Lib.hid (start.out _ q))
  go_loopw [5] (fun vt wr => ∃ t : Nat, vt = .int .i64 (t : Nat) ∧ t ≤ 256 ∧ Hid (mvInv rm' l w t wr)) (fun vt _ => (256 - intOf vt).toNat)
  case atStart => exact ⟨0, rfl, by omega, q⟩
  case round =>
    obtain ⟨t, rfl, ht, hi⟩ := hrel
    by_cases hlt : t < 256
    · have hlt2 : (t : Int) < 256 := by omega
      have nx1 := Lib.hid (nx.out t wr hlt hi.out)
      cases hk : knxt l (t : Nat) with
      | none =>
        have hK : Hid (atV (knxt l (t : Nat)) = .tuple #[.int .u8 0, (.int .i64 0), .bool false]) := by show _ = _; rw [hk]; rfl
        have hf := fun n => fin.out t (wr.drewN n) (hi.out.drewN n) (klt_all hk)
        have HF := Lib.hid hf
        clear hk hlt hf
        go_wp2_with (go_at_call 118; refine nx1.out.mono ?_; rintro e w' ⟨rfl, nd, rfl⟩; rw [hK.out]; obtain ⟨a, b, o0, o1, g1, g2, g3, g4, g5, f4⟩ := HF.out nd)
        go_end0
        exact f4.out
      | some p =>
        obtain ⟨b, v⟩ := p
        obtain ⟨x, rfl⟩ := knxt_val HV.out hk
        have hK : Hid (atV (knxt l (t : Nat)) = .tuple #[.int .u8 (b : Nat), .int .i64 x, .bool true]) := by show _ = _; rw [hk]; rfl
        have hb : b < 256 := HL.out _ (nxt_some HS.out hk).1
        have htb : t ≤ b := by have := (nxt_some HS.out hk).2.1; omega
        have pt1 := Lib.hid (fun n => pt.out t (wr.drewN n) b x (hi.out.drewN n) hk)
        have hw8 : IntKind.i64.wrap ((b : Nat) : Int) = (b : Nat) := IntWalk.i64_in _ (by omega)
        have hw9 : IntKind.i64.wrap (((b : Nat) : Int) + 1) = ((b : Nat) : Int) + 1 := IntWalk.i64_in _ (by omega)
        clear hk hlt
        go_wp2_with (first | (go_at_call 118; refine nx1.out.mono ?_; rintro e w' ⟨rfl, nd, rfl⟩; rw [hK.out]) | (go_at_call 75; refine (pt1.out _).mono ?_; rintro e w' ⟨rfl, hi2⟩; have hi2 := Lib.hid hi2))
        go_roundw
        case rel => exact ⟨b + 1, (by first | rfl | go_num), by omega, hi2⟩
        case measure => (simp [intOf]) <;> omega
    · have hlt2 : ¬ (t : Int) < 256 := by omega
      have hf := fin.out t wr hi.out (by
        unfold klt; rw [List.filter_eq_self]; intro p hp; have := HL.out p hp; simp; omega)
      obtain ⟨a, b, o0, o1, g1, g2, g3, g4, g5, f4⟩ := hf
      go_wp2_with fail
      go_end0
      exact f4.out
end I

namespace N
variable {w : World} {k rm rm' : Nat} {l : KV} {S : Nat → Prop}
theorem kd_info : (Try.prog.info? kdT).map (·.size) = some 2 := by kernel_rfl
/-- what of the things has been moved, those below t -/
def mvInv (rm' : Nat) (l : KV) (w : World) (t : Nat) (wr : World) : Prop :=
  ∃ S1, KdAt wr w.heap.size rm' (klt l t) S1 ∧ Below w.heap.size w wr ∧ ∀ j, S1 j → w.heap.size ≤ j
theorem mvInv.drewN {t : Nat} {wr : World} (h : mvInv rm' l w t wr) (n : Nat) : mvInv rm' l w t (wr.drewN n) := by
  obtain ⟨S1, h1, h2, h3⟩ := h
  exact ⟨S1, h1.drewN n, ⟨h2.os, h2.tape, h2.output, h2.size, h2.block⟩, h3⟩
/-- the kids' own two cells are put where the first ones were -/
def mvEnd (k rm' : Nat) (l : KV) (S : Nat → Prop) (w wr : World) : Prop :=
  ∃ a b o0 o1, wr.cell? ⟨w.heap.size, 0, none⟩ = some (.pointer a) ∧ wr.cell? ⟨w.heap.size, 1, none⟩ = some (.pointer b) ∧ wr.cell? ⟨k, 0, none⟩ = some o0 ∧ wr.cell? ⟨k, 1, none⟩ = some o1 ∧ (∀ j, wr.frozen? ⟨k, j, none⟩ = false) ∧ Hid (kPost k rm' l S w (.returned (.tuple #[])) (.returned (.tuple #[])) ((wr.setCell ⟨k, 0, none⟩ (.pointer a)).setCell ⟨k, 1, none⟩ (.pointer b)))
theorem mv_end (h : KdAt w k rm l S) {t : Nat} {wr : World} (hi : mvInv rm' l w t wr) (ht : klt l t = l) : mvEnd k rm' l S w wr := by
  obtain ⟨S1, h1, h2, h3⟩ := hi
  rw [ht] at h1
  have hk : k < w.heap.size := h.lt k h.self
  have ho : ∃ o0 o1, w.heap[k]? = some (.cells [o0, o1].toArray kdT (0, 0)) := by
    rcases h with ⟨r, hb, _⟩ | ⟨r, S', hb, _⟩ <;> exact ⟨_, _, hb⟩
  obtain ⟨o0, o1, ho⟩ := ho
  have ho' := (h2.block k hk).trans ho
  have e1 : ∀ a, (wr.setCell ⟨k, 0, none⟩ a).heap[k]? = some (.cells [a, o1].toArray kdT (0, 0)) := fun a => by
    rw [setCell_list wr k 0 _ kdT _ ho', setRow_heap wr _ _ _ _ _ ho']; rfl
  have e2 : ∀ a b, ((wr.setCell ⟨k, 0, none⟩ a).setCell ⟨k, 1, none⟩ b).heap[k]? = some (.cells #[a, b] kdT (0, 0)) := fun a b => by
    rw [setCell_list (wr.setCell ⟨k, 0, none⟩ a) k 1 _ kdT _ (e1 a), setRow_heap (wr.setCell ⟨k, 0, none⟩ a) _ _ _ _ _ (e1 a)]; rfl
  have e3 : ∀ a b j, j ≠ k → ((wr.setCell ⟨k, 0, none⟩ a).setCell ⟨k, 1, none⟩ b).heap[j]? = wr.heap[j]? := fun a b j hj =>
    (Below.heap_setCell _ _ _ _ hj).trans (Below.heap_setCell _ _ _ _ hj)
  have hM : ∀ a b, Mod S w ((wr.setCell ⟨k, 0, none⟩ a).setCell ⟨k, 1, none⟩ b) := fun a b =>
    ((Mod.of_below h2).setCell ⟨k, 0, none⟩ a (fun _ => h.self)).setCell ⟨k, 1, none⟩ b (fun _ => h.self)
  have q0 : wr.cell? ⟨k, 0, none⟩ = some o0 := by rw [cell_of_blk ho']; rfl
  have q1 : wr.cell? ⟨k, 1, none⟩ = some o1 := by rw [cell_of_blk ho']; rfl
  have q2 : ∀ j, wr.frozen? ⟨k, j, none⟩ = false := fun j => frozen_of_blk ho' j
  rcases h1 with ⟨r, hb, hr, hne, rfl⟩ | ⟨r, S', hb, hr, hne, rfl⟩
  · have hr1 := h3 r (Or.inr rfl)
    obtain ⟨c0, c1⟩ := cells2 hb
    refine ⟨_, _, _, _, c0, c1, q0, q1, q2, rfl, fun j => j = k ∨ j = r, Or.inl ⟨r, e2 _ _, hr.keep (e3 _ _ _ (by omega)), by omega, rfl⟩, hM _ _, ?_⟩
    rintro j (rfl | rfl)
    · exact Or.inl h.self
    · exact Or.inr hr1
  · obtain ⟨c0, c1⟩ := cells2 hb
    refine ⟨_, _, _, _, c0, c1, q0, q1, q2, rfl, fun j => j = k ∨ S' j, Or.inr ⟨r, S', e2 _ _, hr.keep (fun j hj => e3 _ _ _ (by have := h3 j (Or.inr hj); omega)), fun e => by have := h3 k (Or.inr e); omega, rfl⟩, hM _ _, ?_⟩
    rintro j (rfl | hj)
    · exact Or.inl h.self
    · exact Or.inr (h3 j (Or.inr hj))
theorem knxt_val (hv : Vals l) {t : Int} {b : Nat} {v : Value} (h : knxt l t = some (b, v)) : ∃ x : (Option Addr), v = .pointer x := hv _ (List.mem_of_find?_eq_some h)
set_option maxHeartbeats 1000000 in
set_option maxRecDepth 100000 in
theorem kd_move (h : KdAt w k rm l S) (hv : Vals l) (hrm : rm' = 4 ∨ rm' = 16 ∨ rm' = 48 ∨ rm' = 256) (hle : l.length ≤ rm') : Calls Try.prog 95 #[.pointer (some ⟨k, 0, none⟩), .int .i64 rm'] w (kPost k rm' l S w (.returned (.tuple #[]))) := by
  obtain ⟨hs, hl, _⟩ := h.srt
  have hroom := Lib.hid (kd_room rm' hrm w)
  have H := Lib.hid h
  have HS := Lib.hid hs
  have HL := Lib.hid hl
  have HV := Lib.hid hv
  have HE := Lib.hid hle
  have start : Hid (∀ w1, (∃ S1, KdAt w1 w.heap.size rm' [] S1 ∧ Below w.heap.size w w1 ∧ ∀ j, S1 j → w.heap.size ≤ j) → mvInv rm' l w 0 w1) := fun w1 q => by
    obtain ⟨S1, q1, q2, q3⟩ := q
    exact ⟨S1, by rw [klt_zero]; exact q1, q2, q3⟩
  have nx : Hid (∀ t wr, t < 256 → mvInv rm' l w t wr → Calls Try.prog 44 #[.pointer (some ⟨k, 0, none⟩), .int .i64 (t : Nat)] wr fun e w' => e = .returned (atV (knxt l (t : Nat))) ∧ ∃ n, w' = wr.drewN n) := fun t wr ht q => by
    obtain ⟨S1, q1, q2, q3⟩ := q
    exact kd_next (h.below q2) (t : Nat) (by omega) (by omega)
  have pt : Hid (∀ t wr b x, mvInv rm' l w t wr → knxt l (t : Nat) = some (b, .pointer x) → Calls Try.prog 96 #[.pointer (some ⟨w.heap.size, 0, none⟩), .int .u8 (b : Nat), .pointer x] wr fun e w' => e = .returned (.tuple #[]) ∧ mvInv rm' l w (b + 1) w') := fun t wr b x q hk => by
    obtain ⟨S1, q1, q2, q3⟩ := q
    obtain ⟨h1, h2, h3⟩ := klt_ins hs hk
    refine (kd_put q1 b (hl _ (nxt_some hs hk).1) (Or.inr (by omega)) x).mono ?_
    rintro e w' ⟨rfl, S2, p1, p2, p3⟩
    refine ⟨rfl, S2, by rw [← h1]; exact p1, ?_, ?_⟩
    · refine q2.trans (?_ : Below w.heap.size wr w'); exact ⟨p2.os, p2.tape, p2.output, p2.size, fun j hj => p2.same j (Nat.lt_of_lt_of_le hj q2.size) (fun e => by have := q3 j e; omega)⟩
    · intro j hj
      rcases p3 j hj with e | e
      · exact q3 j e
      · have h9 := q2.size; exact Nat.le_trans h9 e
  have fin : Hid (∀ t wr, mvInv rm' l w t wr → klt l t = l → mvEnd k rm' l S w wr) := fun t wr q e => mv_end h q e
  clear h hs hl hv hle hrm
  go_enter Try.func95, Try.ntmps95
  go_wp2_with (go_at_call 130; refine hroom.out.mono ?_; rintro e w1 ⟨rfl, q⟩; have q := Lib.hid (start.out _ q))
  go_loopw [5] (fun vt wr => ∃ t : Nat, vt = .int .i64 (t : Nat) ∧ t ≤ 256 ∧ Hid (mvInv rm' l w t wr)) (fun vt _ => (256 - intOf vt).toNat)
  case atStart => exact ⟨0, rfl, by omega, q⟩
  case round =>
    obtain ⟨t, rfl, ht, hi⟩ := hrel
    by_cases hlt : t < 256
    · have hlt2 : (t : Int) < 256 := by omega
      have nx1 := Lib.hid (nx.out t wr hlt hi.out)
      cases hk : knxt l (t : Nat) with
      | none =>
        have hK : Hid (atV (knxt l (t : Nat)) = .tuple #[.int .u8 0, (.pointer none), .bool false]) := by show _ = _; rw [hk]; rfl
        have hf := fun n => fin.out t (wr.drewN n) (hi.out.drewN n) (klt_all hk)
        have HF := Lib.hid hf
        clear hk hlt hf
        go_wp2_with (go_at_call 44; refine nx1.out.mono ?_; rintro e w' ⟨rfl, nd, rfl⟩; rw [hK.out]; obtain ⟨a, b, o0, o1, g1, g2, g3, g4, g5, f4⟩ := HF.out nd)
        go_end0
        exact f4.out
      | some p =>
        obtain ⟨b, v⟩ := p
        obtain ⟨x, rfl⟩ := knxt_val HV.out hk
        have hK : Hid (atV (knxt l (t : Nat)) = .tuple #[.int .u8 (b : Nat), .pointer x, .bool true]) := by show _ = _; rw [hk]; rfl
        have hb : b < 256 := HL.out _ (nxt_some HS.out hk).1
        have htb : t ≤ b := by have := (nxt_some HS.out hk).2.1; omega
        have pt1 := Lib.hid (fun n => pt.out t (wr.drewN n) b x (hi.out.drewN n) hk)
        have hw8 : IntKind.i64.wrap ((b : Nat) : Int) = (b : Nat) := IntWalk.i64_in _ (by omega)
        have hw9 : IntKind.i64.wrap (((b : Nat) : Int) + 1) = ((b : Nat) : Int) + 1 := IntWalk.i64_in _ (by omega)
        clear hk hlt
        go_wp2_with (first | (go_at_call 44; refine nx1.out.mono ?_; rintro e w' ⟨rfl, nd, rfl⟩; rw [hK.out]) | (go_at_call 96; refine (pt1.out _).mono ?_; rintro e w' ⟨rfl, hi2⟩; have hi2 := Lib.hid hi2))
        go_roundw
        case rel => exact ⟨b + 1, (by first | rfl | go_num), by omega, hi2⟩
        case measure => (simp [intOf]) <;> omega
    · have hlt2 : ¬ (t : Int) < 256 := by omega
      have hf := fin.out t wr hi.out (by
        unfold klt; rw [List.filter_eq_self]; intro p hp; have := HL.out p hp; simp; omega)
      obtain ⟨a, b, o0, o1, g1, g2, g3, g4, g5, f4⟩ := hf
      go_wp2_with fail
      go_end0
      exact f4.out
end N
end Go.Proofs.Ytgijnjdcpipfiaa
/- Kids: Set and Drop. -/
namespace Go.Proofs.Ytgijnjdcpipfiaa
open Go.RowKit
theorem kindOf_nat (n : Nat) (h : n ≤ 256) (w : World) : Calls Try.prog 7 #[.int .i64 (n : Nat)] w fun e w' => e = .returned (.int .i64 (kindOf n : Nat)) ∧ w = w' := by
  have := kindOf_any (n : Int) w
  rw [kindZ_nat n h] at this
  exact this
namespace I
variable {w : World} {k rm rm' : Nat} {l : KV} {S : Nat → Prop}
theorem kok_yes (h : KdAt w k rm l S) : Calls Try.prog 71 #[.pointer (some ⟨k, 0, none⟩)] w fun e w' => e = .returned (.bool true) ∧ w = w' := by
  rcases h with ⟨r, hb, _⟩ | ⟨r, S', hb, _⟩
  · exact kok_row _ _ _ (cells2 hb).1
  · exact kok_board _ _ _ (cells2 hb).1 (cells2 hb).2
theorem Vals.ins (hv : Vals l) (b : Nat) (x : Int) : Vals (kins l b (.int .i64 x)) := by
  intro p hp
  simp only [kins, List.mem_append, List.mem_cons, List.mem_filter] at hp
  rcases hp with ⟨hp, _⟩ | rfl | ⟨hp, _⟩
  · exact hv p hp
  · exact ⟨x, rfl⟩
  · exact hv p hp
theorem Vals.del (hv : Vals l) (b : Nat) : Vals (kdel l b) := fun p hp => hv p (List.mem_filter.1 hp).1
theorem Vals.klt (hv : Vals l) (t : Nat) : Vals (klt l t) := fun p hp => hv p (List.mem_filter.1 hp).1
theorem kPost.ret {k rm : Nat} {l' : KV} {E E' e : Ending} {w' : World} (h : kPost k rm l' S w E e w') : kPost k rm l' S w E' E' w' := ⟨rfl, h.2⟩
theorem kPost.drewN {k rm : Nat} {l' : KV} {E e : Ending} {w' : World} (h : kPost k rm l' S w E e w') (n : Nat) : kPost k rm l' S w E e (w'.drewN n) := by
  obtain ⟨h1, S', h2, h3, h4⟩ := h
  exact ⟨h1, S', h2.drewN n, h3.drewN n, h4⟩
theorem kPost.from {k rm : Nat} {l' : KV} {E e : Ending} {n : Nat} {w' : World} (h : kPost k rm l' S (w.drewN n) E e w') : kPost k rm l' S w E e w' := by
  obtain ⟨h1, S', h2, h3, h4⟩ := h
  exact ⟨h1, S', h2, ⟨h3.os, h3.tape, h3.output, h3.size, h3.same⟩, h4⟩
/-- one after the other one -/
theorem kPost.after {k rm rm2 : Nat} {l1 l2 : KV} {S' : Nat → Prop} {w1 w2 : World} {E e : Ending} (h2 : Mod S w w1) (h3 : ∀ j, S' j → S j ∨ w.heap.size ≤ j) (h : kPost k rm2 l2 S' w1 E e w2) : kPost k rm2 l2 S w E e w2 := by
  obtain ⟨e1, S2, p1, p2, p3⟩ := h
  refine ⟨e1, S2, p1, h2.then p2 (fun i hi hs => ?_), fun j hj => ?_⟩
  · rcases h3 i hs with e | e
    · exact e
    · omega
  · rcases p3 j hj with e | e
    · exact h3 j e
    · exact Or.inr (Nat.le_trans h2.size e)
set_option maxHeartbeats 1000000 in
set_option maxRecDepth 100000 in
theorem kd_set (h : KdAt w k (kindOf l.length) l S) (hv : Vals l) (b : Nat) (hb : b < 256) (x : Int) : Calls Try.prog 39 #[.pointer (some ⟨k, 0, none⟩), .int .u8 b, .int .i64 x] w (kPost k (kindOf (kins l b (.int .i64 x)).length) (kins l b (.int .i64 x)) S w (.returned (.int .i64 0))) := by
  obtain ⟨hs, hl, _⟩ := h.srt
  have hlen := ins_len3 hs b (.int .i64 x)
  have h256 := len256 (hs.ins b (.int .i64 x)) (hl.ins hb (.int .i64 x))
  have hok := Lib.hid (kok_yes h)
  have hget := Lib.hid (kd_get h b hb)
  have hcnt := Lib.hid (fun n => kd_len (h.drewN n))
  have hknd := Lib.hid (fun n => kd_kind (h.drewN n))
  cases hh : has l b with
  | true =>
    rw [hh, if_pos rfl] at hlen
    have hput := Lib.hid (fun n => kd_put (h.drewN n) b hb (Or.inl hh) x)
    rw [hlen]
    have hgv : Hid (∃ v, getV (kget l b) = .tuple #[v, .bool true]) := ⟨_, by rw [get_yes hs hh (0, undef)]; rfl⟩
    obtain ⟨v, hgv⟩ := hgv.out
    have HG := Lib.hid hgv
    clear hgv
    generalize kindOf l.length = m at *
    clear h hs hl hlen h256 hh hcnt hknd
    go_enter Try.func39, Try.ntmps39
    go_wp2_with (first | (go_at_call 71; refine hok.out.mono ?_; rintro e w' ⟨rfl, rfl⟩) | (go_at_call 40; refine hget.out.mono ?_; rintro e w' ⟨rfl, nd, rfl⟩; rw [HG.out]) | (go_at_call 75; refine (hput.out _).mono ?_; rintro e w' ⟨rfl, q⟩; have q := Lib.hid q))
    go_ret
    exact kPost.from (n := nd) ⟨rfl, q.out⟩
  | false =>
    rw [hh, if_neg (by simp)] at hlen
    have hle : l.length ≤ kindOf l.length := kind_ge (by omega)
    have hgv : Hid (getV (kget l b) = .tuple #[(.int .i64 0), .bool false]) := by show _ = _; rw [get_no hs hh]; rfl
    have hw1 : IntKind.i64.wrap ((l.length : Nat) + 1 : Int) = (l.length : Nat) + 1 := IntWalk.i64_in _ (by omega)
    by_cases hlt : l.length < kindOf l.length
    · have hput := Lib.hid (fun n => kd_put (h.drewN n) b hb (Or.inr hlt) x)
      rw [hlen, kind_step hlt]
      have hne : ¬ ((l.length : Nat) : Int) = (kindOf l.length : Nat) := by omega
      generalize kindOf l.length = m at *
      clear h hs hl hlen h256 hh hlt hle hw1
      generalize hq : kins l b (.int .i64 x) = l' at *
      have Hq := Lib.hid hq
      clear hq
      generalize l.length = n at *
      go_enter Try.func39, Try.ntmps39
      go_wp2_with (first | (go_at_call 71; refine hok.out.mono ?_; rintro e w' ⟨rfl, rfl⟩) | (go_at_call 40; refine hget.out.mono ?_; rintro e w' ⟨rfl, nd, rfl⟩; rw [hgv.out]) | (go_at_call 42; refine (hcnt.out _).mono ?_; rintro e w' ⟨rfl, rfl⟩) | (go_at_call 38; refine (hknd.out _).mono ?_; rintro e w' ⟨rfl, rfl⟩) | (go_at_call 75; refine (hput.out _).mono ?_; rintro e w' ⟨rfl, q⟩; have q := Lib.hid q))
      go_ret
      exact kPost.from (n := nd) ⟨rfl, q.out⟩
    · have heq : ((kindOf l.length : Nat) : Int) = (l.length : Nat) := by omega
      have hkd : Hid (∀ w, Calls Try.prog 7 #[.int .i64 ((l.length : Nat) + 1 : Int)] w fun e w' => e = .returned (.int .i64 (kindOf (l.length + 1) : Nat)) ∧ w = w') := fun w => kindOf_nat (l.length + 1) (by omega) w
      have hge : l.length + 1 ≤ kindOf (l.length + 1) := kind_ge (by omega)
      have hmv := Lib.hid (fun n => kd_move (h.drewN n) hv (kind_cases (l.length + 1)) (by omega))
      have hput : Hid (∀ w1, (∃ n, kPost k (kindOf (l.length + 1)) l S (w.drewN n) (.returned (.tuple #[])) (.returned (.tuple #[])) w1) → Calls Try.prog 75 #[.pointer (some ⟨k, 0, none⟩), .int .u8 b, .int .i64 x] w1 fun e w' => e = .returned (.tuple #[]) ∧ kPost k (kindOf (l.length + 1)) (kins l b (.int .i64 x)) S w (.returned (.tuple #[])) e w') := fun w1 q => by
        obtain ⟨n, q⟩ := q
        obtain ⟨_, S', q1, q2, q3⟩ := q.from
        refine (kd_put q1 b hb (Or.inr (by omega)) x).mono fun e w' p => ⟨p.1, kPost.after (rm := 0) (l1 := []) q2 q3 p⟩
      rw [hlen]
      clear hh hge hle hlt
      generalize kins l b (.int .i64 x) = l' at *
      have hknd2 : Hid (∀ n, Calls Try.prog 38 #[.pointer (some ⟨k, 0, none⟩)] (w.drewN n) fun e w' => e = .returned (.int .i64 (l.length : Nat)) ∧ w.drewN n = w') := by
        intro n; have := hknd.out n; rw [heq] at this; exact this
      generalize kindOf (l.length + 1) = m at *
      clear h hs hl hlen h256 hknd heq
      generalize l.length = n at *
      go_enter Try.func39, Try.ntmps39
      go_wp2_with (first | (go_at_call 71; refine hok.out.mono ?_; rintro e w' ⟨rfl, rfl⟩) | (go_at_call 40; refine hget.out.mono ?_; rintro e w' ⟨rfl, nd, rfl⟩; rw [hgv.out]) | (go_at_call 42; refine (hcnt.out _).mono ?_; rintro e w' ⟨rfl, rfl⟩) | (go_at_call 38; refine (hknd2.out _).mono ?_; rintro e w' ⟨rfl, rfl⟩) | (go_at_call 7; refine (hkd.out _).mono ?_; rintro e w' ⟨rfl, rfl⟩) | (go_at_call 74; refine (hmv.out _).mono ?_; rintro e w1 ⟨rfl, q⟩; have q := Lib.hid (hput.out w1 ⟨nd, rfl, q⟩)) | (go_at_call 75; refine q.out.mono ?_; rintro e w' ⟨rfl, q'⟩; have q' := Lib.hid q'))
      go_ret
      exact q'.out.ret
end I

namespace N
variable {w : World} {k rm rm' : Nat} {l : KV} {S : Nat → Prop}
theorem kok_yes (h : KdAt w k rm l S) : Calls Try.prog 84 #[.pointer (some ⟨k, 0, none⟩)] w fun e w' => e = .returned (.bool true) ∧ w = w' := by
  rcases h with ⟨r, hb, _⟩ | ⟨r, S', hb, _⟩
  · exact kok_row _ _ _ (cells2 hb).1
  · exact kok_board _ _ _ (cells2 hb).1 (cells2 hb).2
theorem Vals.ins (hv : Vals l) (b : Nat) (x : (Option Addr)) : Vals (kins l b (.pointer x)) := by
  intro p hp
  simp only [kins, List.mem_append, List.mem_cons, List.mem_filter] at hp
  rcases hp with ⟨hp, _⟩ | rfl | ⟨hp, _⟩
  · exact hv p hp
  · exact ⟨x, rfl⟩
  · exact hv p hp
theorem Vals.del (hv : Vals l) (b : Nat) : Vals (kdel l b) := fun p hp => hv p (List.mem_filter.1 hp).1
theorem Vals.klt (hv : Vals l) (t : Nat) : Vals (klt l t) := fun p hp => hv p (List.mem_filter.1 hp).1
theorem kPost.ret {k rm : Nat} {l' : KV} {E E' e : Ending} {w' : World} (h : kPost k rm l' S w E e w') : kPost k rm l' S w E' E' w' := ⟨rfl, h.2⟩
theorem kPost.drewN {k rm : Nat} {l' : KV} {E e : Ending} {w' : World} (h : kPost k rm l' S w E e w') (n : Nat) : kPost k rm l' S w E e (w'.drewN n) := by
  obtain ⟨h1, S', h2, h3, h4⟩ := h
  exact ⟨h1, S', h2.drewN n, h3.drewN n, h4⟩
theorem kPost.from {k rm : Nat} {l' : KV} {E e : Ending} {n : Nat} {w' : World} (h : kPost k rm l' S (w.drewN n) E e w') : kPost k rm l' S w E e w' := by
  obtain ⟨h1, S', h2, h3, h4⟩ := h
  exact ⟨h1, S', h2, ⟨h3.os, h3.tape, h3.output, h3.size, h3.same⟩, h4⟩
/-- one after the other one -/
theorem kPost.after {k rm rm2 : Nat} {l1 l2 : KV} {S' : Nat → Prop} {w1 w2 : World} {E e : Ending} (h2 : Mod S w w1) (h3 : ∀ j, S' j → S j ∨ w.heap.size ≤ j) (h : kPost k rm2 l2 S' w1 E e w2) : kPost k rm2 l2 S w E e w2 := by
  obtain ⟨e1, S2, p1, p2, p3⟩ := h
  refine ⟨e1, S2, p1, h2.then p2 (fun i hi hs => ?_), fun j hj => ?_⟩
  · rcases h3 i hs with e | e
    · exact e
    · omega
  · rcases p3 j hj with e | e
    · exact h3 j e
    · exact Or.inr (Nat.le_trans h2.size e)
set_option maxHeartbeats 1000000 in
set_option maxRecDepth 100000 in
theorem kd_set (h : KdAt w k (kindOf l.length) l S) (hv : Vals l) (b : Nat) (hb : b < 256) (x : (Option Addr)) : Calls Try.prog 53 #[.pointer (some ⟨k, 0, none⟩), .int .u8 b, .pointer x] w (kPost k (kindOf (kins l b (.pointer x)).length) (kins l b (.pointer x)) S w (.returned (.int .i64 0))) := by
  obtain ⟨hs, hl, _⟩ := h.srt
  have hlen := ins_len3 hs b (.pointer x)
  have h256 := len256 (hs.ins b (.pointer x)) (hl.ins hb (.pointer x))
  have hok := Lib.hid (kok_yes h)
  have hget := Lib.hid (kd_get h b hb)
  have hcnt := Lib.hid (fun n => kd_len (h.drewN n))
  have hknd := Lib.hid (fun n => kd_kind (h.drewN n))
  cases hh : has l b with
  | true =>
    rw [hh, if_pos rfl] at hlen
    have hput := Lib.hid (fun n => kd_put (h.drewN n) b hb (Or.inl hh) x)
    rw [hlen]
    have hgv : Hid (∃ v, getV (kget l b) = .tuple #[v, .bool true]) := ⟨_, by rw [get_yes hs hh (0, undef)]; rfl⟩
    obtain ⟨v, hgv⟩ := hgv.out
    have HG := Lib.hid hgv
    clear hgv
    generalize kindOf l.length = m at *
    clear h hs hl hlen h256 hh hcnt hknd
    go_enter Try.func53, Try.ntmps53
    go_wp2_with (first | (go_at_call 84; refine hok.out.mono ?_; rintro e w' ⟨rfl, rfl⟩) | (go_at_call 46; refine hget.out.mono ?_; rintro e w' ⟨rfl, nd, rfl⟩; rw [HG.out]) | (go_at_call 96; refine (hput.out _).mono ?_; rintro e w' ⟨rfl, q⟩; have q := Lib.hid q))
    go_ret
    exact kPost.from (n := nd) ⟨rfl, q.out⟩
  | false =>
    rw [hh, if_neg (by simp)] at hlen
    have hle : l.length ≤ kindOf l.length := kind_ge (by omega)
    have hgv : Hid (getV (kget l b) = .tuple #[(.pointer none), .bool false]) := by show _ = _; rw [get_no hs hh]; rfl
    have hw1 : IntKind.i64.wrap ((l.length : Nat) + 1 : Int) = (l.length : Nat) + 1 := IntWalk.i64_in _ (by omega)
    by_cases hlt : l.length < kindOf l.length
    · have hput := Lib.hid (fun n => kd_put (h.drewN n) b hb (Or.inr hlt) x)
      rw [hlen, kind_step hlt]
      have hne : ¬ ((l.length : Nat) : Int) = (kindOf l.length : Nat) := by omega
      generalize kindOf l.length = m at *
      clear h hs hl hlen h256 hh hlt hle hw1
      generalize hq : kins l b (.pointer x) = l' at *
      have Hq := Lib.hid hq
      clear hq
      generalize l.length = n at *
      go_enter Try.func53, Try.ntmps53
      go_wp2_with (first | (go_at_call 84; refine hok.out.mono ?_; rintro e w' ⟨rfl, rfl⟩) | (go_at_call 46; refine hget.out.mono ?_; rintro e w' ⟨rfl, nd, rfl⟩; rw [hgv.out]) | (go_at_call 57; refine (hcnt.out _).mono ?_; rintro e w' ⟨rfl, rfl⟩) | (go_at_call 56; refine (hknd.out _).mono ?_; rintro e w' ⟨rfl, rfl⟩) | (go_at_call 96; refine (hput.out _).mono ?_; rintro e w' ⟨rfl, q⟩; have q := Lib.hid q))
      go_ret
      exact kPost.from (n := nd) ⟨rfl, q.out⟩
    · have heq : ((kindOf l.length : Nat) : Int) = (l.length : Nat) := by omega
      have hkd : Hid (∀ w, Calls Try.prog 7 #[.int .i64 ((l.length : Nat) + 1 : Int)] w fun e w' => e = .returned (.int .i64 (kindOf (l.length + 1) : Nat)) ∧ w = w') := fun w => kindOf_nat (l.length + 1) (by omega) w
      have hge : l.length + 1 ≤ kindOf (l.length + 1) := kind_ge (by omega)
      have hmv := Lib.hid (fun n => kd_move (h.drewN n) hv (kind_cases (l.length + 1)) (by omega))
      have hput : Hid (∀ w1, (∃ n, kPost k (kindOf (l.length + 1)) l S (w.drewN n) (.returned (.tuple #[])) (.returned (.tuple #[])) w1) → Calls Try.prog 96 #[.pointer (some ⟨k, 0, none⟩), .int .u8 b, .pointer x] w1 fun e w' => e = .returned (.tuple #[]) ∧ kPost k (kindOf (l.length + 1)) (kins l b (.pointer x)) S w (.returned (.tuple #[])) e w') := fun w1 q => by
        obtain ⟨n, q⟩ := q
        obtain ⟨_, S', q1, q2, q3⟩ := q.from
        refine (kd_put q1 b hb (Or.inr (by omega)) x).mono fun e w' p => ⟨p.1, kPost.after (rm := 0) (l1 := []) q2 q3 p⟩
      rw [hlen]
      clear hh hge hle hlt
      generalize kins l b (.pointer x) = l' at *
      have hknd2 : Hid (∀ n, Calls Try.prog 56 #[.pointer (some ⟨k, 0, none⟩)] (w.drewN n) fun e w' => e = .returned (.int .i64 (l.length : Nat)) ∧ w.drewN n = w') := by
        intro n; have := hknd.out n; rw [heq] at this; exact this
      generalize kindOf (l.length + 1) = m at *
      clear h hs hl hlen h256 hknd heq
      generalize l.length = n at *
      go_enter Try.func53, Try.ntmps53
      go_wp2_with (first | (go_at_call 84; refine hok.out.mono ?_; rintro e w' ⟨rfl, rfl⟩) | (go_at_call 46; refine hget.out.mono ?_; rintro e w' ⟨rfl, nd, rfl⟩; rw [hgv.out]) | (go_at_call 57; refine (hcnt.out _).mono ?_; rintro e w' ⟨rfl, rfl⟩) | (go_at_call 56; refine (hknd2.out _).mono ?_; rintro e w' ⟨rfl, rfl⟩) | (go_at_call 7; refine (hkd.out _).mono ?_; rintro e w' ⟨rfl, rfl⟩) | (go_at_call 95; refine (hmv.out _).mono ?_; rintro e w1 ⟨rfl, q⟩; have q := Lib.hid (hput.out w1 ⟨nd, rfl, q⟩)) | (go_at_call 96; refine q.out.mono ?_; rintro e w' ⟨rfl, q'⟩; have q' := Lib.hid q'))
      go_ret
      exact q'.out.ret
end N
end Go.Proofs.Ytgijnjdcpipfiaa
/- Kids: Drop and Copy. -/
namespace Go.Proofs.Ytgijnjdcpipfiaa
open Go.RowKit
namespace I
variable {w : World} {k rm rm' : Nat} {l : KV} {S : Nat → Prop}
/-- what Drop does behind the row's, or the board's, own Drop -/
theorem drop_tail (hs : Srt l) (hl : Low l) (hv : Vals l) (b : Nat) (c : Int) {w1 : World} (q : kPost k rm (kdel l b) S w (.returned (.int .i64 c)) (.returned (.int .i64 c)) w1) :
    ∃ n : Nat, Hid (Calls Try.prog 42 #[.pointer (some ⟨k, 0, none⟩)] w1 fun e w' => e = .returned (.int .i64 n) ∧ w1 = w') ∧
      Hid (Calls Try.prog 38 #[.pointer (some ⟨k, 0, none⟩)] w1 fun e w' => e = .returned (.int .i64 rm) ∧ w1 = w') ∧
      ∃ m : Nat, m = kindOf (kdel l b).length ∧ Hid (Calls Try.prog 7 #[.int .i64 n] w1 fun e w' => e = .returned (.int .i64 (m : Nat)) ∧ w1 = w') ∧
      Hid (Calls Try.prog 74 #[.pointer (some ⟨k, 0, none⟩), .int .i64 (m : Nat)] w1 fun e w' => e = .returned (.tuple #[]) ∧ kPost k m (kdel l b) S w (.returned (.int .i64 c)) (.returned (.int .i64 c)) w') := by
  obtain ⟨_, S', q1, q2, q3⟩ := q
  have h256 := len256 (hs.del b) (hl.del b)
  refine ⟨(kdel l b).length, kd_len q1, kd_kind q1, _, rfl, kindOf_nat _ h256 w1, ?_⟩
  exact (kd_move q1 (Vals.del hv b) (kind_cases _) (kind_ge h256)).mono fun e w' p => ⟨p.1, (kPost.after (rm := 0) (l1 := []) q2 q3 p).ret⟩
set_option maxHeartbeats 1000000 in
set_option maxRecDepth 100000 in
theorem kd_drop (h : KdAt w k rm l S) (hv : Vals l) (b : Nat) (hb : b < 256) : Calls Try.prog 41 #[.pointer (some ⟨k, 0, none⟩), .int .u8 b] w (kPost k (kindOf (kdel l b).length) (kdel l b) S w (.returned (.int .i64 (if has l b then 0 else 6)))) := by
  obtain ⟨hs, hl, _⟩ := h.srt
  have hok := Lib.hid (kok_yes h)
  generalize hc : (if has l b then (0 : Int) else 6) = c
  have tail : Hid (∀ w1, kPost k rm (kdel l b) S w (.returned (.int .i64 c)) (.returned (.int .i64 c)) w1 → ∃ n : Nat, Hid (Calls Try.prog 42 #[.pointer (some ⟨k, 0, none⟩)] w1 fun e w' => e = .returned (.int .i64 n) ∧ w1 = w') ∧
      Hid (Calls Try.prog 38 #[.pointer (some ⟨k, 0, none⟩)] w1 fun e w' => e = .returned (.int .i64 rm) ∧ w1 = w') ∧
      ∃ m : Nat, m = kindOf (kdel l b).length ∧ Hid (Calls Try.prog 7 #[.int .i64 n] w1 fun e w' => e = .returned (.int .i64 (m : Nat)) ∧ w1 = w') ∧
      Hid (Calls Try.prog 74 #[.pointer (some ⟨k, 0, none⟩), .int .i64 (m : Nat)] w1 fun e w' => e = .returned (.tuple #[]) ∧ kPost k m (kdel l b) S w (.returned (.int .i64 c)) (.returned (.int .i64 c)) w')) := fun w1 q => drop_tail hs hl hv b c q
  rcases h with ⟨r, hk, hr, hne, rfl⟩ | ⟨r, S', hk, hr, hne, rfl⟩
  · obtain ⟨c0, c1⟩ := cells2 hk
    have hx : Hid (Calls Try.prog 78 #[.pointer (some ⟨r, 0, none⟩), .int .u8 b] w fun e w' => e = .returned (.int .i64 c) ∧ kPost k rm (kdel l b) (fun j => j = k ∨ j = r) w (.returned (.int .i64 c)) (.returned (.int .i64 c)) w') :=
      (row_drop_at hr b).mono fun e w' q => ⟨by rw [q.1, hc], row_kids hk hne q.2.1 q.2.2 _⟩
    clear hk hr hc hs hl hv
    by_cases he : rm = kindOf (kdel l b).length
    · have He := Lib.hid he
      rw [← He.out]
      clear he
      generalize hq : kdel l b = l' at *
      have Hq := Lib.hid hq
      clear hq
      go_enter Try.func41, Try.ntmps41
      go_wp2_with (first | (go_at_call 71; refine hok.out.mono ?_; rintro e w' ⟨rfl, rfl⟩) | (go_at_call 78; refine hx.out.mono ?_; rintro e w1 ⟨rfl, q⟩; obtain ⟨n, t1, t2, m, hm, t3, t4⟩ := tail.out _ q; have q := Lib.hid q; obtain rfl : m = rm := hm.trans He.out.symm; clear hm) | (go_at_call 42; refine t1.out.mono ?_; rintro e w' ⟨rfl, rfl⟩) | (go_at_call 7; refine t3.out.mono ?_; rintro e w' ⟨rfl, rfl⟩) | (go_at_call 38; refine t2.out.mono ?_; rintro e w' ⟨rfl, rfl⟩))
      go_ret
      exact q.out
    · have He := Lib.hid he
      generalize hmm : kindOf (kdel l b).length = mm at *
      have hne2 : ¬ ((mm : Nat) : Int) = (rm : Nat) := by omega
      clear he hmm
      generalize hq : kdel l b = l' at *
      have Hq := Lib.hid hq
      clear hq
      go_enter Try.func41, Try.ntmps41
      go_wp2_with (first | (go_at_call 71; refine hok.out.mono ?_; rintro e w' ⟨rfl, rfl⟩) | (go_at_call 78; refine hx.out.mono ?_; rintro e w1 ⟨rfl, q⟩; obtain ⟨n, t1, t2, m, rfl, t3, t4⟩ := tail.out _ q; clear q) | (go_at_call 42; refine t1.out.mono ?_; rintro e w' ⟨rfl, rfl⟩) | (go_at_call 7; refine t3.out.mono ?_; rintro e w' ⟨rfl, rfl⟩) | (go_at_call 38; refine t2.out.mono ?_; rintro e w' ⟨rfl, rfl⟩) | (go_at_call 74; refine t4.out.mono ?_; rintro e w2 ⟨rfl, q⟩; have q := Lib.hid q))
      go_ret
      exact q.out
  · obtain ⟨c0, c1⟩ := cells2 hk
    have hx : Hid (Calls Try.prog 79 #[.pointer (some ⟨r, 0, none⟩), .int .u8 b] w fun e w' => e = .returned (.int .i64 c) ∧ kPost k rm (kdel l b) (fun j => j = k ∨ S' j) w (.returned (.int .i64 c)) (.returned (.int .i64 c)) w') :=
      (bd_drop_at hr b hb).mono fun e w' q => ⟨by rw [q.1, hc], bd_kids hk hne q.2 _⟩
    clear hk hr hc hs hl hv
    by_cases he : rm = kindOf (kdel l b).length
    · have He := Lib.hid he
      rw [← He.out]
      clear he
      generalize hq : kdel l b = l' at *
      have Hq := Lib.hid hq
      clear hq
      go_enter Try.func41, Try.ntmps41
      go_wp2_with (first | (go_at_call 71; refine hok.out.mono ?_; rintro e w' ⟨rfl, rfl⟩) | (go_at_call 79; refine hx.out.mono ?_; rintro e w1 ⟨rfl, q⟩; obtain ⟨n, t1, t2, m, hm, t3, t4⟩ := tail.out _ q; have q := Lib.hid q; obtain rfl : m = rm := hm.trans He.out.symm; clear hm) | (go_at_call 42; refine t1.out.mono ?_; rintro e w' ⟨rfl, rfl⟩) | (go_at_call 7; refine t3.out.mono ?_; rintro e w' ⟨rfl, rfl⟩) | (go_at_call 38; refine t2.out.mono ?_; rintro e w' ⟨rfl, rfl⟩))
      go_ret
      exact q.out
    · have He := Lib.hid he
      generalize hmm : kindOf (kdel l b).length = mm at *
      have hne2 : ¬ ((mm : Nat) : Int) = (rm : Nat) := by omega
      clear he hmm
      generalize hq : kdel l b = l' at *
      have Hq := Lib.hid hq
      clear hq
      go_enter Try.func41, Try.ntmps41
      go_wp2_with (first | (go_at_call 71; refine hok.out.mono ?_; rintro e w' ⟨rfl, rfl⟩) | (go_at_call 79; refine hx.out.mono ?_; rintro e w1 ⟨rfl, q⟩; obtain ⟨n, t1, t2, m, rfl, t3, t4⟩ := tail.out _ q; clear q) | (go_at_call 42; refine t1.out.mono ?_; rintro e w' ⟨rfl, rfl⟩) | (go_at_call 7; refine t3.out.mono ?_; rintro e w' ⟨rfl, rfl⟩) | (go_at_call 38; refine t2.out.mono ?_; rintro e w' ⟨rfl, rfl⟩) | (go_at_call 74; refine t4.out.mono ?_; rintro e w2 ⟨rfl, q⟩; have q := Lib.hid q))
      go_ret
      exact q.out
end I

namespace N
variable {w : World} {k rm rm' : Nat} {l : KV} {S : Nat → Prop}
/-- what Drop does behind the row's, or the board's, own Drop -/
theorem drop_tail (hs : Srt l) (hl : Low l) (hv : Vals l) (b : Nat) (c : Int) {w1 : World} (q : kPost k rm (kdel l b) S w (.returned (.int .i64 c)) (.returned (.int .i64 c)) w1) :
    ∃ n : Nat, Hid (Calls Try.prog 57 #[.pointer (some ⟨k, 0, none⟩)] w1 fun e w' => e = .returned (.int .i64 n) ∧ w1 = w') ∧
      Hid (Calls Try.prog 56 #[.pointer (some ⟨k, 0, none⟩)] w1 fun e w' => e = .returned (.int .i64 rm) ∧ w1 = w') ∧
      ∃ m : Nat, m = kindOf (kdel l b).length ∧ Hid (Calls Try.prog 7 #[.int .i64 n] w1 fun e w' => e = .returned (.int .i64 (m : Nat)) ∧ w1 = w') ∧
      Hid (Calls Try.prog 95 #[.pointer (some ⟨k, 0, none⟩), .int .i64 (m : Nat)] w1 fun e w' => e = .returned (.tuple #[]) ∧ kPost k m (kdel l b) S w (.returned (.int .i64 c)) (.returned (.int .i64 c)) w') := by
  obtain ⟨_, S', q1, q2, q3⟩ := q
  have h256 := len256 (hs.del b) (hl.del b)
  refine ⟨(kdel l b).length, kd_len q1, kd_kind q1, _, rfl, kindOf_nat _ h256 w1, ?_⟩
  exact (kd_move q1 (Vals.del hv b) (kind_cases _) (kind_ge h256)).mono fun e w' p => ⟨p.1, (kPost.after (rm := 0) (l1 := []) q2 q3 p).ret⟩
set_option maxHeartbeats 1000000 in
set_option maxRecDepth 100000 in
theorem kd_drop (h : KdAt w k rm l S) (hv : Vals l) (b : Nat) (hb : b < 256) : Calls Try.prog 54 #[.pointer (some ⟨k, 0, none⟩), .int .u8 b] w (kPost k (kindOf (kdel l b).length) (kdel l b) S w (.returned (.int .i64 (if has l b then 0 else 6)))) := by
  obtain ⟨hs, hl, _⟩ := h.srt
  have hok := Lib.hid (kok_yes h)
  generalize hc : (if has l b then (0 : Int) else 6) = c
  have tail : Hid (∀ w1, kPost k rm (kdel l b) S w (.returned (.int .i64 c)) (.returned (.int .i64 c)) w1 → ∃ n : Nat, Hid (Calls Try.prog 57 #[.pointer (some ⟨k, 0, none⟩)] w1 fun e w' => e = .returned (.int .i64 n) ∧ w1 = w') ∧
      Hid (Calls Try.prog 56 #[.pointer (some ⟨k, 0, none⟩)] w1 fun e w' => e = .returned (.int .i64 rm) ∧ w1 = w') ∧
      ∃ m : Nat, m = kindOf (kdel l b).length ∧ Hid (Calls Try.prog 7 #[.int .i64 n] w1 fun e w' => e = .returned (.int .i64 (m : Nat)) ∧ w1 = w') ∧
      Hid (Calls Try.prog 95 #[.pointer (some ⟨k, 0, none⟩), .int .i64 (m : Nat)] w1 fun e w' => e = .returned (.tuple #[]) ∧ kPost k m (kdel l b) S w (.returned (.int .i64 c)) (.returned (.int .i64 c)) w')) := fun w1 q => drop_tail hs hl hv b c q
  rcases h with ⟨r, hk, hr, hne, rfl⟩ | ⟨r, S', hk, hr, hne, rfl⟩
  · obtain ⟨c0, c1⟩ := cells2 hk
    have hx : Hid (Calls Try.prog 97 #[.pointer (some ⟨r, 0, none⟩), .int .u8 b] w fun e w' => e = .returned (.int .i64 c) ∧ kPost k rm (kdel l b) (fun j => j = k ∨ j = r) w (.returned (.int .i64 c)) (.returned (.int .i64 c)) w') :=
      (row_drop_at hr b).mono fun e w' q => ⟨by rw [q.1, hc], row_kids hk hne q.2.1 q.2.2 _⟩
    clear hk hr hc hs hl hv
    by_cases he : rm = kindOf (kdel l b).length
    · have He := Lib.hid he
      rw [← He.out]
      clear he
      generalize hq : kdel l b = l' at *
      have Hq := Lib.hid hq
      clear hq
      go_enter Try.func54, Try.ntmps54
      go_wp2_with (first | (go_at_call 84; refine hok.out.mono ?_; rintro e w' ⟨rfl, rfl⟩) | (go_at_call 97; refine hx.out.mono ?_; rintro e w1 ⟨rfl, q⟩; obtain ⟨n, t1, t2, m, hm, t3, t4⟩ := tail.out _ q; have q := Lib.hid q; obtain rfl : m = rm := hm.trans He.out.symm; clear hm) | (go_at_call 57; refine t1.out.mono ?_; rintro e w' ⟨rfl, rfl⟩) | (go_at_call 7; refine t3.out.mono ?_; rintro e w' ⟨rfl, rfl⟩) | (go_at_call 56; refine t2.out.mono ?_; rintro e w' ⟨rfl, rfl⟩))
      go_ret
      exact q.out
    · have He := Lib.hid he
      generalize hmm : kindOf (kdel l b).length = mm at *
      have hne2 : ¬ ((mm : Nat) : Int) = (rm : Nat) := by omega
      clear he hmm
      generalize hq : kdel l b = l' at *
      have Hq := Lib.hid hq
      clear hq
      go_enter Try.func54, Try.ntmps54
      go_wp2_with (first | (go_at_call 84; refine hok.out.mono ?_; rintro e w' ⟨rfl, rfl⟩) | (go_at_call 97; refine hx.out.mono ?_; rintro e w1 ⟨rfl, q⟩; obtain ⟨n, t1, t2, m, rfl, t3, t4⟩ := tail.out _ q; clear q) | (go_at_call 57; refine t1.out.mono ?_; rintro e w' ⟨rfl, rfl⟩) | (go_at_call 7; refine t3.out.mono ?_; rintro e w' ⟨rfl, rfl⟩) | (go_at_call 56; refine t2.out.mono ?_; rintro e w' ⟨rfl, rfl⟩) | (go_at_call 95; refine t4.out.mono ?_; rintro e w2 ⟨rfl, q⟩; have q := Lib.hid q))
      go_ret
      exact q.out
  · obtain ⟨c0, c1⟩ := cells2 hk
    have hx : Hid (Calls Try.prog 98 #[.pointer (some ⟨r, 0, none⟩), .int .u8 b] w fun e w' => e = .returned (.int .i64 c) ∧ kPost k rm (kdel l b) (fun j => j = k ∨ S' j) w (.returned (.int .i64 c)) (.returned (.int .i64 c)) w') :=
      (bd_drop_at hr b hb).mono fun e w' q => ⟨by rw [q.1, hc], bd_kids hk hne q.2 _⟩
    clear hk hr hc hs hl hv
    by_cases he : rm = kindOf (kdel l b).length
    · have He := Lib.hid he
      rw [← He.out]
      clear he
      generalize hq : kdel l b = l' at *
      have Hq := Lib.hid hq
      clear hq
      go_enter Try.func54, Try.ntmps54
      go_wp2_with (first | (go_at_call 84; refine hok.out.mono ?_; rintro e w' ⟨rfl, rfl⟩) | (go_at_call 98; refine hx.out.mono ?_; rintro e w1 ⟨rfl, q⟩; obtain ⟨n, t1, t2, m, hm, t3, t4⟩ := tail.out _ q; have q := Lib.hid q; obtain rfl : m = rm := hm.trans He.out.symm; clear hm) | (go_at_call 57; refine t1.out.mono ?_; rintro e w' ⟨rfl, rfl⟩) | (go_at_call 7; refine t3.out.mono ?_; rintro e w' ⟨rfl, rfl⟩) | (go_at_call 56; refine t2.out.mono ?_; rintro e w' ⟨rfl, rfl⟩))
      go_ret
      exact q.out
    · have He := Lib.hid he
      generalize hmm : kindOf (kdel l b).length = mm at *
      have hne2 : ¬ ((mm : Nat) : Int) = (rm : Nat) := by omega
      clear he hmm
      generalize hq : kdel l b = l' at *
      have Hq := Lib.hid hq
      clear hq
      go_enter Try.func54, Try.ntmps54
      go_wp2_with (first | (go_at_call 84; refine hok.out.mono ?_; rintro e w' ⟨rfl, rfl⟩) | (go_at_call 98; refine hx.out.mono ?_; rintro e w1 ⟨rfl, q⟩; obtain ⟨n, t1, t2, m, rfl, t3, t4⟩ := tail.out _ q; clear q) | (go_at_call 57; refine t1.out.mono ?_; rintro e w' ⟨rfl, rfl⟩) | (go_at_call 7; refine t3.out.mono ?_; rintro e w' ⟨rfl, rfl⟩) | (go_at_call 56; refine t2.out.mono ?_; rintro e w' ⟨rfl, rfl⟩) | (go_at_call 95; refine t4.out.mono ?_; rintro e w2 ⟨rfl, q⟩; have q := Lib.hid q))
      go_ret
      exact q.out
end N
end Go.Proofs.Ytgijnjdcpipfiaa
/- Kids: Copy. -/
namespace Go.Proofs.Ytgijnjdcpipfiaa
open Go.RowKit
namespace I
variable {w : World} {k rm rm' : Nat} {l : KV} {S : Nat → Prop}
def kcopyPost (rm : Nat) (l : KV) (w : World) (e : Ending) (w' : World) : Prop := ∃ k' S', e = .returned (.pointer (some ⟨k', 0, none⟩)) ∧ KdAt w' k' rm l S' ∧ Below w.heap.size w w' ∧ ∀ j, S' j → w.heap.size ≤ j
set_option maxHeartbeats 1000000 in
set_option maxRecDepth 100000 in
theorem kd_copy (h : KdAt w k rm l S) : Calls Try.prog 43 #[.pointer (some ⟨k, 0, none⟩)] w (kcopyPost rm l w) := by
  have hok := Lib.hid (kok_yes h)
  have hk0 : k < w.heap.size := h.lt k h.self
  rcases h with ⟨r, hk, hr, hne, rfl⟩ | ⟨r, S', hk, hr, hne, rfl⟩
  · obtain ⟨c0, c1⟩ := cells2 hk
    have hx : Hid (Calls Try.prog 82 #[.pointer (some ⟨r, 0, none⟩)] w.drew (copyPost rm l w.drew)) := by
      obtain ⟨B, X, hr⟩ := hr
      exact row_copy (w := w.drew) (hr.keep rfl)
    have hn : ∀ w, Hid (Calls Try.prog 83 #[.pointer none] w fun e w' => e = .returned (.pointer none) ∧ w = w') := fun w => bd_copy_nil w
    have F : Hid (∀ w1, RowAt rowT w1 w.heap.size rm l ∧ Below w.heap.size w.drew w1 → w1.cell? ⟨k, 1, none⟩ = some (.pointer none) ∧ Hid (kcopyPost rm l w (.returned (.pointer (some ⟨w1.heap.size, 0, none⟩))) (w1.alloc (.cells #[.pointer (some ⟨w.heap.size, 0, none⟩), .pointer none] kdT)))) := fun w1 q => by
      obtain ⟨q1, q2⟩ := q
      refine ⟨(q2.cell (p := ⟨k, 1, none⟩) hk0).trans c1, w1.heap.size, _, rfl, Or.inl ⟨w.heap.size, heap_alloc_new _ _, q1.keep (Below.heap_alloc _ _ _ q1.lt), Nat.ne_of_lt q1.lt, rfl⟩, ?_, ?_⟩
      · have q2' : Below w.heap.size w w1 := ⟨q2.os, q2.tape, q2.output, q2.size, q2.block⟩
        exact q2'.alloc q2'.size _
      · have h9 : w.heap.size ≤ w1.heap.size := q2.size
        rintro j (rfl | rfl) <;> omega
    clear hk hr hk0
    go_enter Try.func43, Try.ntmps43
    go_wp2_with (go_at_call 71; refine hok.out.mono ?_; rintro e w' ⟨rfl, rfl⟩)
    go_region_with (first | (go_at_call 82; go_loud (refine hx.out.mono ?_); rintro e w1 ⟨rfl, q⟩; obtain ⟨d1, q⟩ := F.out w1 q) | (go_at_call 83; go_loud (refine (hn _).out.mono ?_); rintro e w2 ⟨rfl, rfl⟩))
    all_goals
      go_wp2_with fail
      go_ret
      exact q.out
  · obtain ⟨c0, c1⟩ := cells2 hk
    have hx : Hid (Calls Try.prog 83 #[.pointer (some ⟨r, 0, none⟩)] w.drew (bcopyPost rm l w.drew)) := by
      obtain ⟨p, vx, xs, bx, vf, fs, bf, h, rfl⟩ := hr
      exact bd_copy (w := w.drew) (h.keep fun _ _ => rfl)
    have hn : ∀ w, Hid (Calls Try.prog 82 #[.pointer none] w fun e w' => e = .returned (.pointer none) ∧ w = w') := fun w => row_copy_nil w
    have F : Hid (∀ w1, (∃ S, BdAt bdT elT u16T w1 w.heap.size rm l S ∧ Below w.heap.size w.drew w1 ∧ ∀ k, S k → w.heap.size ≤ k) → Hid (kcopyPost rm l w (.returned (.pointer (some ⟨w1.heap.size, 0, none⟩))) (w1.alloc (.cells #[.pointer none, .pointer (some ⟨w.heap.size, 0, none⟩)] kdT)))) := fun w1 q => by
      obtain ⟨S1, q1, q2, q3⟩ := q
      refine ⟨w1.heap.size, _, rfl, Or.inr ⟨w.heap.size, S1, heap_alloc_new _ _, q1.keep (fun j hj => Below.heap_alloc _ _ _ (q1.lt j hj)), fun e => by have := q1.lt _ e; omega, rfl⟩, ?_, ?_⟩
      · have q2' : Below w.heap.size w w1 := ⟨q2.os, q2.tape, q2.output, q2.size, q2.block⟩
        exact q2'.alloc q2'.size _
      · have h9 : w.heap.size ≤ w1.heap.size := q2.size
        rintro j (rfl | hj)
        · omega
        · exact q3 j hj
    clear hk hr hk0
    go_enter Try.func43, Try.ntmps43
    go_wp2_with (go_at_call 71; refine hok.out.mono ?_; rintro e w' ⟨rfl, rfl⟩)
    go_region_with (first | (go_at_call 82; go_loud (refine (hn _).out.mono ?_); rintro e w2 ⟨rfl, rfl⟩) | (go_at_call 83; go_loud (refine hx.out.mono ?_); rintro e w1 ⟨rfl, q⟩; have q := F.out w1 q))
    all_goals
      go_wp2_with fail
      go_ret
      exact q.out
end I

namespace N
variable {w : World} {k rm rm' : Nat} {l : KV} {S : Nat → Prop}
def kcopyPost (rm : Nat) (l : KV) (w : World) (e : Ending) (w' : World) : Prop := ∃ k' S', e = .returned (.pointer (some ⟨k', 0, none⟩)) ∧ KdAt w' k' rm l S' ∧ Below w.heap.size w w' ∧ ∀ j, S' j → w.heap.size ≤ j
set_option maxHeartbeats 1000000 in
set_option maxRecDepth 100000 in
theorem kd_copy (h : KdAt w k rm l S) : Calls Try.prog 48 #[.pointer (some ⟨k, 0, none⟩)] w (kcopyPost rm l w) := by
  have hok := Lib.hid (kok_yes h)
  have hk0 : k < w.heap.size := h.lt k h.self
  rcases h with ⟨r, hk, hr, hne, rfl⟩ | ⟨r, S', hk, hr, hne, rfl⟩
  · obtain ⟨c0, c1⟩ := cells2 hk
    have hx : Hid (Calls Try.prog 92 #[.pointer (some ⟨r, 0, none⟩)] w.drew (copyPost rm l w.drew)) := by
      obtain ⟨B, X, hr⟩ := hr
      exact row_copy (w := w.drew) (hr.keep rfl)
    have hn : ∀ w, Hid (Calls Try.prog 93 #[.pointer none] w fun e w' => e = .returned (.pointer none) ∧ w = w') := fun w => bd_copy_nil w
    have F : Hid (∀ w1, RowAt rowT w1 w.heap.size rm l ∧ Below w.heap.size w.drew w1 → w1.cell? ⟨k, 1, none⟩ = some (.pointer none) ∧ Hid (kcopyPost rm l w (.returned (.pointer (some ⟨w1.heap.size, 0, none⟩))) (w1.alloc (.cells #[.pointer (some ⟨w.heap.size, 0, none⟩), .pointer none] kdT)))) := fun w1 q => by
      obtain ⟨q1, q2⟩ := q
      refine ⟨(q2.cell (p := ⟨k, 1, none⟩) hk0).trans c1, w1.heap.size, _, rfl, Or.inl ⟨w.heap.size, heap_alloc_new _ _, q1.keep (Below.heap_alloc _ _ _ q1.lt), Nat.ne_of_lt q1.lt, rfl⟩, ?_, ?_⟩
      · have q2' : Below w.heap.size w w1 := ⟨q2.os, q2.tape, q2.output, q2.size, q2.block⟩
        exact q2'.alloc q2'.size _
      · have h9 : w.heap.size ≤ w1.heap.size := q2.size
        rintro j (rfl | rfl) <;> omega
    clear hk hr hk0
    go_enter Try.func48, Try.ntmps48
    go_wp2_with (go_at_call 84; refine hok.out.mono ?_; rintro e w' ⟨rfl, rfl⟩)
    go_region_with (first | (go_at_call 92; go_loud (refine hx.out.mono ?_); rintro e w1 ⟨rfl, q⟩; obtain ⟨d1, q⟩ := F.out w1 q) | (go_at_call 93; go_loud (refine (hn _).out.mono ?_); rintro e w2 ⟨rfl, rfl⟩))
    all_goals
      go_wp2_with fail
      go_ret
      exact q.out
  · obtain ⟨c0, c1⟩ := cells2 hk
    have hx : Hid (Calls Try.prog 93 #[.pointer (some ⟨r, 0, none⟩)] w.drew (bcopyPost rm l w.drew)) := by
      obtain ⟨p, vx, xs, bx, vf, fs, bf, h, rfl⟩ := hr
      exact bd_copy (w := w.drew) (h.keep fun _ _ => rfl)
    have hn : ∀ w, Hid (Calls Try.prog 92 #[.pointer none] w fun e w' => e = .returned (.pointer none) ∧ w = w') := fun w => row_copy_nil w
    have F : Hid (∀ w1, (∃ S, BdAt bdT elT u16T w1 w.heap.size rm l S ∧ Below w.heap.size w.drew w1 ∧ ∀ k, S k → w.heap.size ≤ k) → Hid (kcopyPost rm l w (.returned (.pointer (some ⟨w1.heap.size, 0, none⟩))) (w1.alloc (.cells #[.pointer none, .pointer (some ⟨w.heap.size, 0, none⟩)] kdT)))) := fun w1 q => by
      obtain ⟨S1, q1, q2, q3⟩ := q
      refine ⟨w1.heap.size, _, rfl, Or.inr ⟨w.heap.size, S1, heap_alloc_new _ _, q1.keep (fun j hj => Below.heap_alloc _ _ _ (q1.lt j hj)), fun e => by have := q1.lt _ e; omega, rfl⟩, ?_, ?_⟩
      · have q2' : Below w.heap.size w w1 := ⟨q2.os, q2.tape, q2.output, q2.size, q2.block⟩
        exact q2'.alloc q2'.size _
      · have h9 : w.heap.size ≤ w1.heap.size := q2.size
        rintro j (rfl | hj)
        · omega
        · exact q3 j hj
    clear hk hr hk0
    go_enter Try.func48, Try.ntmps48
    go_wp2_with (go_at_call 84; refine hok.out.mono ?_; rintro e w' ⟨rfl, rfl⟩)
    go_region_with (first | (go_at_call 92; go_loud (refine (hn _).out.mono ?_); rintro e w2 ⟨rfl, rfl⟩) | (go_at_call 93; go_loud (refine hx.out.mono ?_); rintro e w1 ⟨rfl, q⟩; have q := F.out w1 q))
    all_goals
      go_wp2_with fail
      go_ret
      exact q.out
end N
end Go.Proofs.Ytgijnjdcpipfiaa
/- Kids that nobody made. -/
namespace Go.Proofs.Ytgijnjdcpipfiaa
open Go.RowKit
namespace I
variable {w : World}
/-- kids that nobody made: nil, or with no cell filled -/
def Bare (w : World) (v : Option Addr) : Prop := v = none ∨ ∃ k o, v = some ⟨k, o, none⟩ ∧ w.cell? ⟨k, o, none⟩ = some (.pointer none) ∧ w.cell? ⟨k, o + 1, none⟩ = some (.pointer none)
theorem kok_no {v : Option Addr} (h : Bare w v) : Calls Try.prog 71 #[.pointer v] w fun e w' => e = .returned (.bool false) ∧ w = w' := by
  rcases h with rfl | ⟨k, o, rfl, h0, h1⟩
  · exact kok_nil w
  · exact kok_bare w k o h0 h1
theorem bare_len {v : Option Addr} (h : Bare w v) : Calls Try.prog 42 #[.pointer v] w fun e w' => e = .returned (.int .i64 0) ∧ w = w' := by
  have hok := Lib.hid (kok_no h)
  clear h
  go_enter Try.func42, Try.ntmps42
  go_wp2_with (go_at_call 71; refine hok.out.mono ?_; rintro e w' ⟨rfl, rfl⟩)
  go_ret
  exact ⟨rfl, rfl⟩
theorem bare_kind {v : Option Addr} (h : Bare w v) : Calls Try.prog 38 #[.pointer v] w fun e w' => e = .returned (.int .i64 0) ∧ w = w' := by
  have hok := Lib.hid (kok_no h)
  clear h
  go_enter Try.func38, Try.ntmps38
  go_wp2_with (go_at_call 71; refine hok.out.mono ?_; rintro e w' ⟨rfl, rfl⟩)
  go_ret
  exact ⟨rfl, rfl⟩
theorem bare_get {v : Option Addr} (h : Bare w v) (b : Nat) : Calls Try.prog 40 #[.pointer v, .int .u8 b] w fun e w' => e = .returned (.tuple #[(.int .i64 0), .bool false]) ∧ w = w' := by
  have hok := Lib.hid (kok_no h)
  clear h
  go_enter Try.func40, Try.ntmps40
  go_wp2_with (go_at_call 71; refine hok.out.mono ?_; rintro e w' ⟨rfl, rfl⟩)
  go_ret2
  exact ⟨rfl, rfl⟩
theorem bare_next {v : Option Addr} (h : Bare w v) (f : Int) : Calls Try.prog 118 #[.pointer v, .int .i64 f] w fun e w' => e = .returned (.tuple #[.int .u8 0, (.int .i64 0), .bool false]) ∧ w = w' := by
  have hok := Lib.hid (kok_no h)
  clear h
  go_enter Try.func118, Try.ntmps118
  go_wp2_with (go_at_call 71; refine hok.out.mono ?_; rintro e w' ⟨rfl, rfl⟩)
  go_ret3
  exact ⟨rfl, rfl⟩
theorem bare_drop {v : Option Addr} (h : Bare w v) (b : Nat) : Calls Try.prog 41 #[.pointer v, .int .u8 b] w fun e w' => e = .returned (.int .i64 2) ∧ w = w' := by
  have hok := Lib.hid (kok_no h)
  clear h
  go_enter Try.func41, Try.ntmps41
  go_wp2_with (go_at_call 71; refine hok.out.mono ?_; rintro e w' ⟨rfl, rfl⟩)
  go_ret
  exact ⟨rfl, rfl⟩
theorem bare_copy {v : Option Addr} (h : Bare w v) : Calls Try.prog 43 #[.pointer v] w fun e w' => e = .returned (.pointer none) ∧ w = w' := by
  have hok := Lib.hid (kok_no h)
  clear h
  go_enter Try.func43, Try.ntmps43
  go_wp2_with (go_at_call 71; refine hok.out.mono ?_; rintro e w' ⟨rfl, rfl⟩)
  go_ret
  exact ⟨rfl, rfl⟩
theorem bare_set {v : Option Addr} (h : Bare w v) (b : Nat) (x : Int) : Calls Try.prog 39 #[.pointer v, .int .u8 b, .int .i64 x] w fun e w' => e = .returned (.int .i64 2) ∧ w = w' := by
  have hok := Lib.hid (kok_no h)
  clear h
  go_enter Try.func39, Try.ntmps39
  go_wp2_with (go_at_call 71; refine hok.out.mono ?_; rintro e w' ⟨rfl, rfl⟩)
  go_ret
  exact ⟨rfl, rfl⟩
end I

namespace N
variable {w : World}
/-- kids that nobody made: nil, or with no cell filled -/
def Bare (w : World) (v : Option Addr) : Prop := v = none ∨ ∃ k o, v = some ⟨k, o, none⟩ ∧ w.cell? ⟨k, o, none⟩ = some (.pointer none) ∧ w.cell? ⟨k, o + 1, none⟩ = some (.pointer none)
theorem kok_no {v : Option Addr} (h : Bare w v) : Calls Try.prog 84 #[.pointer v] w fun e w' => e = .returned (.bool false) ∧ w = w' := by
  rcases h with rfl | ⟨k, o, rfl, h0, h1⟩
  · exact kok_nil w
  · exact kok_bare w k o h0 h1
theorem bare_len {v : Option Addr} (h : Bare w v) : Calls Try.prog 57 #[.pointer v] w fun e w' => e = .returned (.int .i64 0) ∧ w = w' := by
  have hok := Lib.hid (kok_no h)
  clear h
  go_enter Try.func57, Try.ntmps57
  go_wp2_with (go_at_call 84; refine hok.out.mono ?_; rintro e w' ⟨rfl, rfl⟩)
  go_ret
  exact ⟨rfl, rfl⟩
theorem bare_kind {v : Option Addr} (h : Bare w v) : Calls Try.prog 56 #[.pointer v] w fun e w' => e = .returned (.int .i64 0) ∧ w = w' := by
  have hok := Lib.hid (kok_no h)
  clear h
  go_enter Try.func56, Try.ntmps56
  go_wp2_with (go_at_call 84; refine hok.out.mono ?_; rintro e w' ⟨rfl, rfl⟩)
  go_ret
  exact ⟨rfl, rfl⟩
theorem bare_get {v : Option Addr} (h : Bare w v) (b : Nat) : Calls Try.prog 46 #[.pointer v, .int .u8 b] w fun e w' => e = .returned (.tuple #[(.pointer none), .bool false]) ∧ w = w' := by
  have hok := Lib.hid (kok_no h)
  clear h
  go_enter Try.func46, Try.ntmps46
  go_wp2_with (go_at_call 84; refine hok.out.mono ?_; rintro e w' ⟨rfl, rfl⟩)
  go_ret2
  exact ⟨rfl, rfl⟩
theorem bare_next {v : Option Addr} (h : Bare w v) (f : Int) : Calls Try.prog 44 #[.pointer v, .int .i64 f] w fun e w' => e = .returned (.tuple #[.int .u8 0, (.pointer none), .bool false]) ∧ w = w' := by
  have hok := Lib.hid (kok_no h)
  clear h
  go_enter Try.func44, Try.ntmps44
  go_wp2_with (go_at_call 84; refine hok.out.mono ?_; rintro e w' ⟨rfl, rfl⟩)
  go_ret3
  exact ⟨rfl, rfl⟩
theorem bare_prev {v : Option Addr} (h : Bare w v) (f : Int) : Calls Try.prog 45 #[.pointer v, .int .i64 f] w fun e w' => e = .returned (.tuple #[.int .u8 0, (.pointer none), .bool false]) ∧ w = w' := by
  have hok := Lib.hid (kok_no h)
  clear h
  go_enter Try.func45, Try.ntmps45
  go_wp2_with (go_at_call 84; refine hok.out.mono ?_; rintro e w' ⟨rfl, rfl⟩)
  go_ret3
  exact ⟨rfl, rfl⟩
theorem bare_drop {v : Option Addr} (h : Bare w v) (b : Nat) : Calls Try.prog 54 #[.pointer v, .int .u8 b] w fun e w' => e = .returned (.int .i64 2) ∧ w = w' := by
  have hok := Lib.hid (kok_no h)
  clear h
  go_enter Try.func54, Try.ntmps54
  go_wp2_with (go_at_call 84; refine hok.out.mono ?_; rintro e w' ⟨rfl, rfl⟩)
  go_ret
  exact ⟨rfl, rfl⟩
theorem bare_copy {v : Option Addr} (h : Bare w v) : Calls Try.prog 48 #[.pointer v] w fun e w' => e = .returned (.pointer none) ∧ w = w' := by
  have hok := Lib.hid (kok_no h)
  clear h
  go_enter Try.func48, Try.ntmps48
  go_wp2_with (go_at_call 84; refine hok.out.mono ?_; rintro e w' ⟨rfl, rfl⟩)
  go_ret
  exact ⟨rfl, rfl⟩
theorem bare_set {v : Option Addr} (h : Bare w v) (b : Nat) (x : (Option Addr)) : Calls Try.prog 53 #[.pointer v, .int .u8 b, .pointer x] w fun e w' => e = .returned (.int .i64 2) ∧ w = w' := by
  have hok := Lib.hid (kok_no h)
  clear h
  go_enter Try.func53, Try.ntmps53
  go_wp2_with (go_at_call 84; refine hok.out.mono ?_; rintro e w' ⟨rfl, rfl⟩)
  go_ret
  exact ⟨rfl, rfl⟩
end N
end Go.Proofs.Ytgijnjdcpipfiaa
/- Kids: alive (spunyarnlaw11): five, and four again. -/
namespace Go.Proofs.Ytgijnjdcpipfiaa
open Go.RowKit
/-- kids that were made since w0 -/
def KidsIn (w0 w : World) (k : Nat) (l : KV) (S : Nat → Prop) : Prop := I.KdAt w k (kindOf l.length) l S ∧ I.Vals l ∧ ∀ j, S j → w0.heap.size ≤ j
theorem KidsIn.other {w0 w w' : World} {k : Nat} {l : KV} {S T : Nat → Prop} (h : KidsIn w0 w k l S) (hm : Mod T w w') (hd : ∀ j, S j → ¬ T j) : KidsIn w0 w' k l S :=
  ⟨h.1.keep fun j hj => hm.same j (h.1.lt j hj) (hd j hj), h.2⟩
theorem KidsIn.drewN {w0 w : World} {k : Nat} {l : KV} {S : Nat → Prop} (h : KidsIn w0 w k l S) (n : Nat) : KidsIn w0 (w.drewN n) k l S := ⟨h.1.drewN n, h.2⟩
/-- what a call does that turns kids k into l' -/
def TurnsTo (w0 w : World) (k : Nat) (l' : KV) (S : Nat → Prop) (w' : World) : Prop := ∃ S', KidsIn w0 w' k l' S' ∧ Mod S w w' ∧ ∀ j, S' j → S j ∨ w.heap.size ≤ j
theorem TurnsTo.of {w0 w w' : World} {k : Nat} {l' : KV} {S : Nat → Prop} {E e : Ending} (hw : w0.heap.size ≤ w.heap.size) (hS : ∀ j, S j → w0.heap.size ≤ j) (hv : I.Vals l') (h : I.kPost k (kindOf l'.length) l' S w E e w') : TurnsTo w0 w k l' S w' := by
  obtain ⟨_, S', h1, h2, h3⟩ := h
  refine ⟨S', ⟨h1, hv, fun j hj => ?_⟩, h2, h3⟩
  rcases h3 j hj with e | e
  · exact hS j e
  · omega
section
variable {w0 w : World} {k : Nat} {l : KV} {S : Nat → Prop}
theorem ki_set (h : KidsIn w0 w k l S) (hw : w0.heap.size ≤ w.heap.size) (b : Nat) (hb : b < 256) (x : Int) : Calls Try.prog 39 #[.pointer (some ⟨k, 0, none⟩), .int .u8 b, .int .i64 x] w fun e w' => e = .returned (.int .i64 0) ∧ TurnsTo w0 w k (kins l b (.int .i64 x)) S w' :=
  (I.kd_set h.1 h.2.1 b hb x).mono fun e w' q => ⟨q.1, TurnsTo.of hw h.2.2 (I.Vals.ins h.2.1 b x) q⟩
theorem ki_drop (h : KidsIn w0 w k l S) (hw : w0.heap.size ≤ w.heap.size) (b : Nat) (hb : b < 256) : Calls Try.prog 41 #[.pointer (some ⟨k, 0, none⟩), .int .u8 b] w fun e w' => e = .returned (.int .i64 (if has l b then 0 else 6)) ∧ TurnsTo w0 w k (kdel l b) S w' :=
  (I.kd_drop h.1 h.2.1 b hb).mono fun e w' q => ⟨q.1, TurnsTo.of hw h.2.2 (I.Vals.del h.2.1 b) q⟩
theorem ki_new (w0 w : World) (hw : w0.heap.size ≤ w.heap.size) : Calls Try.prog 37 #[] w fun e w' => ∃ k S, e = .returned (.pointer (some ⟨k, 0, none⟩)) ∧ KidsIn w0 w' k [] S ∧ Below w.heap.size w w' ∧ ∀ j, S j → w.heap.size ≤ j := by
  refine (I.kd_new w).mono ?_
  rintro e w' ⟨rfl, S, h1, h2, h3⟩
  exact ⟨_, S, rfl, ⟨h1, (fun p hp => by simp at hp), fun j hj => Nat.le_trans hw (h3 j hj)⟩, h2, h3⟩
theorem ki_copy (h : KidsIn w0 w k l S) (hw : w0.heap.size ≤ w.heap.size) : Calls Try.prog 43 #[.pointer (some ⟨k, 0, none⟩)] w fun e w' => ∃ k' S', e = .returned (.pointer (some ⟨k', 0, none⟩)) ∧ KidsIn w0 w' k' l S' ∧ Below w.heap.size w w' ∧ ∀ j, S' j → w.heap.size ≤ j := by
  refine (I.kd_copy h.1).mono ?_
  rintro e w' ⟨k', S', rfl, h1, h2, h3⟩
  exact ⟨k', S', rfl, ⟨h1, h.2.1, fun j hj => Nat.le_trans hw (h3 j hj)⟩, h2, h3⟩
end
/-- one kids, made since w0, and nothing of what was before has changed -/
def Solo (w0 w : World) (k : Nat) (l : KV) : Prop := ∃ S, KidsIn w0 w k l S ∧ Below w0.heap.size w0 w
theorem Solo.drewN {w0 w : World} {k : Nat} {l : KV} (h : Solo w0 w k l) (n : Nat) : Solo w0 (w.drewN n) k l := by
  obtain ⟨S, h1, h2⟩ := h
  exact ⟨S, h1.drewN n, ⟨h2.os, h2.tape, h2.output, h2.size, h2.block⟩⟩
theorem below_mod {w0 w w' : World} {S : Nat → Prop} (h : Below w0.heap.size w0 w) (hm : Mod S w w') (hS : ∀ j, S j → w0.heap.size ≤ j) : Below w0.heap.size w0 w' := by
  refine h.trans (?_ : Below w0.heap.size w w')
  have := h.size
  exact ⟨hm.os, hm.tape, hm.output, hm.size, fun j hj => hm.same j (by omega) (fun e => by have := hS j e; omega)⟩
theorem Solo.turn {w0 w w' : World} {k : Nat} {l' : KV} {S : Nat → Prop} (hB : Below w0.heap.size w0 w) (hS : ∀ j, S j → w0.heap.size ≤ j) (h : TurnsTo w0 w k l' S w') : Solo w0 w' k l' := by
  obtain ⟨S', h1, h2, h3⟩ := h
  exact ⟨S', h1, below_mod hB h2 hS⟩
section
variable {w0 w : World} {k : Nat} {l : KV}
theorem so_new (w0 w : World) (hw : Below w0.heap.size w0 w) : Calls Try.prog 37 #[] w fun e w' => ∃ k, e = .returned (.pointer (some ⟨k, 0, none⟩)) ∧ Solo w0 w' k [] := by
  refine (ki_new w0 w hw.size).mono ?_
  rintro e w' ⟨k, S, rfl, h1, h2, h3⟩
  exact ⟨k, rfl, S, h1, hw.trans (h2.mono hw.size)⟩
theorem so_set (h : Solo w0 w k l) (b : Nat) (hb : b < 256) (x : Int) : Calls Try.prog 39 #[.pointer (some ⟨k, 0, none⟩), .int .u8 b, .int .i64 x] w fun e w' => e = .returned (.int .i64 0) ∧ Solo w0 w' k (kins l b (.int .i64 x)) := by
  obtain ⟨S, h1, h2⟩ := h
  exact (ki_set h1 h2.size b hb x).mono fun e w' q => ⟨q.1, Solo.turn h2 h1.2.2 q.2⟩
theorem so_drop (h : Solo w0 w k l) (b : Nat) (hb : b < 256) : Calls Try.prog 41 #[.pointer (some ⟨k, 0, none⟩), .int .u8 b] w fun e w' => e = .returned (.int .i64 (if has l b then 0 else 6)) ∧ Solo w0 w' k (kdel l b) := by
  obtain ⟨S, h1, h2⟩ := h
  exact (ki_drop h1 h2.size b hb).mono fun e w' q => ⟨q.1, Solo.turn h2 h1.2.2 q.2⟩
theorem so_copy (h : Solo w0 w k l) : Calls Try.prog 43 #[.pointer (some ⟨k, 0, none⟩)] w fun e w' => ∃ k', e = .returned (.pointer (some ⟨k', 0, none⟩)) ∧ Solo w0 w' k' l := by
  obtain ⟨S, h1, h2⟩ := h
  refine (ki_copy h1 h2.size).mono ?_
  rintro e w' ⟨k', S', rfl, q1, q2, q3⟩
  exact ⟨k', rfl, S', q1, h2.trans (q2.mono h2.size)⟩
theorem so_len (h : Solo w0 w k l) : Calls Try.prog 42 #[.pointer (some ⟨k, 0, none⟩)] w fun e w' => e = .returned (.int .i64 l.length) ∧ w = w' := by
  obtain ⟨S, h1, h2⟩ := h; exact I.kd_len h1.1
theorem so_kind (h : Solo w0 w k l) : Calls Try.prog 38 #[.pointer (some ⟨k, 0, none⟩)] w fun e w' => e = .returned (.int .i64 (kindOf l.length : Nat)) ∧ w = w' := by
  obtain ⟨S, h1, h2⟩ := h; exact I.kd_kind h1.1
theorem so_get (h : Solo w0 w k l) (b : Nat) (hb : b < 256) : Calls Try.prog 40 #[.pointer (some ⟨k, 0, none⟩), .int .u8 b] w fun e w' => e = .returned (I.getV (kget l b)) ∧ ∃ n, w' = w.drewN n := by
  obtain ⟨S, h1, h2⟩ := h; exact I.kd_get h1.1 b hb
end
def aliveL (i : Nat) : KV := (List.range i).map fun b => (b, .int .i64 (b : Nat))
theorem aliveL_next {i : Nat} (h : i < 5) : kins (aliveL i) i (.int .i64 (i : Nat)) = aliveL (i + 1) := by
  have : i = 0 ∨ i = 1 ∨ i = 2 ∨ i = 3 ∨ i = 4 := by omega
  rcases this with rfl | rfl | rfl | rfl | rfl <;> rfl
/-- what a statement's walk ends with -/
def LawPost (w : World) (e : Ending) (w' : World) : Prop := e = .returned (.bool true) ∧ Below w.heap.size w w'
set_option maxHeartbeats 1000000 in
theorem alive_any (w : World) : Calls Try.prog 9 #[] w (LawPost w) := by
  have hnew := Lib.hid (so_new w w (Below.refl _ w))
  have hset : Hid (∀ k i wr, i < 5 → Solo w wr k (aliveL i) → Calls Try.prog 39 #[.pointer (some ⟨k, 0, none⟩), .int .u8 (i : Nat), .int .i64 (i : Nat)] wr fun e w' => e = .returned (.int .i64 0) ∧ Solo w w' k (aliveL (i + 1))) := fun k i wr hi q => by
    have := so_set q i (by omega) (i : Nat)
    rw [aliveL_next hi] at this
    exact this
  have hkind : Hid (∀ k wr, Solo w wr k [] → Calls Try.prog 38 #[.pointer (some ⟨k, 0, none⟩)] wr fun e w' => e = .returned (.int .i64 4) ∧ wr = w') := fun k wr q => so_kind q
  have hkind5 : Hid (∀ k wr, Solo w wr k (aliveL 5) → Calls Try.prog 38 #[.pointer (some ⟨k, 0, none⟩)] wr fun e w' => e = .returned (.int .i64 16) ∧ wr = w') := fun k wr q => so_kind q
  have hkind4 : Hid (∀ k wr, Solo w wr k (aliveL 4) → Calls Try.prog 38 #[.pointer (some ⟨k, 0, none⟩)] wr fun e w' => e = .returned (.int .i64 4) ∧ wr = w') := fun k wr q => so_kind q
  have hlen4 : Hid (∀ k wr, Solo w wr k (aliveL 4) → Calls Try.prog 42 #[.pointer (some ⟨k, 0, none⟩)] wr fun e w' => e = .returned (.int .i64 4) ∧ wr = w') := fun k wr q => so_len q
  have hget : Hid (∀ k wr, Solo w wr k (aliveL 5) → Calls Try.prog 40 #[.pointer (some ⟨k, 0, none⟩), .int .u8 4] wr fun e w' => e = .returned (.tuple #[.int .i64 4, .bool true]) ∧ ∃ n, w' = wr.drewN n) := fun k wr q => so_get q 4 (by omega)
  have hdrop : Hid (∀ k wr, Solo w wr k (aliveL 5) → Calls Try.prog 41 #[.pointer (some ⟨k, 0, none⟩), .int .u8 4] wr fun e w' => e = .returned (.int .i64 0) ∧ Solo w w' k (aliveL 4)) := fun k wr q => so_drop q 4 (by omega)
  have hcopy : Hid (∀ k wr, Solo w wr k (aliveL 4) → Calls Try.prog 43 #[.pointer (some ⟨k, 0, none⟩)] wr fun e w' => ∃ k', e = .returned (.pointer (some ⟨k', 0, none⟩)) ∧ Solo w w' k' (aliveL 4)) := fun k wr q => so_copy q
  have hk17 : Hid (∀ w, Calls Try.prog 7 #[.int .i64 17] w fun e w' => e = .returned (.int .i64 48) ∧ w = w') := fun w => kindOf_nat 17 (by omega) w
  have hend : Hid (∀ k wr l, Solo w wr k l → Below w.heap.size w wr) := fun k wr l q => by obtain ⟨S, _, q⟩ := q; exact q
  go_enter Try.func9, Try.ntmps9
  go_wp2_with (first | (go_at_call 37; refine hnew.out.mono ?_; rintro e w1 ⟨k, rfl, q⟩; have q := Lib.hid q) | (go_at_call 38; refine (hkind.out _ _ q.out).mono ?_; rintro e w' ⟨rfl, rfl⟩))
  go_loopw [13] (fun vi wr => ∃ i : Nat, vi = .int .i64 (i : Nat) ∧ i ≤ 5 ∧ Hid (Solo w wr k (aliveL i))) (fun vi _ => (5 - intOf vi).toNat)
  case atStart => exact ⟨0, rfl, by omega, q⟩
  case round =>
    obtain ⟨i, rfl, hi, hs⟩ := hrel
    by_cases hlt : i < 5
    · have hlt2 : (i : Int) < 5 := by omega
      have hset1 := Lib.hid (hset.out k i wr hlt hs.out)
      have hw8 : IntKind.u8.wrap ((i : Nat) : Int) = (i : Nat) := IntWalk.u8_in _ (by omega)
      have hw9 : IntKind.i64.wrap (((i : Nat) : Int) + 1) = ((i : Nat) : Int) + 1 := IntWalk.i64_in _ (by omega)
      clear hlt
      go_wp2_with (go_at_call 39; refine hset1.out.mono ?_; rintro e w' ⟨rfl, q2⟩; have q2 := Lib.hid q2)
      go_roundw
      case rel => exact ⟨i + 1, (by first | rfl | go_num), by omega, q2⟩
      case measure => (simp [intOf]) <;> omega
    · obtain rfl : i = 5 := by omega
      clear hlt
      go_wp2_with (first | (go_at_call 40; refine (hget.out _ _ hs.out).mono ?_; rintro e w' ⟨rfl, nd, rfl⟩; have hs2 := Lib.hid (hs.out.drewN nd)) | (go_at_call 38; refine (hkind4.out _ _ hs3.out).mono ?_; rintro e w' ⟨rfl, rfl⟩) | (go_at_call 38; refine (hkind5.out _ _ hs2.out).mono ?_; rintro e w' ⟨rfl, rfl⟩) | (go_at_call 41; refine (hdrop.out _ _ hs2.out).mono ?_; rintro e w' ⟨rfl, hs3⟩; have hs3 := Lib.hid hs3) | (go_at_call 42; refine (hlen4.out _ _ hs4.out).mono ?_; rintro e w' ⟨rfl, rfl⟩) | (go_at_call 42; refine (hlen4.out _ _ hs3.out).mono ?_; rintro e w' ⟨rfl, rfl⟩) | (go_at_call 43; refine (hcopy.out _ _ hs3.out).mono ?_; rintro e w' ⟨k2, rfl, hs4⟩; have hs4 := Lib.hid hs4) | (go_at_call 7; refine (hk17.out _).mono ?_; rintro e w' ⟨rfl, rfl⟩))
      go_ret
      exact ⟨rfl, hend.out _ _ _ hs4.out⟩
end Go.Proofs.Ytgijnjdcpipfiaa
/- Two and three kids side by side, made since a world w0. -/
namespace Go.Proofs.Ytgijnjdcpipfiaa
open Go.RowKit
def Two (w0 w : World) (a : Nat) (la : KV) (b : Nat) (lb : KV) : Prop := ∃ Sa Sb, KidsIn w0 w a la Sa ∧ KidsIn w0 w b lb Sb ∧ (∀ j, Sa j → ¬ Sb j) ∧ Below w0.heap.size w0 w
def Three (w0 w : World) (a : Nat) (la : KV) (b : Nat) (lb : KV) (c : Nat) (lc : KV) : Prop :=
  ∃ Sa Sb Sc, KidsIn w0 w a la Sa ∧ KidsIn w0 w b lb Sb ∧ KidsIn w0 w c lc Sc ∧ (∀ j, Sa j → ¬ Sb j) ∧ (∀ j, Sa j → ¬ Sc j) ∧ (∀ j, Sb j → ¬ Sc j) ∧ Below w0.heap.size w0 w
theorem dis_swap {S T : Nat → Prop} (h : ∀ j, S j → ¬ T j) : ∀ j, T j → ¬ S j := fun j t s => h j s t
theorem below_drewN {B : Nat} {w0 w : World} (h : Below B w0 w) (n : Nat) : Below B w0 (w.drewN n) := ⟨h.os, h.tape, h.output, h.size, h.block⟩
section
variable {w0 w w' : World} {a b c : Nat} {la lb lc l' : KV} {S S' T : Nat → Prop}
theorem KidsIn.lt (h : KidsIn w0 w a la S) : ∀ j, S j → j < w.heap.size := h.1.lt
/-- what is turned stays apart -/
theorem dis_turn (hT : ∀ j, T j → j < w.heap.size) (hd : ∀ j, S j → ¬ T j) (h3 : ∀ j, S' j → S j ∨ w.heap.size ≤ j) : ∀ j, S' j → ¬ T j := fun j hj ht => by
  rcases h3 j hj with e | e
  · exact hd j e ht
  · have := hT j ht; omega
theorem Two.swap (h : Two w0 w a la b lb) : Two w0 w b lb a la := by
  obtain ⟨Sa, Sb, h1, h2, h3, h4⟩ := h
  exact ⟨Sb, Sa, h2, h1, dis_swap h3, h4⟩
theorem Two.drewN (h : Two w0 w a la b lb) (n : Nat) : Two w0 (w.drewN n) a la b lb := by
  obtain ⟨Sa, Sb, h1, h2, h3, h4⟩ := h
  exact ⟨Sa, Sb, h1.drewN n, h2.drewN n, h3, below_drewN h4 n⟩
theorem Two.fst (h : Two w0 w a la b lb) : Solo w0 w a la := by
  obtain ⟨Sa, Sb, h1, h2, h3, h4⟩ := h
  exact ⟨Sa, h1, h4⟩
theorem Two.below (h : Two w0 w a la b lb) : Below w0.heap.size w0 w := by
  obtain ⟨Sa, Sb, h1, h2, h3, h4⟩ := h; exact h4
theorem Three.rot (h : Three w0 w a la b lb c lc) : Three w0 w b lb c lc a la := by
  obtain ⟨Sa, Sb, Sc, h1, h2, h3, d1, d2, d3, h4⟩ := h
  exact ⟨Sb, Sc, Sa, h2, h3, h1, d3, dis_swap d1, dis_swap d2, h4⟩
theorem Three.drewN (h : Three w0 w a la b lb c lc) (n : Nat) : Three w0 (w.drewN n) a la b lb c lc := by
  obtain ⟨Sa, Sb, Sc, h1, h2, h3, d1, d2, d3, h4⟩ := h
  exact ⟨Sa, Sb, Sc, h1.drewN n, h2.drewN n, h3.drewN n, d1, d2, d3, below_drewN h4 n⟩
theorem Three.two (h : Three w0 w a la b lb c lc) : Two w0 w a la b lb := by
  obtain ⟨Sa, Sb, Sc, h1, h2, h3, d1, d2, d3, h4⟩ := h
  exact ⟨Sa, Sb, h1, h2, d1, h4⟩
theorem Three.below (h : Three w0 w a la b lb c lc) : Below w0.heap.size w0 w := h.two.below
theorem Two.turn (Sa Sb : Nat → Prop) (h2 : KidsIn w0 w b lb Sb) (h3 : ∀ j, Sa j → ¬ Sb j) (h4 : Below w0.heap.size w0 w) (hS : ∀ j, Sa j → w0.heap.size ≤ j) (h : TurnsTo w0 w a l' Sa w') : Two w0 w' a l' b lb := by
  obtain ⟨S', q1, q2, q3⟩ := h
  exact ⟨S', Sb, q1, h2.other q2 (dis_swap h3), dis_turn h2.lt h3 q3, below_mod h4 q2 hS⟩
theorem two_set (h : Two w0 w a la b lb) (x : Nat) (hx : x < 256) (v : Int) : Calls Try.prog 39 #[.pointer (some ⟨a, 0, none⟩), .int .u8 x, .int .i64 v] w fun e w' => e = .returned (.int .i64 0) ∧ Two w0 w' a (kins la x (.int .i64 v)) b lb := by
  obtain ⟨Sa, Sb, h1, h2, h3, h4⟩ := h
  exact (ki_set h1 h4.size x hx v).mono fun e w' q => ⟨q.1, Two.turn Sa Sb h2 h3 h4 h1.2.2 q.2⟩
theorem Three.turn (Sa Sb Sc : Nat → Prop) (h2 : KidsIn w0 w b lb Sb) (h3 : KidsIn w0 w c lc Sc) (d1 : ∀ j, Sa j → ¬ Sb j) (d2 : ∀ j, Sa j → ¬ Sc j) (d3 : ∀ j, Sb j → ¬ Sc j) (h4 : Below w0.heap.size w0 w) (hS : ∀ j, Sa j → w0.heap.size ≤ j) (h : TurnsTo w0 w a l' Sa w') : Three w0 w' a l' b lb c lc := by
  obtain ⟨S', q1, q2, q3⟩ := h
  exact ⟨S', Sb, Sc, q1, h2.other q2 (dis_swap d1), h3.other q2 (dis_swap d2), dis_turn h2.lt d1 q3, dis_turn h3.lt d2 q3, d3, below_mod h4 q2 hS⟩
theorem three_set (h : Three w0 w a la b lb c lc) (x : Nat) (hx : x < 256) (v : Int) : Calls Try.prog 39 #[.pointer (some ⟨a, 0, none⟩), .int .u8 x, .int .i64 v] w fun e w' => e = .returned (.int .i64 0) ∧ Three w0 w' a (kins la x (.int .i64 v)) b lb c lc := by
  obtain ⟨Sa, Sb, Sc, h1, h2, h3, d1, d2, d3, h4⟩ := h
  exact (ki_set h1 h4.size x hx v).mono fun e w' q => ⟨q.1, Three.turn Sa Sb Sc h2 h3 d1 d2 d3 h4 h1.2.2 q.2⟩
theorem three_drop (h : Three w0 w a la b lb c lc) (x : Nat) (hx : x < 256) : Calls Try.prog 41 #[.pointer (some ⟨a, 0, none⟩), .int .u8 x] w fun e w' => e = .returned (.int .i64 (if has la x then 0 else 6)) ∧ Three w0 w' a (kdel la x) b lb c lc := by
  obtain ⟨Sa, Sb, Sc, h1, h2, h3, d1, d2, d3, h4⟩ := h
  exact (ki_drop h1 h4.size x hx).mono fun e w' q => ⟨q.1, Three.turn Sa Sb Sc h2 h3 d1 d2 d3 h4 h1.2.2 q.2⟩
theorem two_new (h : Solo w0 w a la) : Calls Try.prog 37 #[] w fun e w' => ∃ b, e = .returned (.pointer (some ⟨b, 0, none⟩)) ∧ Two w0 w' a la b [] := by
  obtain ⟨Sa, h1, h4⟩ := h
  refine (ki_new w0 w h4.size).mono ?_
  rintro e w' ⟨b, Sb, rfl, q1, q2, q3⟩
  exact ⟨b, rfl, Sa, Sb, ⟨h1.1.below q2, h1.2⟩, q1, fun j hj hb => by have := h1.lt j hj; have := q3 j hb; omega, h4.trans (q2.mono h4.size)⟩
theorem three_copy (h : Two w0 w a la b lb) : Calls Try.prog 43 #[.pointer (some ⟨b, 0, none⟩)] w fun e w' => ∃ c, e = .returned (.pointer (some ⟨c, 0, none⟩)) ∧ Three w0 w' a la b lb c lb := by
  obtain ⟨Sa, Sb, h1, h2, h3, h4⟩ := h
  refine (ki_copy h2 h4.size).mono ?_
  rintro e w' ⟨c, Sc, rfl, q1, q2, q3⟩
  exact ⟨c, rfl, Sa, Sb, Sc, ⟨h1.1.below q2, h1.2⟩, ⟨h2.1.below q2, h2.2⟩, q1, h3, fun j hj hb => by have := h1.lt j hj; have := q3 j hb; omega, fun j hj hb => by have := h2.lt j hj; have := q3 j hb; omega, h4.trans (q2.mono h4.size)⟩
theorem so_next (h : Solo w0 w a la) (f : Int) (hlo : -9223372036854775808 ≤ f) (hhi : f ≤ 9223372036854775807) : Calls Try.prog 118 #[.pointer (some ⟨a, 0, none⟩), .int .i64 f] w fun e w' => e = .returned (I.atV (knxt la f)) ∧ ∃ n, w' = w.drewN n := by
  obtain ⟨S, h1, h2⟩ := h; exact I.kd_next h1.1 f hlo hhi
theorem Solo.srt (h : Solo w0 w a la) : Srt la ∧ Low la ∧ I.Vals la := by
  obtain ⟨S, h1, h2⟩ := h
  exact ⟨h1.1.srt.1, h1.1.srt.2.1, h1.2.1⟩
end
/-- the things are just those that f tells -/
def Tells (l : KV) (f : Nat → Option Int) : Prop := ∀ c, kget l c = (f c).map (.int .i64)
theorem Tells.nil : Tells [] (fun _ => none) := fun c => rfl
theorem Tells.ins {l : KV} (hs : Srt l) {f : Nat → Option Int} (h : Tells l f) (b : Nat) (v : Int) : Tells (kins l b (.int .i64 v)) (fun c => if c = b then some v else f c) := fun c => by
  rw [get_ins hs]
  by_cases e : c = b
  · simp [e]
  · simp [e, h c]
theorem Tells.del {l : KV} (hs : Srt l) {f : Nat → Option Int} (h : Tells l f) (b : Nat) : Tells (kdel l b) (fun c => if c = b then none else f c) := fun c => by
  rw [get_del hs]
  by_cases e : c = b
  · simp [e]
  · simp [e, h c]
theorem Tells.uniq {l m : KV} (hl : Srt l) (hm : Srt m) {f : Nat → Option Int} (h : Tells l f) (k : Tells m f) : l = m := hl.ext hm fun b => by rw [h, k]
theorem Tells.congr {l : KV} {f g : Nat → Option Int} (h : Tells l f) (e : ∀ c, f c = g c) : Tells l g := fun c => by rw [h, e]
theorem Tells.vals {l : KV} (hs : Srt l) {f : Nat → Option Int} (h : Tells l f) : ∀ p ∈ l, ∃ v, f p.1 = some v ∧ p.2 = .int .i64 v := fun p hp => by
  have h1 := h p.1
  rw [(mem_get hs).2 (show (p.1, p.2) ∈ l from hp)] at h1
  cases hf : f p.1 with
  | none => rw [hf] at h1; simp at h1
  | some v => rw [hf] at h1; exact ⟨v, rfl, by simpa using h1⟩
end Go.Proofs.Ytgijnjdcpipfiaa
/- Bytes that a slice has ahead. -/
namespace Go.Proofs.Ytgijnjdcpipfiaa
open Go.RowKit
/-- the bytes that a slice has ahead -/
def BytesAt (w : World) (a : Option Addr) (bs : List Nat) : Prop := (∀ x ∈ bs, x < 256) ∧ ∀ i, i < bs.length → ∃ p : Addr, a = some p ∧ (p.add i).block < w.heap.size ∧ w.cell? (p.add i) = some (.int .u8 (bs.getD i 0 : Nat))
theorem BytesAt.read {w wr : World} {a : Option Addr} {bs : List Nat} (h : BytesAt w a bs) (hb : Below w.heap.size w wr) {i : Nat} (hi : i < bs.length) : ∃ p : Addr, a = some p ∧ wr.cell? (p.add i) = some (.int .u8 (bs.getD i 0 : Nat)) := by
  obtain ⟨p, rfl, h1, h2⟩ := h.2 i hi
  exact ⟨p, rfl, (hb.cell (p := p.add i) h1).trans h2⟩
end Go.Proofs.Ytgijnjdcpipfiaa
/- A slice of bytes that came in: the bytes that it has ahead. -/
namespace Go.Proofs.Ytgijnjdcpipfiaa
open Go.RowKit
theorem cell_lt {w : World} {a : Addr} {v : Value} (h : w.cell? a = some v) : a.block < w.heap.size := by
  by_cases hb : a.block < w.heap.size
  · exact hb
  · have : w.heap[a.block]? = none := by simpa using hb
    simp [World.cell?, this] at h
theorem wf_u8 {n : Int} (h : (Lit.int .u8 n).wf = true) : 0 ≤ n ∧ n ≤ 255 := by simpa [Lit.wf, IntKind.min, IntKind.max, IntKind.signed, IntKind.bits] using h
theorem wf_i64 {n : Int} (h : (Lit.int .i64 n).wf = true) : -9223372036854775808 ≤ n ∧ n ≤ 9223372036854775807 := by simpa [Lit.wf, IntKind.min, IntKind.max, IntKind.signed, IntKind.bits] using h
theorem wf_u64 {n : Int} (h : (Lit.int .u64 n).wf = true) : 0 ≤ n ∧ n ≤ 18446744073709551615 := by simpa [Lit.wf, IntKind.min, IntKind.max, IntKind.signed, IntKind.bits] using h
theorem bytes_of {w : World} {a : Option Addr} {len cap : Nat} {zs : List Int} (h : (a = none ∧ len = 0 ∧ cap = 0 ∧ zs = []) ∨ ∃ x, a = some x ∧ len ≤ cap ∧ cap ≤ maxLen ∧ zs.length = cap ∧ (∀ i, i < zs.length → w.cell? (x.add i) = some (.int .u8 (zs.getD i 0))) ∧ ∀ n ∈ zs, (Lit.int .u8 n).wf = true) (m : Nat) (hm : m ≤ len) :
    ∃ bs : List Nat, bs.length = m ∧ len ≤ cap ∧ cap ≤ maxLen ∧ BytesAt w a bs := by
  rcases h with ⟨rfl, rfl, rfl, rfl⟩ | ⟨x, rfl, h1, h2, h3, h4, h5⟩
  · obtain rfl : m = 0 := by omega
    exact ⟨[], rfl, Nat.le_refl _, Nat.zero_le _, by simp, by intro i hi; simp at hi⟩
  · refine ⟨(zs.take m).map Int.toNat, by simp; omega, h1, h2, ?_, ?_⟩
    · intro y hy
      obtain ⟨n, hn, rfl⟩ := List.mem_map.1 hy
      have := wf_u8 (h5 n (List.mem_of_mem_take hn))
      omega
    · intro i hi
      have hi' : i < m := by simp at hi; omega
      have hz : i < zs.length := by omega
      have hc := h4 i hz
      have hn := wf_u8 (h5 zs[i] (List.getElem_mem _))
      have e : zs.getD i 0 = ((((zs.take m).map Int.toNat).getD i 0 : Nat) : Int) := by
        simp [List.getD, List.getElem?_take, hi', hz]
        omega
      refine ⟨x, rfl, cell_lt hc, ?_⟩
      rw [hc, e]
end Go.Proofs.Ytgijnjdcpipfiaa
/- The document's Common, Cmp, Same (spunyarnref01) of bytes. -/
namespace Go.Proofs.Ytgijnjdcpipfiaa
open Go.RowKit
/-- how many bytes both begin with -/
def lcp : List Nat → List Nat → Nat
  | x :: xs, y :: ys => if x = y then lcp xs ys + 1 else 0
  | _, _ => 0
theorem lcp_le : ∀ (xs ys : List Nat), lcp xs ys ≤ xs.length ∧ lcp xs ys ≤ ys.length
  | [], _ => by simp [lcp]
  | _ :: _, [] => by simp [lcp]
  | x :: xs, y :: ys => by
    have := lcp_le xs ys
    unfold lcp
    split <;> simp <;> omega
theorem lcp_stop : ∀ (xs ys : List Nat) (n : Nat), (∀ j, j < n → xs.getD j 0 = ys.getD j 0) → n ≤ xs.length → n ≤ ys.length → (n = xs.length ∨ n = ys.length ∨ xs.getD n 0 ≠ ys.getD n 0) → lcp xs ys = n
  | [], ys, n, h1, h2, h3, h4 => by simp at h2; subst h2; rfl
  | x :: xs, [], n, h1, h2, h3, h4 => by simp at h3; subst h3; rfl
  | x :: xs, y :: ys, 0, h1, h2, h3, h4 => by
    have : x ≠ y := by
      rcases h4 with h | h | h
      · simp at h
      · simp at h
      · simpa using h
    simp [lcp, this]
  | x :: xs, y :: ys, n + 1, h1, h2, h3, h4 => by
    have e : x = y := by simpa using h1 0 (by omega)
    subst e
    have := lcp_stop xs ys n (fun j hj => by simpa using h1 (j + 1) (by omega)) (by simpa using h2) (by simpa using h3) (by simpa using h4)
    simp [lcp, this]
theorem lcp_same : ∀ (xs ys : List Nat), (lcp xs ys = xs.length ∧ lcp xs ys = ys.length) ↔ xs = ys
  | [], [] => by simp [lcp]
  | [], _ :: _ => by simp [lcp]
  | _ :: _, [] => by simp [lcp]
  | x :: xs, y :: ys => by
    have := lcp_same xs ys
    unfold lcp
    by_cases e : x = y
    · subst e; simp [this]
    · simp [e]
/-- the order of bytes -/
def bcmp (xs ys : List Nat) : Int :=
  if lcp xs ys = xs.length ∧ lcp xs ys = ys.length then 0 else if lcp xs ys = xs.length then -1 else if lcp xs ys = ys.length then 1 else if xs.getD (lcp xs ys) 0 < ys.getD (lcp xs ys) 0 then -1 else 1
theorem bcmp_zero (xs ys : List Nat) : bcmp xs ys = 0 ↔ xs = ys := by
  unfold bcmp
  rw [← lcp_same]
  split
  · rename_i h; exact ⟨fun _ => h, fun _ => rfl⟩
  · rename_i h
    constructor
    · intro e; exfalso; revert e; split <;> (try split) <;> (try split) <;> simp
    · intro e; exact absurd e h
/-- bytes at a slice, whatever was drawn -/
theorem BytesAt.cellN {w : World} {a : Option Addr} {bs : List Nat} (h : BytesAt w a bs) {i : Nat} (hi : i < bs.length) : ∃ p : Addr, a = some p ∧ ∀ k, (w.drewN k).cell? (p.add i) = some (.int .u8 (bs.getD i 0 : Nat)) := by
  obtain ⟨p, hp, _, h2⟩ := h.2 i hi
  exact ⟨p, hp, fun k => h2⟩
set_option maxRecDepth 100000 in
theorem ref_common (w : World) (a1 a2 : Option Addr) (n1 c1 n2 c2 : Nat) (xs ys : List Nat) (h1 : BytesAt w a1 xs) (h2 : BytesAt w a2 ys) (l1 : xs.length = n1) (l2 : ys.length = n2) (m1 : n1 ≤ maxLen) (m2 : n2 ≤ maxLen) : Calls Try.prog 104 #[.slice a1 n1 c1, .slice a2 n2 c2] w fun e w' => e = .returned (.int .i64 (lcp xs ys : Nat)) ∧ ∃ k, w' = w.drewN k := by
  have H1 := Lib.hid h1
  have H2 := Lib.hid h2
  have L1 := Lib.hid l1
  have L2 := Lib.hid l2
  have M1 : n1 ≤ 9223372036854775807 := m1
  have M2 : n2 ≤ 9223372036854775807 := m2
  obtain ⟨V, hV⟩ : ∃ V : Nat, Hid (lcp xs ys = V) := ⟨_, rfl⟩
  rw [hV.out]
  clear h1 h2 l1 l2 m1 m2
  go_enter Try.func104, Try.ntmps104
  go_wp2_with fail
  go_loopw [5] (fun vi wr => ∃ i k : Nat, vi = .int .i64 (i : Nat) ∧ i ≤ n1 ∧ i ≤ n2 ∧ Hid (∀ j, j < i → xs.getD j 0 = ys.getD j 0) ∧ wr = w.drewN k) (fun vi _ => (n1 - intOf vi).toNat)
  case atStart => exact ⟨0, 0, rfl, by omega, by omega, (fun j hj => absurd hj (Nat.not_lt_zero j)), rfl⟩
  case round =>
    obtain ⟨i, k, rfl, hi1, hi2, heq, rfl⟩ := hrel
    by_cases g1 : i < n1
    · by_cases g2 : i < n2
      · obtain ⟨p, rfl, hp⟩ := H1.out.cellN (i := i) (by rw [L1.out]; exact g1)
        obtain ⟨q, rfl, hq⟩ := H2.out.cellN (i := i) (by rw [L2.out]; exact g2)
        have j1 : (i : Int) < (n1 : Int) := by omega
        have j2 : (i : Int) < (n2 : Int) := by omega
        have hw9 : IntKind.i64.wrap (((i : Nat) : Int) + 1) = ((i : Nat) : Int) + 1 := IntWalk.i64_in _ (by omega)
        by_cases he : xs.getD i 0 = ys.getD i 0
        · have hn : Hid (∀ j, j < i + 1 → xs.getD j 0 = ys.getD j 0) := fun j hj => by
            by_cases e : j = i
            · subst e; exact he
            · exact heq.out j (by omega)
          rw [← he] at hq
          generalize xs.getD i 0 = u at *
          clear he
          go_wp2_with fail
          go_quiet (fail)
          go_wp2_with fail
          go_roundw
          case rel => exact ⟨i + 1, k + nq, (by first | rfl | go_num), by omega, by omega, hn, by simp⟩
          case measure => (simp [intOf]) <;> omega
        · have hR : Hid (i = V) := ((lcp_stop xs ys i heq.out (by rw [L1.out]; omega) (by rw [L2.out]; omega) (Or.inr (Or.inr he))).symm.trans hV.out : i = V)
          have he2 : ((xs.getD i 0 : Nat) : Int) ≠ ((ys.getD i 0 : Nat) : Int) := by omega
          have he3 : (((xs.getD i 0 : Nat) : Int) == ((ys.getD i 0 : Nat) : Int)) = false := by simpa using he2
          generalize xs.getD i 0 = u at *
          generalize ys.getD i 0 = v at *
          clear he he2
          go_wp2_with fail
          go_quiet (fail)
          go_wp2_with fail
          go_ret
          exact ⟨congrArg (fun n : Nat => Ending.returned (.int .i64 (n : Int))) hR.out, _, World.drewN_drewN _ _ _⟩
      · obtain ⟨p, rfl, hp⟩ := H1.out.cellN (i := i) (by rw [L1.out]; exact g1)
        obtain rfl : i = n2 := by omega
        have hR : Hid (i = V) := ((lcp_stop xs ys i heq.out (by rw [L1.out]; omega) (by rw [L2.out]; omega) (Or.inr (Or.inl (by rw [L2.out])))).symm.trans hV.out : i = V)
        have j1 : (i : Int) < (n1 : Int) := by omega
        go_wp2_with fail
        go_quiet (fail)
        go_wp2_with fail
        go_ret
        exact ⟨congrArg (fun n : Nat => Ending.returned (.int .i64 (n : Int))) hR.out, _, World.drewN_drewN _ _ _⟩
    · obtain rfl : i = n1 := by omega
      have hR : Hid (i = V) := ((lcp_stop xs ys i heq.out (by rw [L1.out]; omega) (by rw [L2.out]; omega) (Or.inl (by rw [L1.out]))).symm.trans hV.out : i = V)
      go_wp2_with fail
      go_quiet (fail)
      go_wp2_with fail
      go_ret
      exact ⟨congrArg (fun n : Nat => Ending.returned (.int .i64 (n : Int))) hR.out, _, World.drewN_drewN _ _ _⟩
set_option maxRecDepth 100000 in
theorem ref_cmp (w : World) (a1 a2 : Option Addr) (n1 c1 n2 c2 : Nat) (xs ys : List Nat) (h1 : BytesAt w a1 xs) (h2 : BytesAt w a2 ys) (l1 : xs.length = n1) (l2 : ys.length = n2) (m1 : n1 ≤ maxLen) (m2 : n2 ≤ maxLen) : Calls Try.prog 60 #[.slice a1 n1 c1, .slice a2 n2 c2] w fun e w' => e = .returned (.int .i64 (bcmp xs ys)) ∧ ∃ k, w' = w.drewN k := by
  have hC := Lib.hid (ref_common w a1 a2 n1 c1 n2 c2 xs ys h1 h2 l1 l2 m1 m2)
  have hle := lcp_le xs ys
  have H1 := Lib.hid h1
  have H2 := Lib.hid h2
  have L1 := Lib.hid l1
  have L2 := Lib.hid l2
  rw [l1, l2] at hle
  obtain ⟨hle1, hle2⟩ := hle
  have hB : Hid (bcmp xs ys = if lcp xs ys = n1 ∧ lcp xs ys = n2 then 0 else if lcp xs ys = n1 then -1 else if lcp xs ys = n2 then 1 else if xs.getD (lcp xs ys) 0 < ys.getD (lcp xs ys) 0 then -1 else 1) := by show _ = _; unfold bcmp; rw [l1, l2]
  clear h1 h2 l1 l2 m1 m2
  generalize hV : bcmp xs ys = V at *
  clear hV
  generalize lcp xs ys = i at *
  by_cases e1 : i = n1
  · by_cases e2 : i = n2
    · subst e1; subst e2
      have hR : Hid (V = 0) := by show _ = _; rw [hB.out]; simp
      rw [hR.out]
      clear hR
      go_enter Try.func60, Try.ntmps60
      go_wp2_with (go_at_call 104; refine hC.out.mono ?_; rintro e w' ⟨rfl, k, rfl⟩)
      go_ret
      exact ⟨rfl, _, rfl⟩
    · subst e1
      have hR : Hid (V = -1) := by show _ = _; rw [hB.out]; simp [e2]
      have j2 : (i : Int) ≠ (n2 : Int) := by omega
      rw [hR.out]
      clear hR e2
      go_enter Try.func60, Try.ntmps60
      go_wp2_with (go_at_call 104; refine hC.out.mono ?_; rintro e w' ⟨rfl, k, rfl⟩)
      go_ret
      exact ⟨rfl, _, rfl⟩
  · have j1 : (i : Int) ≠ (n1 : Int) := by omega
    by_cases e2 : i = n2
    · subst e2
      have hR : Hid (V = 1) := by show _ = _; rw [hB.out]; simp [e1]
      rw [hR.out]
      clear hR e1
      go_enter Try.func60, Try.ntmps60
      go_wp2_with (go_at_call 104; refine hC.out.mono ?_; rintro e w' ⟨rfl, k, rfl⟩)
      go_ret
      exact ⟨rfl, _, rfl⟩
    · have j2 : (i : Int) ≠ (n2 : Int) := by omega
      obtain ⟨p, rfl, hp⟩ := H1.out.cellN (i := i) (by rw [L1.out]; omega)
      obtain ⟨q, rfl, hq⟩ := H2.out.cellN (i := i) (by rw [L2.out]; omega)
      have k1 : (i : Int) < (n1 : Int) := by omega
      have k2 : (i : Int) < (n2 : Int) := by omega
      have hR : Hid (V = if xs.getD i 0 < ys.getD i 0 then -1 else 1) := by show _ = _; rw [hB.out]; simp [e1, e2]
      generalize xs.getD i 0 = u at *
      generalize ys.getD i 0 = v at *
      by_cases e3 : u < v
      · have j3 : (u : Int) < (v : Int) := by omega
        rw [hR.out, if_pos e3]
        clear hR e1 e2 e3 hB
        go_enter Try.func60, Try.ntmps60
        go_wp2_with (go_at_call 104; refine hC.out.mono ?_; rintro e w' ⟨rfl, k, rfl⟩)
        go_quiet (fail)
        go_wp2_with fail
        go_ret
        exact ⟨rfl, _, World.drewN_drewN _ _ _⟩
      · have j3 : ¬ (u : Int) < (v : Int) := by omega
        rw [hR.out, if_neg e3]
        clear hR e1 e2 e3 hB
        go_enter Try.func60, Try.ntmps60
        go_wp2_with (go_at_call 104; refine hC.out.mono ?_; rintro e w' ⟨rfl, k, rfl⟩)
        go_quiet (fail)
        go_wp2_with fail
        go_ret
        exact ⟨rfl, _, World.drewN_drewN _ _ _⟩
theorem ref_same (w : World) (a1 a2 : Option Addr) (n1 c1 n2 c2 : Nat) (xs ys : List Nat) (h1 : BytesAt w a1 xs) (h2 : BytesAt w a2 ys) (l1 : xs.length = n1) (l2 : ys.length = n2) (m1 : n1 ≤ maxLen) (m2 : n2 ≤ maxLen) : Calls Try.prog 61 #[.slice a1 n1 c1, .slice a2 n2 c2] w fun e w' => e = .returned (.bool (decide (xs = ys))) ∧ ∃ k, w' = w.drewN k := by
  have hC := Lib.hid (ref_cmp w a1 a2 n1 c1 n2 c2 xs ys h1 h2 l1 l2 m1 m2)
  have hz := bcmp_zero xs ys
  clear h1 h2 l1 l2 m1 m2
  by_cases e : xs = ys
  · have h0 : Hid (bcmp xs ys = 0) := hz.2 e
    have hR : Hid (decide (xs = ys) = true) := by show _ = _; simp [e]
    rw [hR.out]
    clear hz e hR
    go_enter Try.func61, Try.ntmps61
    go_wp2_with (go_at_call 60; refine hC.out.mono ?_; rintro e w' ⟨rfl, k, rfl⟩; rw [h0.out])
    go_ret
    exact ⟨rfl, _, rfl⟩
  · have h0 : bcmp xs ys ≠ 0 := fun q => e (hz.1 q)
    have h1 : (bcmp xs ys == 0) = false := by simpa using h0
    have hR : Hid (decide (xs = ys) = false) := by show _ = _; simp [e]
    rw [hR.out]
    clear hz e hR h0
    generalize bcmp xs ys = V at *
    go_enter Try.func61, Try.ntmps61
    go_wp2_with (go_at_call 60; refine hC.out.mono ?_; rintro e w' ⟨rfl, k, rfl⟩)
    go_ret
    exact ⟨rfl, _, rfl⟩
end Go.Proofs.Ytgijnjdcpipfiaa
/- Plain trees: pairs that rise, trees of parts; what is looked for in a tree is what its pairs have. No program. -/
namespace Go.Proofs.Ytgijnjdcpipfiaa
/-! The order of bytes. -/
theorem bcmp_nn : bcmp [] [] = 0 := rfl
theorem bcmp_nc (y : Nat) (ys : List Nat) : bcmp [] (y :: ys) = -1 := by simp [bcmp, lcp]
theorem bcmp_cn (x : Nat) (xs : List Nat) : bcmp (x :: xs) [] = 1 := by simp [bcmp, lcp]
theorem bcmp_same (x : Nat) (xs ys : List Nat) : bcmp (x :: xs) (x :: ys) = bcmp xs ys := by
  simp [bcmp, lcp]
theorem bcmp_lt {x y : Nat} (h : x < y) (xs ys : List Nat) : bcmp (x :: xs) (y :: ys) = -1 := by
  have : x ≠ y := by omega
  simp [bcmp, lcp, this, h]
theorem bcmp_gt {x y : Nat} (h : y < x) (xs ys : List Nat) : bcmp (x :: xs) (y :: ys) = 1 := by
  have h1 : x ≠ y := by omega
  have h2 : ¬ x < y := by omega
  simp [bcmp, lcp, h1, h2]
theorem bcmp_pre (p xs ys : List Nat) : bcmp (p ++ xs) (p ++ ys) = bcmp xs ys := by
  induction p with
  | nil => rfl
  | cons x p ih => simp only [List.cons_append, bcmp_same, ih]
/-- stands ahead -/
def slt (s t : List Nat) : Prop := bcmp s t = -1
theorem slt_nc (y : Nat) (ys : List Nat) : slt [] (y :: ys) := bcmp_nc y ys
theorem not_slt_nil (s : List Nat) : ¬ slt s [] := by
  cases s with
  | nil => simp [slt, bcmp_nn]
  | cons x s => simp [slt, bcmp_cn]
theorem slt_cons (x : Nat) (s t : List Nat) : slt (x :: s) (x :: t) ↔ slt s t := by simp [slt, bcmp_same]
theorem slt_pre (p s t : List Nat) : slt (p ++ s) (p ++ t) ↔ slt s t := by simp [slt, bcmp_pre]
theorem slt_lt {x y : Nat} (h : x < y) (s t : List Nat) : slt (x :: s) (y :: t) := bcmp_lt h s t
theorem slt_cc {x y : Nat} {s t : List Nat} : slt (x :: s) (y :: t) ↔ x < y ∨ x = y ∧ slt s t := by
  rcases Nat.lt_trichotomy x y with h | h | h
  · simp [slt_lt h, h]
  · subst h; simp [slt_cons]
  · have h1 : ¬ x < y := by omega
    have h2 : x ≠ y := by omega
    simp [slt, bcmp_gt h, h1, h2]
theorem slt_irrefl (s : List Nat) : ¬ slt s s := by
  have := (bcmp_zero s s).2 rfl
  simp [slt, this]
theorem slt_trans : ∀ {s t u : List Nat}, slt s t → slt t u → slt s u
  | [], _, [], _, h => absurd h (not_slt_nil _)
  | [], _, _ :: _, _, _ => slt_nc _ _
  | _ :: _, [], _, h, _ => absurd h (not_slt_nil _)
  | _ :: _, _ :: _, [], _, h => absurd h (not_slt_nil _)
  | x :: s, y :: t, z :: u, h1, h2 => by
    rw [slt_cc] at h1 h2 ⊢
    rcases h1 with h1 | ⟨rfl, h1⟩
    · rcases h2 with h2 | ⟨rfl, h2⟩
      · exact Or.inl (by omega)
      · exact Or.inl h1
    · rcases h2 with h2 | ⟨rfl, h2⟩
      · exact Or.inl h2
      · exact Or.inr ⟨rfl, slt_trans h1 h2⟩
theorem slt_tri : ∀ (s t : List Nat), slt s t ∨ s = t ∨ slt t s
  | [], [] => Or.inr (Or.inl rfl)
  | [], _ :: _ => Or.inl (slt_nc _ _)
  | _ :: _, [] => Or.inr (Or.inr (slt_nc _ _))
  | x :: s, y :: t => by
    simp only [slt_cc, List.cons.injEq]
    rcases Nat.lt_trichotomy x y with h | rfl | h
    · exact Or.inl (Or.inl h)
    · rcases slt_tri s t with h | rfl | h
      · exact Or.inl (Or.inr ⟨rfl, h⟩)
      · exact Or.inr (Or.inl ⟨rfl, rfl⟩)
      · exact Or.inr (Or.inr (Or.inr ⟨rfl, h⟩))
    · exact Or.inr (Or.inr (Or.inl h))
theorem bcmp_three (s t : List Nat) : (slt s t ∧ bcmp s t = -1) ∨ (s = t ∧ bcmp s t = 0) ∨ (slt t s ∧ bcmp s t = 1) := by
  have key : ∀ s t : List Nat, slt t s → bcmp s t = 1 := by
    intro s t h
    induction s generalizing t with
    | nil => exact absurd h (not_slt_nil _)
    | cons x s ih =>
      cases t with
      | nil => exact bcmp_cn _ _
      | cons y t =>
        rcases slt_cc.1 h with h2 | ⟨e, h2⟩
        · exact bcmp_gt h2 _ _
        · subst e; rw [bcmp_same]; exact ih t h2
  rcases slt_tri s t with h | h | h
  · exact Or.inl ⟨h, h⟩
  · exact Or.inr (Or.inl ⟨h, (bcmp_zero _ _).2 h⟩)
  · exact Or.inr (Or.inr ⟨h, key s t h⟩)
theorem lcp_pre (p s t : List Nat) : lcp (p ++ s) (p ++ t) = p.length + lcp s t := by
  induction p with
  | nil => simp
  | cons x p ih => simp [lcp, ih]; omega
theorem lcp_isPrefix (k p : List Nat) : (lcp k p = p.length) ↔ p <+: k := by
  induction p generalizing k with
  | nil => cases k <;> simp [lcp]
  | cons x p ih =>
    cases k with
    | nil => simp [lcp]
    | cons y k =>
      unfold lcp
      by_cases e : y = x
      · subst e; simp [ih, List.cons_prefix_cons]
      · have e' : ¬ x = y := fun h => e h.symm
        simp [e, e', List.cons_prefix_cons]
/-- both begin with the first lcp bytes -/
theorem lcp_take (s t : List Nat) : s.take (lcp s t) = t.take (lcp s t) := by
  induction s generalizing t with
  | nil => simp [lcp]
  | cons x s ih =>
    cases t with
    | nil => simp [lcp]
    | cons y t =>
      unfold lcp
      split
      · rename_i h; subst h; simp [ih]
      · simp
/-! Pairs. -/
abbrev PL := List (List Nat × Int)
def PSrt (l : PL) : Prop := (l.map (·.1)).Pairwise slt
def plook (l : PL) (k : List Nat) : Option Int := (l.find? (fun p => p.1 == k)).map (·.2)
/-- bytes put ahead of every key -/
def pre (p : List Nat) (l : PL) : PL := l.map fun x => (p ++ x.1, x.2)
@[simp] theorem pre_nil (p : List Nat) : pre p [] = [] := rfl
theorem pre_append (p : List Nat) (l m : PL) : pre p (l ++ m) = pre p l ++ pre p m := by simp [pre]
theorem pre_pre (p q : List Nat) (l : PL) : pre p (pre q l) = pre (p ++ q) l := by simp [pre, Function.comp_def]
@[simp] theorem pre_none (l : PL) : pre [] l = l := by simp [pre]
@[simp] theorem pre_length (p : List Nat) (l : PL) : (pre p l).length = l.length := by simp [pre]
theorem plook_append (l m : PL) (k : List Nat) : plook (l ++ m) k = (plook l k).or (plook m k) := by
  unfold plook
  rw [List.find?_append]
  cases List.find? (fun p => p.1 == k) l <;> simp
theorem plook_none {l : PL} {k : List Nat} (h : ∀ p ∈ l, p.1 ≠ k) : plook l k = none := by
  unfold plook
  have : l.find? (fun p => p.1 == k) = none := by
    rw [List.find?_eq_none]
    intro p hp
    simpa using h p hp
  rw [this]; rfl
theorem plook_pre (p : List Nat) (l : PL) (k : List Nat) : plook (pre p l) k = if p <+: k then plook l (k.drop p.length) else none := by
  split
  · rename_i h
    obtain ⟨r, rfl⟩ := h
    unfold plook pre
    rw [List.find?_map]
    have : ((fun x : List Nat × Int => x.1 == p ++ r) ∘ fun x : List Nat × Int => (p ++ x.1, x.2)) = fun x => x.1 == r := by
      funext x
      rw [Bool.eq_iff_iff]
      simp
    simp [this, Function.comp_def]
  · rename_i h
    refine plook_none fun x hx => ?_
    obtain ⟨y, hy, rfl⟩ := List.mem_map.1 hx
    rintro rfl
    exact h ⟨_, rfl⟩
theorem psrt_pre {p : List Nat} {l : PL} : PSrt (pre p l) ↔ PSrt l := by
  unfold PSrt pre
  rw [List.map_map, List.pairwise_map, List.pairwise_map]
  simp only [Function.comp_def, slt_pre]
theorem psrt_append {l m : PL} : PSrt (l ++ m) ↔ PSrt l ∧ PSrt m ∧ ∀ a ∈ l, ∀ b ∈ m, slt a.1 b.1 := by
  unfold PSrt
  rw [List.map_append, List.pairwise_append]
  simp only [List.mem_map, forall_exists_index, and_imp, forall_apply_eq_imp_iff₂]
/-! Trees: the kids of a node hang behind it in a row. -/
inductive Tr where
  | nil : Tr
  | kid (b : Nat) (t r : Tr) : Tr
  | node (bs : List Nat) (val : Int) (has leaf : Bool) (ks : Tr) : Tr
def IsN : Tr → Prop
  | .node .. => True
  | _ => False
def IsK : Tr → Prop
  | .node .. => False
  | _ => True
/-- a row of kids begins behind a byte -/
def From (b : Nat) : Tr → Prop
  | .kid c _ _ => b < c
  | _ => True
def TOk : Tr → Prop
  | .nil => True
  | .kid b t r => b < 256 ∧ IsN t ∧ TOk t ∧ IsK r ∧ TOk r ∧ From b r
  | .node bs v has leaf ks => (∀ x ∈ bs, x < 256) ∧ 0 ≤ v ∧ v < 18446744073709551616 ∧ (has = false → v = 0) ∧ (leaf = true → has = true ∧ ks = .nil) ∧ IsK ks ∧ TOk ks
def tl : Tr → PL
  | .nil => []
  | .kid b t r => pre [b] (tl t) ++ tl r
  | .node bs v has _ ks => (if has then [(bs, v)] else []) ++ pre bs (tl ks)
def tget : Tr → List Nat → Option Int
  | .nil, _ => none
  | .kid b t r, k => match k with
    | [] => none
    | c :: k' => if b = c then tget t k' else tget r k
  | .node bs v has _ ks, k => if bs <+: k then (if k.drop bs.length = [] then (if has then some v else none) else tget ks (k.drop bs.length)) else none
theorem tl_from : ∀ (r : Tr) (b : Nat), IsK r → TOk r → From b r → ∀ p ∈ tl r, ∃ c s, p.1 = c :: s ∧ b < c
  | .nil, _, _, _, _, p, hp => by simp [tl] at hp
  | .node .., _, h, _, _, _, _ => h.elim
  | .kid c t r, b, _, ⟨_, _, _, h4, h5, h6⟩, hb, p, hp => by
    have hb : b < c := hb
    rcases List.mem_append.1 hp with hp | hp
    · obtain ⟨q, hq, rfl⟩ := List.mem_map.1 hp
      exact ⟨c, q.1, rfl, hb⟩
    · obtain ⟨d, s, h1, h2⟩ := tl_from r c h4 h5 h6 p hp
      exact ⟨d, s, h1, by omega⟩
theorem tl_heads : ∀ (r : Tr), IsK r → TOk r → ∀ p ∈ tl r, ∃ c s, p.1 = c :: s ∧ c < 256
  | .nil, _, _, p, hp => by simp [tl] at hp
  | .node .., h, _, _, _ => h.elim
  | .kid c t r, _, ⟨h1, _, _, h4, h5, h6⟩, p, hp => by
    rcases List.mem_append.1 hp with hp | hp
    · obtain ⟨q, hq, rfl⟩ := List.mem_map.1 hp
      exact ⟨c, q.1, rfl, h1⟩
    · exact tl_heads r h4 h5 p hp
theorem tget_look : ∀ (t : Tr) (k : List Nat), TOk t → tget t k = plook (tl t) k
  | .nil, k, _ => rfl
  | .kid b t r, k, ⟨h1, h2, h3, h4, h5, h6⟩ => by
    have hf := tl_from r b h4 h5 h6
    unfold tget tl
    rw [plook_append, plook_pre]
    cases k with
    | nil =>
      have : plook (tl r) [] = none := plook_none fun p hp => by
        obtain ⟨c, s, e, _⟩ := hf p hp
        rw [e]; simp
      simp [this]
    | cons c k =>
      by_cases e : b = c
      · subst e
        have : plook (tl r) (b :: k) = none := plook_none fun p hp => by
          obtain ⟨c, s, e, hc⟩ := hf p hp
          rw [e]
          intro q
          have := (List.cons.inj q).1
          omega
        simp [this, tget_look t k h3]
      · simp [e, tget_look r (c :: k) h5, List.cons_prefix_cons]
  | .node bs v has leaf ks, k, ⟨h1, h2, h3, h4, h5, h6, h7⟩ => by
    unfold tget tl
    rw [plook_append, plook_pre]
    by_cases e : bs <+: k
    · obtain ⟨r, rfl⟩ := e
      have hh := tl_heads ks h6 h7
      simp only [List.prefix_append, if_true, List.drop_left]
      by_cases er : r = []
      · subst er
        have : plook (tl ks) [] = none := plook_none fun p hp => by
          obtain ⟨c, s, e, _⟩ := hh p hp
          rw [e]; simp
        simp only [if_true, this]
        cases has <;> simp [plook]
      · have : plook (if has = true then [(bs, v)] else []) (bs ++ r) = none := plook_none fun p hp => by
          cases has
          · simp at hp
          · simp at hp; subst hp; simpa using er
        simp [er, this, tget_look ks r h7]
    · have : plook (if has = true then [(bs, v)] else []) k = none := plook_none fun p hp => by
        cases has
        · simp at hp
        · simp at hp; subst hp; rintro rfl; exact e (List.prefix_refl _)
      simp [e, this]
theorem tl_srt : ∀ (t : Tr), TOk t → PSrt (tl t)
  | .nil, _ => List.Pairwise.nil
  | .kid b t r, ⟨h1, h2, h3, h4, h5, h6⟩ => by
    have hf := tl_from r b h4 h5 h6
    unfold tl
    refine psrt_append.2 ⟨psrt_pre.2 (tl_srt t h3), tl_srt r h5, fun a ha c hc => ?_⟩
    obtain ⟨q, hq, rfl⟩ := List.mem_map.1 ha
    obtain ⟨d, s, e, hd⟩ := hf c hc
    rw [e]
    exact slt_lt hd _ _
  | .node bs v has leaf ks, ⟨h1, h2, h3, h4, h5, h6, h7⟩ => by
    have hh := tl_heads ks h6 h7
    unfold tl
    refine psrt_append.2 ⟨?_, psrt_pre.2 (tl_srt ks h7), fun a ha c hc => ?_⟩
    · cases has
      · exact List.Pairwise.nil
      · exact List.pairwise_singleton _ _
    · cases has
      · simp at ha
      · simp at ha
        subst ha
        obtain ⟨q, hq, rfl⟩ := List.mem_map.1 hc
        obtain ⟨d, s, e, _⟩ := hh q hq
        have := (slt_pre bs [] (d :: s)).2 (slt_nc _ _)
        rw [e]
        simpa using this
/-- rows of kids, one by one -/
def ofL : List (Nat × Tr) → Tr
  | [] => .nil
  | x :: r => .kid x.1 x.2 (ofL r)
def chain : Tr → List (Nat × Tr)
  | .kid b t r => (b, t) :: chain r
  | _ => []
@[simp] theorem chain_ofL (L : List (Nat × Tr)) : chain (ofL L) = L := by
  induction L with
  | nil => rfl
  | cons x r ih => simp [ofL, chain, ih]
theorem ofL_chain : ∀ (t : Tr), IsK t → TOk t → ofL (chain t) = t
  | .nil, _, _ => rfl
  | .kid b t r, _, ⟨_, _, _, h4, h5, _⟩ => by simp [chain, ofL, ofL_chain r h4 h5]
  | .node .., h, _ => h.elim
theorem isK_ofL (L : List (Nat × Tr)) : IsK (ofL L) := by cases L <;> trivial
theorem tl_ofL (L : List (Nat × Tr)) : tl (ofL L) = L.flatMap fun x => pre [x.1] (tl x.2) := by
  induction L with
  | nil => rfl
  | cons x r ih => simp [ofL, tl, ih]
theorem tok_ofL (L : List (Nat × Tr)) : TOk (ofL L) ↔ (∀ x ∈ L, x.1 < 256 ∧ IsN x.2 ∧ TOk x.2) ∧ (L.map (·.1)).Pairwise (· < ·) := by
  induction L with
  | nil => simp [ofL, TOk]
  | cons x r ih =>
    simp only [ofL, TOk, ih, isK_ofL, true_and, List.mem_cons, forall_eq_or_imp, List.map_cons, List.pairwise_cons]
    constructor
    · rintro ⟨h1, h2, h3, ⟨h4, h5⟩, h6⟩
      refine ⟨⟨⟨h1, h2, h3⟩, h4⟩, ?_, h5⟩
      intro c hc
      cases r with
      | nil => simp at hc
      | cons y r =>
        have h6 : x.1 < y.1 := h6
        simp only [List.map_cons, List.mem_cons] at hc
        rcases hc with rfl | hc
        · exact h6
        · exact Nat.lt_trans h6 ((List.pairwise_cons.1 h5).1 c hc)
    · rintro ⟨⟨⟨h1, h2, h3⟩, h4⟩, h5, h6⟩
      refine ⟨h1, h2, h3, ⟨h4, h6⟩, ?_⟩
      cases r with
      | nil => trivial
      | cons y r => exact h5 y.1 (by simp)
end Go.Proofs.Ytgijnjdcpipfiaa
/- Meters: what is made is counted. -/
namespace Go.Proofs.Ytgijnjdcpipfiaa
open Go.RowKit
/-- Made where the meter is nobody's -/
theorem made_nil (n : Int) (w : World) : Calls Try.prog 47 #[.pointer none, .int .i64 n] w fun e w' => e = .returned (.tuple #[]) ∧ w = w' := by
  go_enter Try.func47, Try.ntmps47
  go_wp2_with fail
  go_end0
  exact ⟨rfl, rfl⟩
theorem add64 (w : World) (b o : Nat) (x y : Int) (hc : w.cell? ⟨b, o, none⟩ = some (.int .i64 x)) (hz : w.frozen? ⟨b, o, none⟩ = false) (hs : IntKind.i64.wrap (x + y) = x + y) :
    Calls Try.prog 91 #[.pointer (some ⟨b, o, none⟩), .int .i64 y] w fun e w' => e = .returned (.int .i64 (x + y)) ∧ w' = w.setCell ⟨b, o, none⟩ (.int .i64 (x + y)) := by
  have hadd := run_call_add (P := Try.prog) Try.func128 (by kernel_rfl) (by kernel_rfl) (by kernel_rfl) .i64 (by kernel_rfl) (y := y) (s := x + y) hc hz (by simp [go_sem, hs])
  clear hs
  go_enter Try.func91, Try.ntmps91
  go_wp2_with fail
  go_ret
  exact ⟨rfl, rfl⟩
theorem load64 (w : World) (b o : Nat) (x : Int) (hc : w.cell? ⟨b, o, none⟩ = some (.int .i64 x)) :
    Calls Try.prog 50 #[.pointer (some ⟨b, o, none⟩)] w fun e w' => e = .returned (.int .i64 x) ∧ w = w' := by
  have hadd := run_call_load (P := Try.prog) Try.func94 (by kernel_rfl) (by kernel_rfl) (by kernel_rfl) .i64 (by kernel_rfl) hc
  go_enter Try.func50, Try.ntmps50
  go_wp2_with fail
  go_ret
  exact ⟨rfl, rfl⟩
theorem made_one (w : World) (b o : Nat) (x : Int) (hc : w.cell? ⟨b, o, none⟩ = some (.int .i64 x)) (hz : w.frozen? ⟨b, o, none⟩ = false) (hs : IntKind.i64.wrap (x + 1) = x + 1) :
    Calls Try.prog 47 #[.pointer (some ⟨b, o, none⟩), .int .i64 1] w fun e w' => e = .returned (.tuple #[]) ∧ w' = w.setCell ⟨b, o, none⟩ (.int .i64 (x + 1)) := by
  have ha := Lib.hid (add64 w b o x 1 hc hz hs)
  clear hc hz hs
  go_enter Try.func47, Try.ntmps47
  go_wp2_with (go_at_call 91; refine ha.out.mono ?_; rintro e w' ⟨rfl, rfl⟩)
  go_end0
  exact ⟨rfl, rfl⟩
theorem count_is (w : World) (b o : Nat) (x : Int) (hc : w.cell? ⟨b, o, none⟩ = some (.int .i64 x)) :
    Calls Try.prog 16 #[.pointer (some ⟨b, o, none⟩)] w fun e w' => e = .returned (.int .i64 x) ∧ w = w' := by
  have ha := Lib.hid (load64 w b o x hc)
  clear hc
  go_enter Try.func16, Try.ntmps16
  go_wp2_with (go_at_call 50; refine ha.out.mono ?_; rintro e w' ⟨rfl, rfl⟩)
  go_ret
  exact ⟨rfl, rfl⟩
end Go.Proofs.Ytgijnjdcpipfiaa
/- A nil node: what it answers. -/
namespace Go.Proofs.Ytgijnjdcpipfiaa
open Go.RowKit
theorem nn_may (o : Int) (w : World) : Calls Try.prog 49 #[.pointer none, .int .u64 o] w fun e w' => e = .returned (.int .i64 2) ∧ w = w' := by
  go_enter Try.func49, Try.ntmps49
  go_wp2_with fail
  go_ret
  exact ⟨rfl, rfl⟩
theorem nn_inner (o : Int) (w : World) : Calls Try.prog 52 #[.pointer none, .int .u64 o] w fun e w' => e = .returned (.int .i64 2) ∧ w = w' := by
  go_enter Try.func52, Try.ntmps52
  go_wp2_with (go_at_call 49; refine (nn_may _ _).mono ?_; rintro e w' ⟨rfl, rfl⟩)
  go_ret
  exact ⟨rfl, rfl⟩
theorem nn_val (w : World) : Calls Try.prog 10 #[.pointer none] w fun e w' => e = .returned (.tuple #[.int .u64 0, .bool false]) ∧ w = w' := by
  go_enter Try.func10, Try.ntmps10
  go_wp2_with fail
  go_ret2
  exact ⟨rfl, rfl⟩
theorem nn_owner (w : World) : Calls Try.prog 26 #[.pointer none] w fun e w' => e = .returned (.int .u64 0) ∧ w = w' := by
  go_enter Try.func26, Try.ntmps26
  go_wp2_with fail
  go_ret
  exact ⟨rfl, rfl⟩
theorem nn_part (w : World) : Calls Try.prog 25 #[.pointer none] w fun e w' => e = .returned (.slice none 0 0) ∧ w = w' := by
  go_enter Try.func25, Try.ntmps25
  go_wp2_with fail
  go_ret
  exact ⟨rfl, rfl⟩
theorem nn_len (w : World) : Calls Try.prog 23 #[.pointer none] w fun e w' => e = .returned (.int .i64 0) ∧ w = w' := by
  go_enter Try.func23, Try.ntmps23
  go_wp2_with fail
  go_ret
  exact ⟨rfl, rfl⟩
theorem nn_kind (w : World) : Calls Try.prog 22 #[.pointer none] w fun e w' => e = .returned (.int .i64 0) ∧ w = w' := by
  go_enter Try.func22, Try.ntmps22
  go_wp2_with fail
  go_ret
  exact ⟨rfl, rfl⟩
theorem nn_occ (w : World) : Calls Try.prog 24 #[.pointer none] w fun e w' => e = .returned (.int .i64 0) ∧ w = w' := by
  go_enter Try.func24, Try.ntmps24
  go_wp2_with (go_at_call 23; refine (nn_len _).mono ?_; rintro e w' ⟨rfl, rfl⟩)
  go_ret
  exact ⟨rfl, rfl⟩
theorem nn_kid (b : Int) (w : World) : Calls Try.prog 13 #[.pointer none, .int .u8 b] w fun e w' => e = .returned (.pointer none) ∧ w = w' := by
  go_enter Try.func13, Try.ntmps13
  go_wp2_with fail
  go_ret
  exact ⟨rfl, rfl⟩
theorem nn_next (f : Int) (w : World) : Calls Try.prog 11 #[.pointer none, .int .i64 f] w fun e w' => e = .returned (.tuple #[.int .u8 0, .pointer none]) ∧ w = w' := by
  go_enter Try.func11, Try.ntmps11
  go_wp2_with fail
  go_ret2
  exact ⟨rfl, rfl⟩
theorem nn_prev (f : Int) (w : World) : Calls Try.prog 12 #[.pointer none, .int .i64 f] w fun e w' => e = .returned (.tuple #[.int .u8 0, .pointer none]) ∧ w = w' := by
  go_enter Try.func12, Try.ntmps12
  go_wp2_with fail
  go_ret2
  exact ⟨rfl, rfl⟩
theorem nn_copy (m : Option Addr) (o : Int) (w : World) : Calls Try.prog 14 #[.pointer none, .pointer m, .int .u64 o] w fun e w' => e = .returned (.pointer none) ∧ w = w' := by
  go_enter Try.func14, Try.ntmps14
  go_wp2_with fail
  go_ret
  exact ⟨rfl, rfl⟩
theorem nn_own (m : Option Addr) (o : Int) (w : World) : Calls Try.prog 15 #[.pointer none, .pointer m, .int .u64 o] w fun e w' => e = .returned (.pointer none) ∧ w = w' := by
  go_enter Try.func15, Try.ntmps15
  go_wp2_with (first | (go_at_call 49; refine (nn_may _ _).mono ?_; rintro e w' ⟨rfl, rfl⟩) | (go_at_call 14; refine (nn_copy _ _ _).mono ?_; rintro e w' ⟨rfl, rfl⟩))
  go_ret
  exact ⟨rfl, rfl⟩
theorem nn_setpart (o : Int) (a : Option Addr) (n c : Nat) (w : World) : Calls Try.prog 17 #[.pointer none, .int .u64 o, .slice a n c] w fun e w' => e = .returned (.int .i64 2) ∧ w = w' := by
  go_enter Try.func17, Try.ntmps17
  go_wp2_with (go_at_call 49; refine (nn_may _ _).mono ?_; rintro e w' ⟨rfl, rfl⟩)
  go_ret
  exact ⟨rfl, rfl⟩
theorem nn_setval (o v : Int) (w : World) : Calls Try.prog 18 #[.pointer none, .int .u64 o, .int .u64 v] w fun e w' => e = .returned (.int .i64 2) ∧ w = w' := by
  go_enter Try.func18, Try.ntmps18
  go_wp2_with (go_at_call 49; refine (nn_may _ _).mono ?_; rintro e w' ⟨rfl, rfl⟩)
  go_ret
  exact ⟨rfl, rfl⟩
theorem nn_dropval (o : Int) (w : World) : Calls Try.prog 19 #[.pointer none, .int .u64 o] w fun e w' => e = .returned (.int .i64 2) ∧ w = w' := by
  go_enter Try.func19, Try.ntmps19
  go_wp2_with (go_at_call 52; refine (nn_inner _ _).mono ?_; rintro e w' ⟨rfl, rfl⟩)
  go_ret
  exact ⟨rfl, rfl⟩
theorem nn_setkid (o : Int) (b : Int) (k : Option Addr) (w : World) : Calls Try.prog 20 #[.pointer none, .int .u64 o, .int .u8 b, .pointer k] w fun e w' => e = .returned (.int .i64 2) ∧ w = w' := by
  go_enter Try.func20, Try.ntmps20
  go_wp2_with (go_at_call 52; refine (nn_inner _ _).mono ?_; rintro e w' ⟨rfl, rfl⟩)
  go_ret
  exact ⟨rfl, rfl⟩
theorem nn_dropkid (o : Int) (b : Int) (w : World) : Calls Try.prog 21 #[.pointer none, .int .u64 o, .int .u8 b] w fun e w' => e = .returned (.int .i64 2) ∧ w = w' := by
  go_enter Try.func21, Try.ntmps21
  go_wp2_with (go_at_call 52; refine (nn_inner _ _).mono ?_; rintro e w' ⟨rfl, rfl⟩)
  go_ret
  exact ⟨rfl, rfl⟩
end Go.Proofs.Ytgijnjdcpipfiaa
/- bytes.Clone of bytes that came in, or were made. -/
namespace Go.Proofs.Ytgijnjdcpipfiaa
open Go.RowKit
def u8T : Nat := 5
def bV (bs : List Nat) : List Value := bs.map fun b => .int .u8 (b : Nat)
theorem bV_get (bs : List Nat) (j : Nat) : (bV bs)[j]? = bs[j]?.map fun b => Value.int .u8 (b : Nat) := by simp [bV]
theorem bV_one (bs : List Nat) : ∀ u ∈ bV bs, u.oneCell' = true := by
  intro u hu; simp only [bV, List.mem_map] at hu; obtain ⟨b, _, rfl⟩ := hu; rfl
theorem cloneB_under : Try.prog.underlying 27 = some (.slice 5) := by kernel_rfl
theorem cloneB_info : (Try.prog.info? 5).map (fun i => (i.zero, i.size, i.bytes)) = some (some (.int .u8 0), 1, 1) := by kernel_rfl
set_option maxRecDepth 100000 in
theorem cloneB_any (w : World) (a : Option Addr) (n c : Nat) (bs : List Nat) (hn : bs.length = n) (hb : BytesAt w a bs) (hl : n ≤ 140737488355328) (hnil : a = none → n = 0) : Calls Try.prog 51 #[.slice a n c] w (clonePost 5 (bV bs) w) := by
  have q1 : ∀ (w : World) (a : Option Addr) (n c n' c' : Nat), (binOp .eql 27 (.slice a n c) (.slice none n' c')).run Try.prog w = .ok (.bool a.isNone) w := fun w a n c n' c' => Lib.run_eql_slice_nil w _ _ a n c n' c' cloneB_under
  cases a with
  | none =>
    obtain rfl : n = 0 := hnil rfl
    obtain rfl : bs = [] := List.eq_nil_of_length_eq_zero hn
    have hR : clonePost 5 [] w (.returned (.slice none 0 0)) w := ⟨_, none, rfl, Own.nil _ _, Below.refl _ _, Or.inl rfl⟩
    clear hn hb hl hnil
    go_enter Try.func51, Try.ntmps51
    go_wp2_with fail
    go_ret
    exact hR
  | some p =>
    have Hr : Hid (∀ o, ∀ j u, (bV bs)[j]? = some u → (w.alloc o).cell? (p.add j) = some u) := fun o j u hj => by
      rw [bV_get] at hj
      have hj2 : j < bs.length := by
        by_cases h : j < bs.length
        · exact h
        · rw [List.getElem?_eq_none (by omega)] at hj; simp at hj
      rw [List.getElem?_eq_getElem hj2] at hj
      simp only [Option.map_some, Option.some.injEq] at hj
      subst hj
      obtain ⟨p', hp, h1, h2⟩ := hb.2 j hj2
      obtain rfl : p = p' := by simpa using hp
      rw [((Below.refl _ w).alloc (Nat.le_refl _) o).cell h1, h2]
      simp [List.getD, hj2]
    have H1 := Lib.hid (bV_one bs)
    have hlen : Hid ((bV bs).length = n) := by show _ = _; simp [bV, hn]
    have hb1 : Hid (([] : List Value).length + n ≤ maxLen) := by show _ ≤ _; simp only [maxLen, List.length_nil]; omega
    have hb2 : Hid ((([] : List Value).length + n) * 1 ≤ 140737488355328) := by show _ ≤ _; simp only [List.length_nil]; omega
    clear hn hb hl hnil
    go_enter Try.func51, Try.ntmps51
    go_wp2_with (at_builtin; go_loud (refine wpList_append_at rfl (.tmp 5) (.tmp 6) 27 rfl 5 (.int .u8 0) 1 cloneB_under cloneB_info rfl _ rfl [] (some w.heap.size) (Own.fresh0 _ _) p n c (bV bs) rfl hlen.out (Hr.out _) H1.out hb1.out hb2.out ?_); intro v1 w1 bo1 HO HM HN)
    go_ret
    exact clone_end HO.out HM.out HN.out
end Go.Proofs.Ytgijnjdcpipfiaa
