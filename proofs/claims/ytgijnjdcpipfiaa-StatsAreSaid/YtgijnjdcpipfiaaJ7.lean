/- The document's numbers of a tree: a leaf; Adding up the document's numbers. No program; The document's numbers of a tree: an inner node; The document's depth of a tree; The document's numbers: of pairs; The document's numbers: Of; An array of four numbers, held against itself; The law StatsAre. -/
import Derived.Test.YtgijnjdcpipfiaaJ5
import Derived.Test.YtgijnjdcpipfiaaJ4
import Derived.Test.YtgijnjdcpipfiaaJ6
import Derived.StillTailTactics
import Derived.Deep.Cut
import Derived.Deep.CutRange
import Derived.Deep.CutBlock
import Derived.Deep.RegionHeld3
import Derived.DeepKeys
set_option linter.unusedVariables false
set_option linter.unusedSimpArgs false
/- The document's numbers of a tree: a leaf. -/
namespace Go.Proofs.Ytgijnjdcpipfiaa
open Go.RowKit
abbrev dsT : TypeId := 61
def docN (t : Tr) : StN := ⟨0, nlv t, nkd 0 t, nkd 1 t, nkd 2 t, nkd 3 t, nsl t, 0, 0, npt t, 0⟩
theorem three_new (w : World) (A B C : Obj) : (((w.alloc A).alloc B).alloc C).heap[w.heap.size]? = some A ∧ (((w.alloc A).alloc B).alloc C).heap[w.heap.size + 1]? = some B ∧ (((w.alloc A).alloc B).alloc C).heap[w.heap.size + 2]? = some C ∧ Below w.heap.size w (((w.alloc A).alloc B).alloc C) := by
  have h1 : (w.alloc A).heap.size = w.heap.size + 1 := by simp
  have h2 : ((w.alloc A).alloc B).heap.size = w.heap.size + 2 := by simp
  refine ⟨?_, ?_, ?_, ?_⟩
  · rw [heap_alloc_old (h := by omega), heap_alloc_old (h := by omega), heap_alloc_new]
  · rw [heap_alloc_old (h := by omega), ← h1, heap_alloc_new]
  · rw [← h2, heap_alloc_new]
  · exact (((Below.refl _ w).alloc (Nat.le_refl _) _).alloc (by omega) _).alloc (by omega) _
set_option maxHeartbeats 4000000 in
set_option maxRecDepth 100000 in
theorem dst_leaf (bs : List Nat) (v : Int) (w : World) (pa ba ka : Option Addr) (pc bc kc : Nat) : Calls Try.prog 66 #[.agg #[.int .i64 1, .slice pa bs.length pc, .bool true, .int .u64 v, .slice ba 0 bc, .slice ka 0 kc]] w (belowPost (stV (docN (.node bs v true true .nil))) w) := by
  obtain ⟨m, hm⟩ : ∃ m, m = bs.length := ⟨_, rfl⟩
  have hfin : Hid (∀ _ : Unit, docN (.node bs v true true .nil) = ⟨0, 1, 0, 0, 0, 0, 0, 0, 0, m, 0⟩) := fun _ => by rw [hm]; rfl
  rw [← hm]
  clear hm
  have b1 := below_al w (.cells #[.int .i64 1, .slice pa m pc, .bool true, .int .u64 v, .slice ba 0 bc, .slice ka 0 kc] rnT)
  go_enter Try.func66, Try.ntmps66
  go_wp2_with fail
  obtain ⟨t0, t1, t2, t3⟩ := three_new w (.cells #[.int .i64 1, .slice pa m pc, .bool true, .int .u64 v, .slice ba 0 bc, .slice ka 0 kc] rnT) (.cells #[.int .i64 0, .int .i64 0, .int .i64 0, .int .i64 0, .int .i64 0, .int .i64 0, .int .i64 0, .int .i64 0, .int .i64 0, .int .i64 0, .int .i64 0] dsT) (.cells #[.int .i64 0, .int .i64 1, .int .i64 0, .int .i64 0, .int .i64 0, .int .i64 0, .int .i64 0, .int .i64 0, .int .i64 0, .int .i64 (m : Nat), .int .i64 0] dsT)
  go_loopw [4] (fun v4 wr => v4 = .int .i64 0 ∧ wr.cell? ⟨w.heap.size, 5, none⟩ = some (.slice ka 0 kc) ∧ Hid (StIs dsT wr (w.heap.size + 1) (stZ 0)) ∧ Hid (StIs dsT wr (w.heap.size + 2) ⟨0, 1, 0, 0, 0, 0, 0, 0, 0, m, 0⟩) ∧ Hid (Below w.heap.size w wr)) (fun _ _ => 0)
  case atStart => exact ⟨rfl, (six_facts t0).2.2.2.2.2.1, ⟨t1⟩, ⟨t2⟩, t3⟩
  case round =>
    clear t0 t1 t2 t3 b1
    obtain ⟨rfl, hk, hz, hs, hB⟩ := hrel
    obtain ⟨c0, c1, c2, c3, c4, c5, c6, c7, c8, c9, c10⟩ := hs.out.all
    obtain ⟨d0, d1, d2, d3, d4, d5, d6, d7, d8, d9, d10⟩ := (show StIs dsT wr (w.heap.size + 1) ⟨0, 0, 0, 0, 0, 0, 0, 0, 0, 0, 0⟩ from hz.out).all
    obtain ⟨f0, f1, f2, f3, f4, f5, f6, f7, f8, f9, f10⟩ := hz.out.allF
    go_wp2_with fail
    have NF := ((((((((((((show StIs dsT wr (w.heap.size + 1) ⟨0, 0, 0, 0, 0, 0, 0, 0, 0, 0, 0⟩ from hz.out).set (s' := ⟨0, 0, 0, 0, 0, 0, 0, 0, 0, 0, 0⟩) 0 (.int .i64 0) rfl).set (s' := ⟨0, 1, 0, 0, 0, 0, 0, 0, 0, 0, 0⟩) 1 (.int .i64 1) rfl).set (s' := ⟨0, 1, 0, 0, 0, 0, 0, 0, 0, 0, 0⟩) 2 (.int .i64 0) rfl).set (s' := ⟨0, 1, 0, 0, 0, 0, 0, 0, 0, 0, 0⟩) 3 (.int .i64 0) rfl).set (s' := ⟨0, 1, 0, 0, 0, 0, 0, 0, 0, 0, 0⟩) 4 (.int .i64 0) rfl).set (s' := ⟨0, 1, 0, 0, 0, 0, 0, 0, 0, 0, 0⟩) 5 (.int .i64 0) rfl).set (s' := ⟨0, 1, 0, 0, 0, 0, 0, 0, 0, 0, 0⟩) 6 (.int .i64 0) rfl).set (s' := ⟨0, 1, 0, 0, 0, 0, 0, 0, 0, 0, 0⟩) 7 (.int .i64 0) rfl).set (s' := ⟨0, 1, 0, 0, 0, 0, 0, 0, 0, 0, 0⟩) 8 (.int .i64 0) rfl).set (s' := ⟨0, 1, 0, 0, 0, 0, 0, 0, 0, m, 0⟩) 9 (.int .i64 (m : Nat)) rfl).set (s' := ⟨0, 1, 0, 0, 0, 0, 0, 0, 0, m, 0⟩) 10 (.int .i64 0) rfl)
    have BF := (((((((((((hB.out.setCell (p := ⟨w.heap.size + 1, 0, none⟩) (Nat.le_succ _) (.int .i64 0)).setCell (p := ⟨w.heap.size + 1, 1, none⟩) (Nat.le_succ _) (.int .i64 1)).setCell (p := ⟨w.heap.size + 1, 2, none⟩) (Nat.le_succ _) (.int .i64 0)).setCell (p := ⟨w.heap.size + 1, 3, none⟩) (Nat.le_succ _) (.int .i64 0)).setCell (p := ⟨w.heap.size + 1, 4, none⟩) (Nat.le_succ _) (.int .i64 0)).setCell (p := ⟨w.heap.size + 1, 5, none⟩) (Nat.le_succ _) (.int .i64 0)).setCell (p := ⟨w.heap.size + 1, 6, none⟩) (Nat.le_succ _) (.int .i64 0)).setCell (p := ⟨w.heap.size + 1, 7, none⟩) (Nat.le_succ _) (.int .i64 0)).setCell (p := ⟨w.heap.size + 1, 8, none⟩) (Nat.le_succ _) (.int .i64 0)).setCell (p := ⟨w.heap.size + 1, 9, none⟩) (Nat.le_succ _) (.int .i64 (m : Nat))).setCell (p := ⟨w.heap.size + 1, 10, none⟩) (Nat.le_succ _) (.int .i64 0))
    have hinf : (Try.prog.info? dsT).map (·.size) = some 11 := by kernel_rfl
    rw [hfin.out ()]
    exact bodyPost_ret (v := stV ⟨0, 1, 0, 0, 0, 0, 0, 0, 0, m, 0⟩) (results_cell_row Try.results66 _ _ (w.heap.size + 1) dsT _ (0, 0) _ rfl NF.blk Try.underlying61 rfl hinf) rfl ⟨rfl, BF⟩
end Go.Proofs.Ytgijnjdcpipfiaa
/- Adding up the document's numbers. No program. -/
namespace Go.Proofs.Ytgijnjdcpipfiaa
/-- what is added up of a kid's numbers -/
def StN.add (s u : StN) : StN := ⟨s.keys, s.leaves + u.leaves, s.k0 + u.k0, s.k1 + u.k1, s.k2 + u.k2, s.k3 + u.k3, s.slots + u.slots, s.dep, s.long, s.parts + u.parts, s.size⟩
theorem StN.add_assoc (s u v : StN) : (s.add u).add v = s.add (u.add v) := by
  simp [StN.add, Nat.add_assoc]
theorem docN_nil (s : StN) : s.add (docN .nil) = s := rfl
theorem docN_kid (b : Nat) (t r : Tr) : docN (.kid b t r) = (docN t).add (docN r) := rfl
theorem docN_cons (x : Nat × Tr) (L : List (Nat × Tr)) : docN (ofL (x :: L)) = (docN x.2).add (docN (ofL L)) := rfl
theorem docN_drop {L : List (Nat × Tr)} {i : Nat} {x : Nat × Tr} (h : L[i]? = some x) (s : StN) : s.add (docN (ofL (L.drop i))) = (s.add (docN x.2)).add (docN (ofL (L.drop (i + 1)))) := by
  have hi : i < L.length := (List.getElem?_eq_some_iff.1 h).1
  have e : L[i] = x := (List.getElem?_eq_some_iff.1 h).2
  rw [List.drop_eq_getElem_cons hi, e, docN_cons, StN.add_assoc]
theorem docN_end {L : List (Nat × Tr)} (s : StN) : s.add (docN (ofL (L.drop L.length))) = s := by
  rw [List.drop_length]; rfl
/-- what the document says of a tree is what count says, as far as it goes -/
theorem docN_sum (t : Tr) : SumOf t ⟨0, 0, 0, 0, 0, 0, 0, 0, 0, 0, 0⟩ (docN t) := ⟨by simp [docN], by simp [docN], by simp [docN], by simp [docN], by simp [docN], by simp [docN], by simp [docN], rfl⟩
theorem docN_le (t : Tr) : (docN t).le (tw t) := by
  have h := stAdd_sum t 0 0 ⟨0, 0, 0, 0, 0, 0, 0, 0, 0, 0, 0⟩
  have k := stAdd_le t (way := 0) (deep := 0) (M := 0) (s := ⟨0, 0, 0, 0, 0, 0, 0, 0, 0, 0, 0⟩) ⟨Nat.le_refl _, Nat.le_refl _, Nat.le_refl _, Nat.le_refl _, Nat.le_refl _, Nat.le_refl _, Nat.le_refl _, Nat.le_refl _, Nat.le_refl _, Nat.le_refl _⟩ (Nat.le_refl _)
  obtain ⟨h1, h2, h3, h4, h5, h6, h7, _⟩ := h
  obtain ⟨_, k1, k2, k3, k4, k5, k6, _, _, k9⟩ := k
  simp only [Nat.zero_add] at *
  exact ⟨Nat.zero_le _, by show nlv t ≤ _; omega, by show nkd 0 t ≤ _; omega, by show nkd 1 t ≤ _; omega, by show nkd 2 t ≤ _; omega, by show nkd 3 t ≤ _; omega, by show nsl t ≤ _; omega, Nat.zero_le _, Nat.zero_le _, by show npt t ≤ _; omega⟩
end Go.Proofs.Ytgijnjdcpipfiaa
/- The document's numbers of a tree: an inner node. -/
namespace Go.Proofs.Ytgijnjdcpipfiaa
open Go.RowKit
def DsAsk (N : Nat) : Prop := ∀ (bs : List Nat) (v : Int) (has leaf : Bool) (ks : Tr) (c : List Value) {w : World} {G : Nat → Prop}, tdep (.node bs v has leaf ks) ≤ N → RT w G (.node bs v has leaf ks) none 0 c → (∀ j, G j → j < w.heap.size) → TOk (.node bs v has leaf ks) → tw (.node bs v has leaf ks) ≤ 1000000000000000000 → Calls Try.prog 66 #[.agg c.toArray] w (belowPost (stV (docN (.node bs v has leaf ks))) w)
theorem blk_other {w : World} {p : Addr} {v : Value} {g : Nat} (hne : p.block ≠ g) (hg : g < w.heap.size) : (w.setCell p v).heap[g]? = w.heap[g]? :=
  ((Mod.refl (fun k => k = p.block) w).setCell p v (fun _ => rfl)).same g hg (fun e => hne e.symm)
structure BlkIs (w : World) (g : Nat) (o : Obj) : Prop where
  blk : w.heap[g]? = some o
theorem BlkIs.other {w : World} {g : Nat} {o : Obj} (h : BlkIs w g o) {p : Addr} {v : Value} (hne : p.block ≠ g) : BlkIs (w.setCell p v) g o := ⟨(blk_other hne (Array.getElem?_eq_some_iff.1 h.blk).1).trans h.blk⟩
theorem BlkIs.other3 {w : World} {g : Nat} {o : Obj} (h : BlkIs w g o) {p p2 p3 : Addr} {v v2 v3 : Value} (hne : p.block ≠ g) (hne2 : p2.block ≠ g) (hne3 : p3.block ≠ g) : BlkIs (((w.setCell p v).setCell p2 v2).setCell p3 v3) g o := ((h.other hne).other hne2).other hne3
theorem StIs.other {T : TypeId} {w : World} {g : Nat} {s : StN} (h : StIs T w g s) {p : Addr} {v : Value} (hne : p.block ≠ g) : StIs T (w.setCell p v) g s := ⟨(blk_other hne h.lt).trans h.blk⟩
theorem tw_ofL : ∀ {L : List (Nat × Tr)} {x : Nat × Tr}, x ∈ L → tw x.2 ≤ tw (ofL L)
  | [], x, h => by simp at h
  | y :: L, x, h => by
    simp only [ofL, tw]
    rcases List.mem_cons.1 h with rfl | h
    · omega
    · have := tw_ofL h; omega
/-- a node's own numbers, of an inner one -/
def docH (n : Nat) (has : Bool) (m : Nat) : StN := ⟨0, 0, if kcl m = 0 then 1 else 0, if kcl m = 1 then 1 else 0, if kcl m = 2 then 1 else 0, if kcl m = 3 then 1 else 0, if has then 1 else 0, 0, 0, n, 0⟩
theorem krow_chain : ∀ (t : Tr), IsK t → krow t = (chain t).length
  | .nil, _ => rfl
  | .node .., h => h.elim
  | .kid b t r, _ => by
    cases r with
    | nil => rfl
    | node => rfl
    | kid c t2 r2 =>
      have := krow_chain (.kid c t2 r2) trivial
      simp only [krow, chain, List.length_cons] at *
      omega
set_option maxHeartbeats 4000000 in
set_option maxRecDepth 100000 in
theorem dst_true (N : Nat) (IH : DsAsk N) (bs : List Nat) (v : Int) (ks : Tr) (c : List Value) {w : World} {G : Nat → Prop} (hdp : tdep ks ≤ N) (hR : RT w G (.node bs v true false ks) none 0 c) (hG : ∀ j, G j → j < w.heap.size) (hO : TOk (.node bs v true false ks)) (htw : tw (.node bs v true false ks) ≤ 1000000000000000000) :
    Calls Try.prog 66 #[.agg c.toArray] w (belowPost (stV (docN (.node bs v true false ks))) w) := by
  obtain ⟨pa, pn, pc, ba, bn, bc, ka, rn, kc, rfl, h2, h3, rfl, h5, h6⟩ := hR
  have hpl := h2.sl.len
  obtain ⟨o1, o2, o3, o4, o5, o6, o7⟩ := hO
  have hR6 := rt_chain h6 o6 o7
  have hke := ofL_chain ks o6 o7
  have hkr : krow ks = (chain ks).length := krow_chain ks o6
  obtain ⟨L, hL⟩ : ∃ L, L = chain ks := ⟨_, rfl⟩
  rw [← hL] at hR6 hke hkr ⊢
  obtain ⟨m, hm⟩ : ∃ m, m = L.length := ⟨_, rfl⟩
  rw [← hm] at hkr ⊢
  obtain ⟨kd, hkd⟩ : ∃ kd, kd = kindOf m := ⟨_, rfl⟩
  have hHD : docN (.node bs v true false ks) = (docH pn true m).add (docN (ofL L)) := by
    rw [hke]
    simp [docN, docH, StN.add, nlv, nkd, nsl, npt, hkr, hpl]
  show Calls _ _ #[.agg #[.int .i64 ((rkind false ks : Nat) : Int), .slice pa pn pc, .bool true, .int .u64 v, .slice ba bn bc, .slice ka m kc]] _ _
  have hrk : rkind false ks = kd := by rw [hkd, hm, hL]; rfl
  rw [hrk]
  have HOL : Hid (TOk (ofL L)) := by rw [hke]; exact o7
  have HdL : Hid (tdep (ofL L) ≤ N) := by rw [hke]; exact hdp
  have HtL : Hid (bs.length + 2 + tw (ofL L) ≤ 1000000000000000000) := by rw [hke]; exact htw
  have HD := Lib.hid hHD
  have H6 := Lib.hid hR6
  have HG := Lib.hid hG
  have HIH := Lib.hid IH
  have HND : Hid ((docN (.node bs v true false ks)).le 1000000000000000000) := (docN_le _).mono htw
  obtain ⟨ND, hND⟩ : ∃ ND, ND = docN (.node bs v true false ks) := ⟨_, rfl⟩
  rw [← hND] at HD HND ⊢
  have hmL := Lib.hid (fun (_ : Unit) => hm)
  have hm256 : m ≤ 256 := by have := chain256 o6 o7; rw [← hL, ← hm] at this; exact this
  clear h2 h3 h5 h6 o1 o2 o3 o4 o5 o6 o7 hR6 hke hkr hL hHD hrk hdp htw hND IH hG hpl hm
  obtain ⟨t0, t1, t2, t3⟩ := three_new w (.cells #[.int .i64 (kd : Nat), .slice pa pn pc, .bool true, .int .u64 v, .slice ba bn bc, .slice ka m kc] rnT) (.cells #[.int .i64 0, .int .i64 0, .int .i64 0, .int .i64 0, .int .i64 0, .int .i64 0, .int .i64 0, .int .i64 0, .int .i64 0, .int .i64 0, .int .i64 0] dsT) (.cells #[.int .i64 0, .int .i64 0, .int .i64 0, .int .i64 0, .int .i64 0, .int .i64 0, .int .i64 0, .int .i64 0, .int .i64 0, .int .i64 (pn : Nat), .int .i64 0] dsT)
  have hk0 : ((kd : Int) == 0) = false := by rw [beq_eq_false_iff_ne, hkd]; have := kindOf_cases m; omega
  have hk1 : ((kd : Int) == 1) = false := by rw [beq_eq_false_iff_ne, hkd]; have := kindOf_cases m; omega
  have hk1' : (1 : Int) < (kd : Int) := by rw [hkd]; have := kindOf_cases m; omega
  have hkc : (kd = 4 ∧ kcl m = 0) ∨ (kd = 16 ∧ kcl m = 1) ∨ (kd = 48 ∧ kcl m = 2) ∨ (kd = 256 ∧ kcl m = 3) := by
    rw [hkd]; unfold kindOf kcl
    by_cases h1 : m ≤ 4
    · simp [h1]
    · by_cases h2 : m ≤ 16
      · simp [h1, h2]
      · by_cases h3 : m ≤ 48 <;> simp [h1, h2, h3]
  have S0 := Lib.hid (StIs.mk (s := ⟨0, 0, 0, 0, 0, 0, 0, 0, 0, pn, 0⟩) t2)
  have Z0 := Lib.hid (StIs.mk (s := stZ 0) t1)
  have X0 := Lib.hid (six_facts t0)
  have B0 := Lib.hid t3
  clear t0 t1 t2 t3 hkd
  go_enter Try.func66, Try.ntmps66
  go_upto_block 0 with fail
  go_cut [3] from 13 (fun s3 w' => s3 = .pointer (some ⟨w.heap.size + 2, 0, none⟩) ∧ Hid (w'.heap[w.heap.size]? = some (.cells #[.int .i64 (kd : Nat), .slice pa pn pc, .bool true, .int .u64 v, .slice ba bn bc, .slice ka m kc] rnT (0, 0))) ∧ Hid (StIs dsT w' (w.heap.size + 1) (stZ 0)) ∧ Hid (StIs dsT w' (w.heap.size + 2) (docH pn false m)) ∧ Hid (Below w.heap.size w w'))
  case first =>
    clear S0 Z0 X0 B0
    rcases hkc with ⟨rfl, hq⟩ | ⟨rfl, hq⟩ | ⟨rfl, hq⟩ | ⟨rfl, hq⟩
    · have hd : docH pn false m = ⟨0, 0, 1, 0, 0, 0, 0, 0, 0, pn, 0⟩ := by simp [docH, hq]
      clear hk0 hk1 hk1'
      go_wp2_with fail
      go_meet
      case rel =>
        obtain ⟨t0, t1, t2, t3⟩ := three_new w (.cells #[.int .i64 ((4 : Nat) : Int), .slice pa pn pc, .bool true, .int .u64 v, .slice ba bn bc, .slice ka m kc] rnT) (.cells #[.int .i64 0, .int .i64 0, .int .i64 0, .int .i64 0, .int .i64 0, .int .i64 0, .int .i64 0, .int .i64 0, .int .i64 0, .int .i64 0, .int .i64 0] dsT) (.cells #[.int .i64 0, .int .i64 0, .int .i64 1, .int .i64 0, .int .i64 0, .int .i64 0, .int .i64 0, .int .i64 0, .int .i64 0, .int .i64 (pn : Nat), .int .i64 0] dsT)
        exact ⟨rfl, t0, ⟨t1⟩, ⟨by rw [hd]; exact t2⟩, t3⟩
    · have hd : docH pn false m = ⟨0, 0, 0, 1, 0, 0, 0, 0, 0, pn, 0⟩ := by simp [docH, hq]
      clear hk0 hk1 hk1'
      go_wp2_with fail
      go_meet
      case rel =>
        obtain ⟨t0, t1, t2, t3⟩ := three_new w (.cells #[.int .i64 ((16 : Nat) : Int), .slice pa pn pc, .bool true, .int .u64 v, .slice ba bn bc, .slice ka m kc] rnT) (.cells #[.int .i64 0, .int .i64 0, .int .i64 0, .int .i64 0, .int .i64 0, .int .i64 0, .int .i64 0, .int .i64 0, .int .i64 0, .int .i64 0, .int .i64 0] dsT) (.cells #[.int .i64 0, .int .i64 0, .int .i64 0, .int .i64 1, .int .i64 0, .int .i64 0, .int .i64 0, .int .i64 0, .int .i64 0, .int .i64 (pn : Nat), .int .i64 0] dsT)
        exact ⟨rfl, t0, ⟨t1⟩, ⟨by rw [hd]; exact t2⟩, t3⟩
    · have hd : docH pn false m = ⟨0, 0, 0, 0, 1, 0, 0, 0, 0, pn, 0⟩ := by simp [docH, hq]
      clear hk0 hk1 hk1'
      go_wp2_with fail
      go_meet
      case rel =>
        obtain ⟨t0, t1, t2, t3⟩ := three_new w (.cells #[.int .i64 ((48 : Nat) : Int), .slice pa pn pc, .bool true, .int .u64 v, .slice ba bn bc, .slice ka m kc] rnT) (.cells #[.int .i64 0, .int .i64 0, .int .i64 0, .int .i64 0, .int .i64 0, .int .i64 0, .int .i64 0, .int .i64 0, .int .i64 0, .int .i64 0, .int .i64 0] dsT) (.cells #[.int .i64 0, .int .i64 0, .int .i64 0, .int .i64 0, .int .i64 1, .int .i64 0, .int .i64 0, .int .i64 0, .int .i64 0, .int .i64 (pn : Nat), .int .i64 0] dsT)
        exact ⟨rfl, t0, ⟨t1⟩, ⟨by rw [hd]; exact t2⟩, t3⟩
    · have hd : docH pn false m = ⟨0, 0, 0, 0, 0, 1, 0, 0, 0, pn, 0⟩ := by simp [docH, hq]
      clear hk0 hk1 hk1'
      go_wp2_with fail
      go_meet
      case rel =>
        obtain ⟨t0, t1, t2, t3⟩ := three_new w (.cells #[.int .i64 ((256 : Nat) : Int), .slice pa pn pc, .bool true, .int .u64 v, .slice ba bn bc, .slice ka m kc] rnT) (.cells #[.int .i64 0, .int .i64 0, .int .i64 0, .int .i64 0, .int .i64 0, .int .i64 0, .int .i64 0, .int .i64 0, .int .i64 0, .int .i64 0, .int .i64 0] dsT) (.cells #[.int .i64 0, .int .i64 0, .int .i64 0, .int .i64 0, .int .i64 0, .int .i64 1, .int .i64 0, .int .i64 0, .int .i64 0, .int .i64 (pn : Nat), .int .i64 0] dsT)
        exact ⟨rfl, t0, ⟨t1⟩, ⟨by rw [hd]; exact t2⟩, t3⟩
  case rest =>
    clear S0 Z0 X0 B0
    obtain ⟨rfl, hX, hz, hs, hB⟩ := hcut
    obtain ⟨x0, x1, x2, x3, x4, x5, _⟩ := six_facts hX.out
    obtain ⟨q0, e0⟩ : ∃ q : Nat, q = if kcl m = 0 then 1 else 0 := ⟨_, rfl⟩
    obtain ⟨q1, e1⟩ : ∃ q : Nat, q = if kcl m = 1 then 1 else 0 := ⟨_, rfl⟩
    obtain ⟨q2, e2⟩ : ∃ q : Nat, q = if kcl m = 2 then 1 else 0 := ⟨_, rfl⟩
    obtain ⟨q3, e3⟩ : ∃ q : Nat, q = if kcl m = 3 then 1 else 0 := ⟨_, rfl⟩
    have hq : docH pn false m = ⟨0, 0, q0, q1, q2, q3, 0, 0, 0, pn, 0⟩ := by rw [e0, e1, e2, e3]; rfl
    rw [hq] at hs
    have hH : Hid ((⟨0, 0, q0, q1, q2, q3, (if true then 1 else 0), 0, 0, pn, 0⟩ : StN).add (docN (ofL (L.drop 0))) = ND) := by
      show _ = _
      rw [List.drop_zero, HD.out]
      have : docH pn true m = ⟨0, 0, q0, q1, q2, q3, (if true then 1 else 0), 0, 0, pn, 0⟩ := by rw [e0, e1, e2, e3]; rfl
      rw [this]
    clear hq hkc hk0 hk1 e0 e1 e2 e3
    obtain ⟨c0, c1, c6, c7, c8, c9, f0, f1, f6, f7, f8, f9⟩ := hs.out.facts
    go_wp2_with fail
    have hs2 : Hid (StIs dsT (wc.setCell ⟨w.heap.size + 2, 6, none⟩ (.int .i64 1)) (w.heap.size + 2) ⟨0, 0, q0, q1, q2, q3, 1, 0, 0, pn, 0⟩) := hs.out.set 6 _ rfl
    have hz2 : Hid (StIs dsT (wc.setCell ⟨w.heap.size + 2, 6, none⟩ (.int .i64 1)) (w.heap.size + 1) (stZ 0)) := hz.out.other (by show w.heap.size + 2 ≠ _; omega)
    have hX2 : Hid ((wc.setCell ⟨w.heap.size + 2, 6, none⟩ (.int .i64 1)).heap[w.heap.size]? = _) := (blk_other (by show w.heap.size + 2 ≠ _; omega) (Array.getElem?_eq_some_iff.1 hX.out).1).trans hX.out
    have hB2 : Hid (Below w.heap.size w (wc.setCell ⟨w.heap.size + 2, 6, none⟩ (.int .i64 1))) := hB.out.setCell (p := ⟨w.heap.size + 2, 6, none⟩) (by show w.heap.size ≤ w.heap.size + 2; omega) _
    clear x0 x1 x2 x3 x4 x5 c0 c1 c6 c7 c8 c9 f0 f1 f6 f7 f8 f9 hs hz hX hB
    go_loopw [4] (fun v4 wr => ∃ (i : Nat) (s : StN), v4 = .int .i64 (i : Nat) ∧ i ≤ m ∧ Hid (wr.heap[w.heap.size]? = some (.cells #[.int .i64 (kd : Nat), .slice pa pn pc, .bool true, .int .u64 v, .slice ba bn bc, .slice ka m kc] rnT (0, 0))) ∧ Hid (StIs dsT wr (w.heap.size + 1) (stZ 0)) ∧ Hid (StIs dsT wr (w.heap.size + 2) s) ∧ Hid (s.add (docN (ofL (L.drop i))) = ND) ∧ Hid (Below w.heap.size w wr)) (fun v4 _ => (m - intOf v4).toNat)
    case atStart => exact ⟨0, _, rfl, Nat.zero_le _, hX2, hz2, hs2, hH, hB2⟩
    case round =>
      clear hX2 hz2 hs2 hB2 hH
      obtain ⟨i, s, rfl, him, hX, hz, hs, hE, hB⟩ := hrel
      obtain ⟨x0, x1, x2, x3, x4, x5, _⟩ := six_facts hX.out
      by_cases hlt : i < m
      · have l1 : (i : Int) < (m : Int) := by omega
        have l0 : (0 : Int) ≤ (i : Int) := by omega
        have hiL : i < L.length := by rw [← hmL.out ()]; exact hlt
        obtain ⟨y, hy⟩ : ∃ y, L[i]? = some y := ⟨_, List.getElem?_eq_getElem hiL⟩
        obtain ⟨g, c', hg1, hg2, hg3, hg4, hg5⟩ := rt_at H6.out i y hy
        have hE2 : Hid ((s.add (docN y.2)).add (docN (ofL (L.drop (i + 1)))) = ND) := by show _ = _; rw [← docN_drop hy, hE.out]
        obtain ⟨yb, yt⟩ := y
        have hym := List.mem_of_getElem? hy
        have hyT := ((tok_ofL L).1 HOL.out).1 (yb, yt) hym
        have hyD : tdep yt ≤ N := Nat.le_trans (tdep_ofL hym) HdL.out
        have hyW : tw yt ≤ 1000000000000000000 := by
          have q1 : tw yt ≤ tw (ofL L) := tw_ofL hym
          have q2 := HtL.out
          omega
        cases yt with
        | nil => exact hyT.2.1.elim
        | kid => exact hyT.2.1.elim
        | node bs' v' has' leaf' ks' =>
          have hE2 : Hid ((s.add (docN (.node bs' v' has' leaf' ks'))).add (docN (ofL (L.drop (i + 1)))) = ND) := hE2
          have hg5 : RT w G (.node bs' v' has' leaf' ks') none 0 c' := hg5
          have hdn : Hid (∀ X, Below w.heap.size w X → Calls Try.prog 66 #[.agg c'.toArray] X (belowPost (stV (docN (.node bs' v' has' leaf' ks'))) X)) := fun X hb =>
            HIH.out bs' v' has' leaf' ks' c' hyD (hg5.keep hb.size fun j hj => hb.block j (HG.out j hj)) (fun j hj => Nat.lt_of_lt_of_le (HG.out j hj) hb.size) hyT.2.2 hyW
          obtain ⟨pa', pn', pc', ba', bn', bc', ka', kn', kc', hc', hx'⟩ := hg5
          clear hx'
          subst hc'
          obtain ⟨KD', hKD'⟩ : ∃ x : Int, x = ((rkind leaf' ks' : Nat) : Int) := ⟨_, rfl⟩
          rw [← hKD'] at hdn hg4
          generalize docN (.node bs' v' has' leaf' ks') = u at *
          subst hg1
          rw [Nat.zero_add] at hg4
          obtain ⟨a0, a1, a2, a3, a4, a5, a6, a7, a8, a9, a10⟩ := s
          obtain ⟨b0, b1, b2, b3, b4, b5, b6, b7, b8, b9, b10⟩ := u
          have hdn : Hid (∀ X, Below w.heap.size w X → Calls Try.prog 66 #[.agg #[.int .i64 KD', .slice pa' pn' pc', .bool has', .int .u64 v', .slice ba' bn' bc', .slice ka' kn' kc']] X (belowPost (.agg #[.int .i64 (b0 : Nat), .int .i64 (b1 : Nat), .int .i64 (b2 : Nat), .int .i64 (b3 : Nat), .int .i64 (b4 : Nat), .int .i64 (b5 : Nat), .int .i64 (b6 : Nat), .int .i64 (b7 : Nat), .int .i64 (b8 : Nat), .int .i64 (b9 : Nat), .int .i64 (b10 : Nat)]) X)) := hdn
          obtain ⟨z1, e1⟩ : ∃ z, z = a1 + b1 := ⟨_, rfl⟩
          obtain ⟨z2, e2⟩ : ∃ z, z = a2 + b2 := ⟨_, rfl⟩
          obtain ⟨z3, e3⟩ : ∃ z, z = a3 + b3 := ⟨_, rfl⟩
          obtain ⟨z4, e4⟩ : ∃ z, z = a4 + b4 := ⟨_, rfl⟩
          obtain ⟨z5, e5⟩ : ∃ z, z = a5 + b5 := ⟨_, rfl⟩
          obtain ⟨z6, e6⟩ : ∃ z, z = a6 + b6 := ⟨_, rfl⟩
          obtain ⟨z9, e9⟩ : ∃ z, z = a9 + b9 := ⟨_, rfl⟩
          have hE3 : Hid ((⟨a0, z1, z2, z3, z4, z5, z6, a7, a8, z9, a10⟩ : StN).add (docN (ofL (L.drop (i + 1)))) = ND) := by
            show _ = _
            rw [e1, e2, e3, e4, e5, e6, e9]; exact hE2.out
          have w1 : IntKind.i64.wrap ((a1 : Int) + (b1 : Nat)) = (z1 : Int) := by
            have q := congrArg StN.leaves hE3.out
            have q2 := HND.out.leaves
            simp only [StN.add] at q
            rw [show (a1 : Int) + (b1 : Nat) = ((z1 : Nat) : Int) by omega]; exact IntWalk.i64_in _ (by omega)
          have w2 : IntKind.i64.wrap ((a2 : Int) + (b2 : Nat)) = (z2 : Int) := by
            have q := congrArg StN.k0 hE3.out
            have q2 := HND.out.k0
            simp only [StN.add] at q
            rw [show (a2 : Int) + (b2 : Nat) = ((z2 : Nat) : Int) by omega]; exact IntWalk.i64_in _ (by omega)
          have w3 : IntKind.i64.wrap ((a3 : Int) + (b3 : Nat)) = (z3 : Int) := by
            have q := congrArg StN.k1 hE3.out
            have q2 := HND.out.k1
            simp only [StN.add] at q
            rw [show (a3 : Int) + (b3 : Nat) = ((z3 : Nat) : Int) by omega]; exact IntWalk.i64_in _ (by omega)
          have w4 : IntKind.i64.wrap ((a4 : Int) + (b4 : Nat)) = (z4 : Int) := by
            have q := congrArg StN.k2 hE3.out
            have q2 := HND.out.k2
            simp only [StN.add] at q
            rw [show (a4 : Int) + (b4 : Nat) = ((z4 : Nat) : Int) by omega]; exact IntWalk.i64_in _ (by omega)
          have w5 : IntKind.i64.wrap ((a5 : Int) + (b5 : Nat)) = (z5 : Int) := by
            have q := congrArg StN.k3 hE3.out
            have q2 := HND.out.k3
            simp only [StN.add] at q
            rw [show (a5 : Int) + (b5 : Nat) = ((z5 : Nat) : Int) by omega]; exact IntWalk.i64_in _ (by omega)
          have w6 : IntKind.i64.wrap ((a6 : Int) + (b6 : Nat)) = (z6 : Int) := by
            have q := congrArg StN.slots hE3.out
            have q2 := HND.out.slots
            simp only [StN.add] at q
            rw [show (a6 : Int) + (b6 : Nat) = ((z6 : Nat) : Int) by omega]; exact IntWalk.i64_in _ (by omega)
          have w9 : IntKind.i64.wrap ((a9 : Int) + (b9 : Nat)) = (z9 : Int) := by
            have q := congrArg StN.parts hE3.out
            have q2 := HND.out.parts
            simp only [StN.add] at q
            rw [show (a9 : Int) + (b9 : Nat) = ((z9 : Nat) : Int) by omega]; exact IntWalk.i64_in _ (by omega)
          clear e1 e2 e3 e4 e5 e6 e9 hE2 hE
          have hS : Hid (∀ X, Below w.heap.size w X → X.cell? ⟨g, i * 6, none⟩ = some (.int .i64 KD') ∧ X.cell? ⟨g, i * 6 + 1, none⟩ = some (.slice pa' pn' pc') ∧ X.cell? ⟨g, i * 6 + 2, none⟩ = some (.bool has') ∧ X.cell? ⟨g, i * 6 + 3, none⟩ = some (.int .u64 v') ∧ X.cell? ⟨g, i * 6 + 4, none⟩ = some (.slice ba' bn' bc') ∧ X.cell? ⟨g, i * 6 + 5, none⟩ = some (.slice ka' kn' kc')) := fun X hb => by
            have hgl := HG.out g hg2
            have e : ∀ j, X.cell? ⟨g, j, none⟩ = w.cell? ⟨g, j, none⟩ := fun j => hb.cell (p := ⟨g, j, none⟩) hgl
            exact ⟨by rw [e]; exact hg4 0 (by omega), by rw [e]; exact hg4 1 (by omega), by rw [e]; exact hg4 2 (by omega), by rw [e]; exact hg4 3 (by omega), by rw [e]; exact hg4 4 (by omega), by rw [e]; exact hg4 5 (by omega)⟩
          obtain ⟨y0, y1, y2, y3, y4, y5⟩ := hS.out wr hB.out
          have hw9 : IntKind.i64.wrap (((i : Nat) : Int) + 1) = ((i + 1 : Nat) : Int) := by rw [show ((i : Nat) : Int) + 1 = ((i + 1 : Nat) : Int) by omega]; exact IntWalk.i64_in _ (by omega)
          clear hy hiL hg4 hyT hKD' hg3 hym hyD hyW hS
          go_upto_region 19 with fail
          go_cut [5] from 48 to 53 (fun s5 w' => ∃ g5, s5 = .pointer (some ⟨g5, 0, none⟩) ∧ w.heap.size + 2 < g5 ∧ Hid (w'.heap[w.heap.size]? = some (.cells #[.int .i64 (kd : Nat), .slice pa pn pc, .bool true, .int .u64 v, .slice ba bn bc, .slice (some ⟨g, 0, none⟩) m kc] rnT (0, 0))) ∧ Hid (StIs dsT w' (w.heap.size + 1) (stZ 0)) ∧ Hid (StIs dsT w' (w.heap.size + 2) ⟨a0, a1, a2, a3, a4, a5, a6, a7, a8, a9, a10⟩) ∧ Hid (StIs dsT w' g5 ⟨b0, b1, b2, b3, b4, b5, b6, b7, b8, b9, b10⟩) ∧ Hid (Below w.heap.size w w'))
          case first =>
            go_wp2_with (first
              | (go_at_call 66; refine (hdn.out _ hB.out).mono ?_; rintro e w7 ⟨rfl, q7⟩
                 have A8 := below_al w7 (.cells #[.int .i64 (b0 : Nat), .int .i64 (b1 : Nat), .int .i64 (b2 : Nat), .int .i64 (b3 : Nat), .int .i64 (b4 : Nat), .int .i64 (b5 : Nat), .int .i64 (b6 : Nat), .int .i64 (b7 : Nat), .int .i64 (b8 : Nat), .int .i64 (b9 : Nat), .int .i64 (b10 : Nat)] dsT)
                 have hl7 : w.heap.size + 2 < w7.heap.size := Nat.lt_of_lt_of_le hs.out.lt q7.size
                 have S8 := Lib.hid ((hs.out.below q7).below A8)
                 have Z8 := Lib.hid ((hz.out.below q7).below A8)
                 have U8 := Lib.hid (show StIs dsT (w7.alloc (.cells #[.int .i64 (b0 : Nat), .int .i64 (b1 : Nat), .int .i64 (b2 : Nat), .int .i64 (b3 : Nat), .int .i64 (b4 : Nat), .int .i64 (b5 : Nat), .int .i64 (b6 : Nat), .int .i64 (b7 : Nat), .int .i64 (b8 : Nat), .int .i64 (b9 : Nat), .int .i64 (b10 : Nat)] dsT)) w7.heap.size ⟨b0, b1, b2, b3, b4, b5, b6, b7, b8, b9, b10⟩ from ⟨heap_alloc_new _ _⟩)
                 have X8 := Lib.hid (((A8.block _ (by omega)).trans (q7.block _ (Array.getElem?_eq_some_iff.1 hX.out).1)).trans hX.out)
                 have B8 := Lib.hid ((hB.out.trans (q7.mono hB.out.size)).trans (A8.mono (hB.out.trans (q7.mono hB.out.size)).size))
                 clear q7 A8))
            go_meet
            case rel => exact ⟨w7.heap.size, rfl, hl7, X8, Z8, S8, U8, B8⟩
          case rest =>
          clear hX hz hs hB hdn x0 x1 x2 x3 x4 x5
          obtain ⟨g5, rfl, hl7, X8, Z8, S8, U8, B8⟩ := hcut
          obtain ⟨c0, c1, c6, c7, c8, c9, f0, f1, f6, f7, f8, f9⟩ := S8.out.facts
          obtain ⟨d0, d1, d6, d7, d8, d9, _, _, _, _, _, _⟩ := U8.out.facts
          have hne : g5 ≠ w.heap.size + 2 := by omega
          have hne' : w.heap.size + 2 ≠ g5 := by omega
          go_wp2_with fail
          have hge : w.heap.size ≤ w.heap.size + 2 := by omega
          have hb2 : (⟨w.heap.size + 2, 0, none⟩ : Addr).block ≠ w.heap.size + 1 := by show w.heap.size + 2 ≠ _; omega
          have S9 := Lib.hid (((S8.out.set (s' := ⟨a0, z1, a2, a3, a4, a5, a6, a7, a8, a9, a10⟩) 1 (.int .i64 (z1 : Nat)) rfl).set (s' := ⟨a0, z1, a2, a3, a4, a5, z6, a7, a8, a9, a10⟩) 6 (.int .i64 (z6 : Nat)) rfl).set (s' := ⟨a0, z1, a2, a3, a4, a5, z6, a7, a8, z9, a10⟩) 9 (.int .i64 (z9 : Nat)) rfl)
          have Z9 := Lib.hid (((Z8.out.other (p := ⟨w.heap.size + 2, 1, none⟩) (v := .int .i64 (z1 : Nat)) hb2).other (p := ⟨w.heap.size + 2, 6, none⟩) (v := .int .i64 (z6 : Nat)) hb2).other (p := ⟨w.heap.size + 2, 9, none⟩) (v := .int .i64 (z9 : Nat)) hb2)
          have U9 := Lib.hid (((U8.out.other (p := ⟨w.heap.size + 2, 1, none⟩) (v := .int .i64 (z1 : Nat)) hne').other (p := ⟨w.heap.size + 2, 6, none⟩) (v := .int .i64 (z6 : Nat)) hne').other (p := ⟨w.heap.size + 2, 9, none⟩) (v := .int .i64 (z9 : Nat)) hne')
          have X9 := Lib.hid ((BlkIs.mk X8.out).other3 (p := ⟨w.heap.size + 2, 1, none⟩) (p2 := ⟨w.heap.size + 2, 6, none⟩) (p3 := ⟨w.heap.size + 2, 9, none⟩) (v := .int .i64 (z1 : Nat)) (v2 := .int .i64 (z6 : Nat)) (v3 := .int .i64 (z9 : Nat)) (by show w.heap.size + 2 ≠ _; omega) (by show w.heap.size + 2 ≠ _; omega) (by show w.heap.size + 2 ≠ _; omega)).blk
          have B9 := Lib.hid (((B8.out.setCell (p := ⟨w.heap.size + 2, 1, none⟩) hge (.int .i64 (z1 : Nat))).setCell (p := ⟨w.heap.size + 2, 6, none⟩) hge (.int .i64 (z6 : Nat))).setCell (p := ⟨w.heap.size + 2, 9, none⟩) hge (.int .i64 (z9 : Nat)))
          clear S8 Z8 U8 X8 B8 c0 c1 c6 c7 c8 c9 f0 f1 f6 f7 f8 f9 d0 d1 d6 d7 d8 d9 y0 y1 y2 y3 y4 y5 w1 w6 w9
          go_loopw [6] (fun v6 wq => ∃ (j : Int) (t2 t3 t4 t5 : Nat), v6 = .int .i64 j ∧ ((j = 0 ∧ a2 = t2 ∧ a3 = t3 ∧ a4 = t4 ∧ a5 = t5) ∨ (j = 1 ∧ z2 = t2 ∧ a3 = t3 ∧ a4 = t4 ∧ a5 = t5) ∨ (j = 2 ∧ z2 = t2 ∧ z3 = t3 ∧ a4 = t4 ∧ a5 = t5) ∨ (j = 3 ∧ z2 = t2 ∧ z3 = t3 ∧ z4 = t4 ∧ a5 = t5) ∨ (j = 4 ∧ z2 = t2 ∧ z3 = t3 ∧ z4 = t4 ∧ z5 = t5)) ∧ Hid (wq.heap[w.heap.size]? = some (.cells #[.int .i64 (kd : Nat), .slice pa pn pc, .bool true, .int .u64 v, .slice ba bn bc, .slice (some ⟨g, 0, none⟩) m kc] rnT (0, 0))) ∧ Hid (StIs dsT wq (w.heap.size + 1) (stZ 0)) ∧ Hid (StIs dsT wq (w.heap.size + 2) ⟨a0, z1, t2, t3, t4, t5, z6, a7, a8, z9, a10⟩) ∧ Hid (StIs dsT wq g5 ⟨b0, b1, b2, b3, b4, b5, b6, b7, b8, b9, b10⟩) ∧ Hid (Below w.heap.size w wq)) (fun v6 _ => (4 - intOf v6).toNat)
          case atStart => exact ⟨0, _, _, _, _, rfl, Or.inl ⟨rfl, rfl, rfl, rfl, rfl⟩, X9, Z9, S9, U9, B9⟩
          case round =>
            clear X9 Z9 S9 U9 B9
            obtain ⟨j, t2, t3, t4, t5, rfl, hj, hX, hz, hs, hu, hB⟩ := hrel
            obtain ⟨c0, c1, c2, c3, c4, c5, c6, c7, c8, c9, c10⟩ := hs.out.all
            obtain ⟨f0, f1, f2, f3, f4, f5, f6, f7, f8, f9, f10⟩ := hs.out.allF
            obtain ⟨d0, d1, d2, d3, d4, d5, d6, d7, d8, d9, d10⟩ := hu.out.all
            rcases hj with ⟨rfl, rfl, rfl, rfl, rfl⟩ | ⟨rfl, rfl, rfl, rfl, rfl⟩ | ⟨rfl, rfl, rfl, rfl, rfl⟩ | ⟨rfl, rfl, rfl, rfl, rfl⟩ | ⟨rfl, rfl, rfl, rfl, rfl⟩
            · have hX2 := Lib.hid ((BlkIs.mk hX.out).other (p := ⟨w.heap.size + 2, 2, none⟩) (v := .int .i64 (z2 : Nat)) (by show w.heap.size + 2 ≠ _; omega)).blk
              have hz2 := Lib.hid (hz.out.other (p := ⟨w.heap.size + 2, 2, none⟩) (v := .int .i64 (z2 : Nat)) hb2)
              have hs2 := Lib.hid (hs.out.set (s' := ⟨a0, z1, z2, a3, a4, a5, z6, a7, a8, z9, a10⟩) 2 (.int .i64 (z2 : Nat)) rfl)
              have hu2 := Lib.hid (hu.out.other (p := ⟨w.heap.size + 2, 2, none⟩) (v := .int .i64 (z2 : Nat)) hne')
              have hB2 := Lib.hid (hB.out.setCell (p := ⟨w.heap.size + 2, 2, none⟩) hge (.int .i64 (z2 : Nat)))
              clear hX hz hs hu hB
              go_wp2_with fail
              go_still_tail 11, (by kernel_rfl)
              change wpList _ _ _ _ _ wr.drew
              go_wp2_with fail
              go_roundw
              case rel => exact ⟨1, _, _, _, _, rfl, by simp, hX2.out, ⟨hz2.out.blk⟩, ⟨hs2.out.blk⟩, ⟨hu2.out.blk⟩, hB2.out.drew⟩
              case measure => (simp [intOf]) <;> omega
            · have hX2 := Lib.hid ((BlkIs.mk hX.out).other (p := ⟨w.heap.size + 2, 3, none⟩) (v := .int .i64 (z3 : Nat)) (by show w.heap.size + 2 ≠ _; omega)).blk
              have hz2 := Lib.hid (hz.out.other (p := ⟨w.heap.size + 2, 3, none⟩) (v := .int .i64 (z3 : Nat)) hb2)
              have hs2 := Lib.hid (hs.out.set (s' := ⟨a0, z1, z2, z3, a4, a5, z6, a7, a8, z9, a10⟩) 3 (.int .i64 (z3 : Nat)) rfl)
              have hu2 := Lib.hid (hu.out.other (p := ⟨w.heap.size + 2, 3, none⟩) (v := .int .i64 (z3 : Nat)) hne')
              have hB2 := Lib.hid (hB.out.setCell (p := ⟨w.heap.size + 2, 3, none⟩) hge (.int .i64 (z3 : Nat)))
              clear hX hz hs hu hB
              go_wp2_with fail
              go_still_tail 11, (by kernel_rfl)
              change wpList _ _ _ _ _ wr.drew
              go_wp2_with fail
              go_roundw
              case rel => exact ⟨2, _, _, _, _, rfl, by simp, hX2.out, ⟨hz2.out.blk⟩, ⟨hs2.out.blk⟩, ⟨hu2.out.blk⟩, hB2.out.drew⟩
              case measure => (simp [intOf]) <;> omega
            · have hX2 := Lib.hid ((BlkIs.mk hX.out).other (p := ⟨w.heap.size + 2, 4, none⟩) (v := .int .i64 (z4 : Nat)) (by show w.heap.size + 2 ≠ _; omega)).blk
              have hz2 := Lib.hid (hz.out.other (p := ⟨w.heap.size + 2, 4, none⟩) (v := .int .i64 (z4 : Nat)) hb2)
              have hs2 := Lib.hid (hs.out.set (s' := ⟨a0, z1, z2, z3, z4, a5, z6, a7, a8, z9, a10⟩) 4 (.int .i64 (z4 : Nat)) rfl)
              have hu2 := Lib.hid (hu.out.other (p := ⟨w.heap.size + 2, 4, none⟩) (v := .int .i64 (z4 : Nat)) hne')
              have hB2 := Lib.hid (hB.out.setCell (p := ⟨w.heap.size + 2, 4, none⟩) hge (.int .i64 (z4 : Nat)))
              clear hX hz hs hu hB
              go_wp2_with fail
              go_still_tail 11, (by kernel_rfl)
              change wpList _ _ _ _ _ wr.drew
              go_wp2_with fail
              go_roundw
              case rel => exact ⟨3, _, _, _, _, rfl, by simp, hX2.out, ⟨hz2.out.blk⟩, ⟨hs2.out.blk⟩, ⟨hu2.out.blk⟩, hB2.out.drew⟩
              case measure => (simp [intOf]) <;> omega
            · have hX2 := Lib.hid ((BlkIs.mk hX.out).other (p := ⟨w.heap.size + 2, 5, none⟩) (v := .int .i64 (z5 : Nat)) (by show w.heap.size + 2 ≠ _; omega)).blk
              have hz2 := Lib.hid (hz.out.other (p := ⟨w.heap.size + 2, 5, none⟩) (v := .int .i64 (z5 : Nat)) hb2)
              have hs2 := Lib.hid (hs.out.set (s' := ⟨a0, z1, z2, z3, z4, z5, z6, a7, a8, z9, a10⟩) 5 (.int .i64 (z5 : Nat)) rfl)
              have hu2 := Lib.hid (hu.out.other (p := ⟨w.heap.size + 2, 5, none⟩) (v := .int .i64 (z5 : Nat)) hne')
              have hB2 := Lib.hid (hB.out.setCell (p := ⟨w.heap.size + 2, 5, none⟩) hge (.int .i64 (z5 : Nat)))
              clear hX hz hs hu hB
              go_wp2_with fail
              go_still_tail 11, (by kernel_rfl)
              change wpList _ _ _ _ _ wr.drew
              go_wp2_with fail
              go_roundw
              case rel => exact ⟨4, _, _, _, _, rfl, by simp, hX2.out, ⟨hz2.out.blk⟩, ⟨hs2.out.blk⟩, ⟨hu2.out.blk⟩, hB2.out.drew⟩
              case measure => (simp [intOf]) <;> omega
            · go_wp2_with fail
              go_roundw
              case rel => exact ⟨i + 1, _, (by first | rfl | go_num), by omega, hX, hz, hs, hE3, hB⟩
              case measure => (simp [intOf]) <;> omega
      · have l1 : ¬ (i : Int) < (m : Int) := by omega
        obtain rfl : i = m := by omega
        have hND : s = ND := by
          have e := hE.out
          rw [hmL.out (), docN_end] at e
          exact e
        subst hND
        obtain ⟨a0, a1, a2, a3, a4, a5, a6, a7, a8, a9, a10⟩ := s
        obtain ⟨c0, c1, c2, c3, c4, c5, c6, c7, c8, c9, c10⟩ := hs.out.all
        obtain ⟨d0, d1, d2, d3, d4, d5, d6, d7, d8, d9, d10⟩ := (show StIs dsT wr (w.heap.size + 1) ⟨0, 0, 0, 0, 0, 0, 0, 0, 0, 0, 0⟩ from hz.out).all
        obtain ⟨f0, f1, f2, f3, f4, f5, f6, f7, f8, f9, f10⟩ := hz.out.allF
        go_wp2_with fail
        have NF := ((((((((((((show StIs dsT wr (w.heap.size + 1) ⟨0, 0, 0, 0, 0, 0, 0, 0, 0, 0, 0⟩ from hz.out).set (s' := ⟨a0, 0, 0, 0, 0, 0, 0, 0, 0, 0, 0⟩) 0 (.int .i64 (a0 : Nat)) rfl).set (s' := ⟨a0, a1, 0, 0, 0, 0, 0, 0, 0, 0, 0⟩) 1 (.int .i64 (a1 : Nat)) rfl).set (s' := ⟨a0, a1, a2, 0, 0, 0, 0, 0, 0, 0, 0⟩) 2 (.int .i64 (a2 : Nat)) rfl).set (s' := ⟨a0, a1, a2, a3, 0, 0, 0, 0, 0, 0, 0⟩) 3 (.int .i64 (a3 : Nat)) rfl).set (s' := ⟨a0, a1, a2, a3, a4, 0, 0, 0, 0, 0, 0⟩) 4 (.int .i64 (a4 : Nat)) rfl).set (s' := ⟨a0, a1, a2, a3, a4, a5, 0, 0, 0, 0, 0⟩) 5 (.int .i64 (a5 : Nat)) rfl).set (s' := ⟨a0, a1, a2, a3, a4, a5, a6, 0, 0, 0, 0⟩) 6 (.int .i64 (a6 : Nat)) rfl).set (s' := ⟨a0, a1, a2, a3, a4, a5, a6, a7, 0, 0, 0⟩) 7 (.int .i64 (a7 : Nat)) rfl).set (s' := ⟨a0, a1, a2, a3, a4, a5, a6, a7, a8, 0, 0⟩) 8 (.int .i64 (a8 : Nat)) rfl).set (s' := ⟨a0, a1, a2, a3, a4, a5, a6, a7, a8, a9, 0⟩) 9 (.int .i64 (a9 : Nat)) rfl).set (s' := ⟨a0, a1, a2, a3, a4, a5, a6, a7, a8, a9, a10⟩) 10 (.int .i64 (a10 : Nat)) rfl)
        have BF := (((((((((((hB.out.setCell (p := ⟨w.heap.size + 1, 0, none⟩) (Nat.le_succ _) (.int .i64 (a0 : Nat))).setCell (p := ⟨w.heap.size + 1, 1, none⟩) (Nat.le_succ _) (.int .i64 (a1 : Nat))).setCell (p := ⟨w.heap.size + 1, 2, none⟩) (Nat.le_succ _) (.int .i64 (a2 : Nat))).setCell (p := ⟨w.heap.size + 1, 3, none⟩) (Nat.le_succ _) (.int .i64 (a3 : Nat))).setCell (p := ⟨w.heap.size + 1, 4, none⟩) (Nat.le_succ _) (.int .i64 (a4 : Nat))).setCell (p := ⟨w.heap.size + 1, 5, none⟩) (Nat.le_succ _) (.int .i64 (a5 : Nat))).setCell (p := ⟨w.heap.size + 1, 6, none⟩) (Nat.le_succ _) (.int .i64 (a6 : Nat))).setCell (p := ⟨w.heap.size + 1, 7, none⟩) (Nat.le_succ _) (.int .i64 (a7 : Nat))).setCell (p := ⟨w.heap.size + 1, 8, none⟩) (Nat.le_succ _) (.int .i64 (a8 : Nat))).setCell (p := ⟨w.heap.size + 1, 9, none⟩) (Nat.le_succ _) (.int .i64 (a9 : Nat))).setCell (p := ⟨w.heap.size + 1, 10, none⟩) (Nat.le_succ _) (.int .i64 (a10 : Nat)))
        have hinf : (Try.prog.info? dsT).map (·.size) = some 11 := by kernel_rfl
        exact bodyPost_ret (v := stV ⟨a0, a1, a2, a3, a4, a5, a6, a7, a8, a9, a10⟩) (results_cell_row Try.results66 _ _ (w.heap.size + 1) dsT _ (0, 0) _ rfl NF.blk Try.underlying61 rfl hinf) rfl ⟨rfl, BF⟩

set_option maxHeartbeats 4000000 in
set_option maxRecDepth 100000 in
theorem dst_false (N : Nat) (IH : DsAsk N) (bs : List Nat) (v : Int) (ks : Tr) (c : List Value) {w : World} {G : Nat → Prop} (hdp : tdep ks ≤ N) (hR : RT w G (.node bs v false false ks) none 0 c) (hG : ∀ j, G j → j < w.heap.size) (hO : TOk (.node bs v false false ks)) (htw : tw (.node bs v false false ks) ≤ 1000000000000000000) :
    Calls Try.prog 66 #[.agg c.toArray] w (belowPost (stV (docN (.node bs v false false ks))) w) := by
  obtain ⟨pa, pn, pc, ba, bn, bc, ka, rn, kc, rfl, h2, h3, rfl, h5, h6⟩ := hR
  have hpl := h2.sl.len
  obtain ⟨o1, o2, o3, o4, o5, o6, o7⟩ := hO
  have hR6 := rt_chain h6 o6 o7
  have hke := ofL_chain ks o6 o7
  have hkr : krow ks = (chain ks).length := krow_chain ks o6
  obtain ⟨L, hL⟩ : ∃ L, L = chain ks := ⟨_, rfl⟩
  rw [← hL] at hR6 hke hkr ⊢
  obtain ⟨m, hm⟩ : ∃ m, m = L.length := ⟨_, rfl⟩
  rw [← hm] at hkr ⊢
  obtain ⟨kd, hkd⟩ : ∃ kd, kd = kindOf m := ⟨_, rfl⟩
  have hHD : docN (.node bs v false false ks) = (docH pn false m).add (docN (ofL L)) := by
    rw [hke]
    simp [docN, docH, StN.add, nlv, nkd, nsl, npt, hkr, hpl]
  show Calls _ _ #[.agg #[.int .i64 ((rkind false ks : Nat) : Int), .slice pa pn pc, .bool false, .int .u64 v, .slice ba bn bc, .slice ka m kc]] _ _
  have hrk : rkind false ks = kd := by rw [hkd, hm, hL]; rfl
  rw [hrk]
  have HOL : Hid (TOk (ofL L)) := by rw [hke]; exact o7
  have HdL : Hid (tdep (ofL L) ≤ N) := by rw [hke]; exact hdp
  have HtL : Hid (bs.length + 2 + tw (ofL L) ≤ 1000000000000000000) := by rw [hke]; exact htw
  have HD := Lib.hid hHD
  have H6 := Lib.hid hR6
  have HG := Lib.hid hG
  have HIH := Lib.hid IH
  have HND : Hid ((docN (.node bs v false false ks)).le 1000000000000000000) := (docN_le _).mono htw
  obtain ⟨ND, hND⟩ : ∃ ND, ND = docN (.node bs v false false ks) := ⟨_, rfl⟩
  rw [← hND] at HD HND ⊢
  have hmL := Lib.hid (fun (_ : Unit) => hm)
  have hm256 : m ≤ 256 := by have := chain256 o6 o7; rw [← hL, ← hm] at this; exact this
  clear h2 h3 h5 h6 o1 o2 o3 o4 o5 o6 o7 hR6 hke hkr hL hHD hrk hdp htw hND IH hG hpl hm
  obtain ⟨t0, t1, t2, t3⟩ := three_new w (.cells #[.int .i64 (kd : Nat), .slice pa pn pc, .bool false, .int .u64 v, .slice ba bn bc, .slice ka m kc] rnT) (.cells #[.int .i64 0, .int .i64 0, .int .i64 0, .int .i64 0, .int .i64 0, .int .i64 0, .int .i64 0, .int .i64 0, .int .i64 0, .int .i64 0, .int .i64 0] dsT) (.cells #[.int .i64 0, .int .i64 0, .int .i64 0, .int .i64 0, .int .i64 0, .int .i64 0, .int .i64 0, .int .i64 0, .int .i64 0, .int .i64 (pn : Nat), .int .i64 0] dsT)
  have hk0 : ((kd : Int) == 0) = false := by rw [beq_eq_false_iff_ne, hkd]; have := kindOf_cases m; omega
  have hk1 : ((kd : Int) == 1) = false := by rw [beq_eq_false_iff_ne, hkd]; have := kindOf_cases m; omega
  have hk1' : (1 : Int) < (kd : Int) := by rw [hkd]; have := kindOf_cases m; omega
  have hkc : (kd = 4 ∧ kcl m = 0) ∨ (kd = 16 ∧ kcl m = 1) ∨ (kd = 48 ∧ kcl m = 2) ∨ (kd = 256 ∧ kcl m = 3) := by
    rw [hkd]; unfold kindOf kcl
    by_cases h1 : m ≤ 4
    · simp [h1]
    · by_cases h2 : m ≤ 16
      · simp [h1, h2]
      · by_cases h3 : m ≤ 48 <;> simp [h1, h2, h3]
  have S0 := Lib.hid (StIs.mk (s := ⟨0, 0, 0, 0, 0, 0, 0, 0, 0, pn, 0⟩) t2)
  have Z0 := Lib.hid (StIs.mk (s := stZ 0) t1)
  have X0 := Lib.hid (six_facts t0)
  have B0 := Lib.hid t3
  clear t0 t1 t2 t3 hkd
  go_enter Try.func66, Try.ntmps66
  go_upto_block 0 with fail
  go_cut [3] from 13 (fun s3 w' => s3 = .pointer (some ⟨w.heap.size + 2, 0, none⟩) ∧ Hid (w'.heap[w.heap.size]? = some (.cells #[.int .i64 (kd : Nat), .slice pa pn pc, .bool false, .int .u64 v, .slice ba bn bc, .slice ka m kc] rnT (0, 0))) ∧ Hid (StIs dsT w' (w.heap.size + 1) (stZ 0)) ∧ Hid (StIs dsT w' (w.heap.size + 2) (docH pn false m)) ∧ Hid (Below w.heap.size w w'))
  case first =>
    clear S0 Z0 X0 B0
    rcases hkc with ⟨rfl, hq⟩ | ⟨rfl, hq⟩ | ⟨rfl, hq⟩ | ⟨rfl, hq⟩
    · have hd : docH pn false m = ⟨0, 0, 1, 0, 0, 0, 0, 0, 0, pn, 0⟩ := by simp [docH, hq]
      clear hk0 hk1 hk1'
      go_wp2_with fail
      go_meet
      case rel =>
        obtain ⟨t0, t1, t2, t3⟩ := three_new w (.cells #[.int .i64 ((4 : Nat) : Int), .slice pa pn pc, .bool false, .int .u64 v, .slice ba bn bc, .slice ka m kc] rnT) (.cells #[.int .i64 0, .int .i64 0, .int .i64 0, .int .i64 0, .int .i64 0, .int .i64 0, .int .i64 0, .int .i64 0, .int .i64 0, .int .i64 0, .int .i64 0] dsT) (.cells #[.int .i64 0, .int .i64 0, .int .i64 1, .int .i64 0, .int .i64 0, .int .i64 0, .int .i64 0, .int .i64 0, .int .i64 0, .int .i64 (pn : Nat), .int .i64 0] dsT)
        exact ⟨rfl, t0, ⟨t1⟩, ⟨by rw [hd]; exact t2⟩, t3⟩
    · have hd : docH pn false m = ⟨0, 0, 0, 1, 0, 0, 0, 0, 0, pn, 0⟩ := by simp [docH, hq]
      clear hk0 hk1 hk1'
      go_wp2_with fail
      go_meet
      case rel =>
        obtain ⟨t0, t1, t2, t3⟩ := three_new w (.cells #[.int .i64 ((16 : Nat) : Int), .slice pa pn pc, .bool false, .int .u64 v, .slice ba bn bc, .slice ka m kc] rnT) (.cells #[.int .i64 0, .int .i64 0, .int .i64 0, .int .i64 0, .int .i64 0, .int .i64 0, .int .i64 0, .int .i64 0, .int .i64 0, .int .i64 0, .int .i64 0] dsT) (.cells #[.int .i64 0, .int .i64 0, .int .i64 0, .int .i64 1, .int .i64 0, .int .i64 0, .int .i64 0, .int .i64 0, .int .i64 0, .int .i64 (pn : Nat), .int .i64 0] dsT)
        exact ⟨rfl, t0, ⟨t1⟩, ⟨by rw [hd]; exact t2⟩, t3⟩
    · have hd : docH pn false m = ⟨0, 0, 0, 0, 1, 0, 0, 0, 0, pn, 0⟩ := by simp [docH, hq]
      clear hk0 hk1 hk1'
      go_wp2_with fail
      go_meet
      case rel =>
        obtain ⟨t0, t1, t2, t3⟩ := three_new w (.cells #[.int .i64 ((48 : Nat) : Int), .slice pa pn pc, .bool false, .int .u64 v, .slice ba bn bc, .slice ka m kc] rnT) (.cells #[.int .i64 0, .int .i64 0, .int .i64 0, .int .i64 0, .int .i64 0, .int .i64 0, .int .i64 0, .int .i64 0, .int .i64 0, .int .i64 0, .int .i64 0] dsT) (.cells #[.int .i64 0, .int .i64 0, .int .i64 0, .int .i64 0, .int .i64 1, .int .i64 0, .int .i64 0, .int .i64 0, .int .i64 0, .int .i64 (pn : Nat), .int .i64 0] dsT)
        exact ⟨rfl, t0, ⟨t1⟩, ⟨by rw [hd]; exact t2⟩, t3⟩
    · have hd : docH pn false m = ⟨0, 0, 0, 0, 0, 1, 0, 0, 0, pn, 0⟩ := by simp [docH, hq]
      clear hk0 hk1 hk1'
      go_wp2_with fail
      go_meet
      case rel =>
        obtain ⟨t0, t1, t2, t3⟩ := three_new w (.cells #[.int .i64 ((256 : Nat) : Int), .slice pa pn pc, .bool false, .int .u64 v, .slice ba bn bc, .slice ka m kc] rnT) (.cells #[.int .i64 0, .int .i64 0, .int .i64 0, .int .i64 0, .int .i64 0, .int .i64 0, .int .i64 0, .int .i64 0, .int .i64 0, .int .i64 0, .int .i64 0] dsT) (.cells #[.int .i64 0, .int .i64 0, .int .i64 0, .int .i64 0, .int .i64 0, .int .i64 1, .int .i64 0, .int .i64 0, .int .i64 0, .int .i64 (pn : Nat), .int .i64 0] dsT)
        exact ⟨rfl, t0, ⟨t1⟩, ⟨by rw [hd]; exact t2⟩, t3⟩
  case rest =>
    clear S0 Z0 X0 B0
    obtain ⟨rfl, hX, hz, hs, hB⟩ := hcut
    obtain ⟨x0, x1, x2, x3, x4, x5, _⟩ := six_facts hX.out
    obtain ⟨q0, e0⟩ : ∃ q : Nat, q = if kcl m = 0 then 1 else 0 := ⟨_, rfl⟩
    obtain ⟨q1, e1⟩ : ∃ q : Nat, q = if kcl m = 1 then 1 else 0 := ⟨_, rfl⟩
    obtain ⟨q2, e2⟩ : ∃ q : Nat, q = if kcl m = 2 then 1 else 0 := ⟨_, rfl⟩
    obtain ⟨q3, e3⟩ : ∃ q : Nat, q = if kcl m = 3 then 1 else 0 := ⟨_, rfl⟩
    have hq : docH pn false m = ⟨0, 0, q0, q1, q2, q3, 0, 0, 0, pn, 0⟩ := by rw [e0, e1, e2, e3]; rfl
    rw [hq] at hs
    have hH : Hid ((⟨0, 0, q0, q1, q2, q3, (if false then 1 else 0), 0, 0, pn, 0⟩ : StN).add (docN (ofL (L.drop 0))) = ND) := by
      show _ = _
      rw [List.drop_zero, HD.out]
      have : docH pn false m = ⟨0, 0, q0, q1, q2, q3, (if false then 1 else 0), 0, 0, pn, 0⟩ := by rw [e0, e1, e2, e3]; rfl
      rw [this]
    clear hq hkc hk0 hk1 e0 e1 e2 e3
    obtain ⟨c0, c1, c6, c7, c8, c9, f0, f1, f6, f7, f8, f9⟩ := hs.out.facts
    go_wp2_with fail
    have hs2 := hs
    have hz2 := hz
    have hX2 := hX
    have hB2 := hB
    clear x0 x1 x2 x3 x4 x5 c0 c1 c6 c7 c8 c9 f0 f1 f6 f7 f8 f9 hs hz hX hB
    go_loopw [4] (fun v4 wr => ∃ (i : Nat) (s : StN), v4 = .int .i64 (i : Nat) ∧ i ≤ m ∧ Hid (wr.heap[w.heap.size]? = some (.cells #[.int .i64 (kd : Nat), .slice pa pn pc, .bool false, .int .u64 v, .slice ba bn bc, .slice ka m kc] rnT (0, 0))) ∧ Hid (StIs dsT wr (w.heap.size + 1) (stZ 0)) ∧ Hid (StIs dsT wr (w.heap.size + 2) s) ∧ Hid (s.add (docN (ofL (L.drop i))) = ND) ∧ Hid (Below w.heap.size w wr)) (fun v4 _ => (m - intOf v4).toNat)
    case atStart => exact ⟨0, _, rfl, Nat.zero_le _, hX2, hz2, hs2, hH, hB2⟩
    case round =>
      clear hX2 hz2 hs2 hB2 hH
      obtain ⟨i, s, rfl, him, hX, hz, hs, hE, hB⟩ := hrel
      obtain ⟨x0, x1, x2, x3, x4, x5, _⟩ := six_facts hX.out
      by_cases hlt : i < m
      · have l1 : (i : Int) < (m : Int) := by omega
        have l0 : (0 : Int) ≤ (i : Int) := by omega
        have hiL : i < L.length := by rw [← hmL.out ()]; exact hlt
        obtain ⟨y, hy⟩ : ∃ y, L[i]? = some y := ⟨_, List.getElem?_eq_getElem hiL⟩
        obtain ⟨g, c', hg1, hg2, hg3, hg4, hg5⟩ := rt_at H6.out i y hy
        have hE2 : Hid ((s.add (docN y.2)).add (docN (ofL (L.drop (i + 1)))) = ND) := by show _ = _; rw [← docN_drop hy, hE.out]
        obtain ⟨yb, yt⟩ := y
        have hym := List.mem_of_getElem? hy
        have hyT := ((tok_ofL L).1 HOL.out).1 (yb, yt) hym
        have hyD : tdep yt ≤ N := Nat.le_trans (tdep_ofL hym) HdL.out
        have hyW : tw yt ≤ 1000000000000000000 := by
          have q1 : tw yt ≤ tw (ofL L) := tw_ofL hym
          have q2 := HtL.out
          omega
        cases yt with
        | nil => exact hyT.2.1.elim
        | kid => exact hyT.2.1.elim
        | node bs' v' has' leaf' ks' =>
          have hE2 : Hid ((s.add (docN (.node bs' v' has' leaf' ks'))).add (docN (ofL (L.drop (i + 1)))) = ND) := hE2
          have hg5 : RT w G (.node bs' v' has' leaf' ks') none 0 c' := hg5
          have hdn : Hid (∀ X, Below w.heap.size w X → Calls Try.prog 66 #[.agg c'.toArray] X (belowPost (stV (docN (.node bs' v' has' leaf' ks'))) X)) := fun X hb =>
            HIH.out bs' v' has' leaf' ks' c' hyD (hg5.keep hb.size fun j hj => hb.block j (HG.out j hj)) (fun j hj => Nat.lt_of_lt_of_le (HG.out j hj) hb.size) hyT.2.2 hyW
          obtain ⟨pa', pn', pc', ba', bn', bc', ka', kn', kc', hc', hx'⟩ := hg5
          clear hx'
          subst hc'
          obtain ⟨KD', hKD'⟩ : ∃ x : Int, x = ((rkind leaf' ks' : Nat) : Int) := ⟨_, rfl⟩
          rw [← hKD'] at hdn hg4
          generalize docN (.node bs' v' has' leaf' ks') = u at *
          subst hg1
          rw [Nat.zero_add] at hg4
          obtain ⟨a0, a1, a2, a3, a4, a5, a6, a7, a8, a9, a10⟩ := s
          obtain ⟨b0, b1, b2, b3, b4, b5, b6, b7, b8, b9, b10⟩ := u
          have hdn : Hid (∀ X, Below w.heap.size w X → Calls Try.prog 66 #[.agg #[.int .i64 KD', .slice pa' pn' pc', .bool has', .int .u64 v', .slice ba' bn' bc', .slice ka' kn' kc']] X (belowPost (.agg #[.int .i64 (b0 : Nat), .int .i64 (b1 : Nat), .int .i64 (b2 : Nat), .int .i64 (b3 : Nat), .int .i64 (b4 : Nat), .int .i64 (b5 : Nat), .int .i64 (b6 : Nat), .int .i64 (b7 : Nat), .int .i64 (b8 : Nat), .int .i64 (b9 : Nat), .int .i64 (b10 : Nat)]) X)) := hdn
          obtain ⟨z1, e1⟩ : ∃ z, z = a1 + b1 := ⟨_, rfl⟩
          obtain ⟨z2, e2⟩ : ∃ z, z = a2 + b2 := ⟨_, rfl⟩
          obtain ⟨z3, e3⟩ : ∃ z, z = a3 + b3 := ⟨_, rfl⟩
          obtain ⟨z4, e4⟩ : ∃ z, z = a4 + b4 := ⟨_, rfl⟩
          obtain ⟨z5, e5⟩ : ∃ z, z = a5 + b5 := ⟨_, rfl⟩
          obtain ⟨z6, e6⟩ : ∃ z, z = a6 + b6 := ⟨_, rfl⟩
          obtain ⟨z9, e9⟩ : ∃ z, z = a9 + b9 := ⟨_, rfl⟩
          have hE3 : Hid ((⟨a0, z1, z2, z3, z4, z5, z6, a7, a8, z9, a10⟩ : StN).add (docN (ofL (L.drop (i + 1)))) = ND) := by
            show _ = _
            rw [e1, e2, e3, e4, e5, e6, e9]; exact hE2.out
          have w1 : IntKind.i64.wrap ((a1 : Int) + (b1 : Nat)) = (z1 : Int) := by
            have q := congrArg StN.leaves hE3.out
            have q2 := HND.out.leaves
            simp only [StN.add] at q
            rw [show (a1 : Int) + (b1 : Nat) = ((z1 : Nat) : Int) by omega]; exact IntWalk.i64_in _ (by omega)
          have w2 : IntKind.i64.wrap ((a2 : Int) + (b2 : Nat)) = (z2 : Int) := by
            have q := congrArg StN.k0 hE3.out
            have q2 := HND.out.k0
            simp only [StN.add] at q
            rw [show (a2 : Int) + (b2 : Nat) = ((z2 : Nat) : Int) by omega]; exact IntWalk.i64_in _ (by omega)
          have w3 : IntKind.i64.wrap ((a3 : Int) + (b3 : Nat)) = (z3 : Int) := by
            have q := congrArg StN.k1 hE3.out
            have q2 := HND.out.k1
            simp only [StN.add] at q
            rw [show (a3 : Int) + (b3 : Nat) = ((z3 : Nat) : Int) by omega]; exact IntWalk.i64_in _ (by omega)
          have w4 : IntKind.i64.wrap ((a4 : Int) + (b4 : Nat)) = (z4 : Int) := by
            have q := congrArg StN.k2 hE3.out
            have q2 := HND.out.k2
            simp only [StN.add] at q
            rw [show (a4 : Int) + (b4 : Nat) = ((z4 : Nat) : Int) by omega]; exact IntWalk.i64_in _ (by omega)
          have w5 : IntKind.i64.wrap ((a5 : Int) + (b5 : Nat)) = (z5 : Int) := by
            have q := congrArg StN.k3 hE3.out
            have q2 := HND.out.k3
            simp only [StN.add] at q
            rw [show (a5 : Int) + (b5 : Nat) = ((z5 : Nat) : Int) by omega]; exact IntWalk.i64_in _ (by omega)
          have w6 : IntKind.i64.wrap ((a6 : Int) + (b6 : Nat)) = (z6 : Int) := by
            have q := congrArg StN.slots hE3.out
            have q2 := HND.out.slots
            simp only [StN.add] at q
            rw [show (a6 : Int) + (b6 : Nat) = ((z6 : Nat) : Int) by omega]; exact IntWalk.i64_in _ (by omega)
          have w9 : IntKind.i64.wrap ((a9 : Int) + (b9 : Nat)) = (z9 : Int) := by
            have q := congrArg StN.parts hE3.out
            have q2 := HND.out.parts
            simp only [StN.add] at q
            rw [show (a9 : Int) + (b9 : Nat) = ((z9 : Nat) : Int) by omega]; exact IntWalk.i64_in _ (by omega)
          clear e1 e2 e3 e4 e5 e6 e9 hE2 hE
          have hS : Hid (∀ X, Below w.heap.size w X → X.cell? ⟨g, i * 6, none⟩ = some (.int .i64 KD') ∧ X.cell? ⟨g, i * 6 + 1, none⟩ = some (.slice pa' pn' pc') ∧ X.cell? ⟨g, i * 6 + 2, none⟩ = some (.bool has') ∧ X.cell? ⟨g, i * 6 + 3, none⟩ = some (.int .u64 v') ∧ X.cell? ⟨g, i * 6 + 4, none⟩ = some (.slice ba' bn' bc') ∧ X.cell? ⟨g, i * 6 + 5, none⟩ = some (.slice ka' kn' kc')) := fun X hb => by
            have hgl := HG.out g hg2
            have e : ∀ j, X.cell? ⟨g, j, none⟩ = w.cell? ⟨g, j, none⟩ := fun j => hb.cell (p := ⟨g, j, none⟩) hgl
            exact ⟨by rw [e]; exact hg4 0 (by omega), by rw [e]; exact hg4 1 (by omega), by rw [e]; exact hg4 2 (by omega), by rw [e]; exact hg4 3 (by omega), by rw [e]; exact hg4 4 (by omega), by rw [e]; exact hg4 5 (by omega)⟩
          obtain ⟨y0, y1, y2, y3, y4, y5⟩ := hS.out wr hB.out
          have hw9 : IntKind.i64.wrap (((i : Nat) : Int) + 1) = ((i + 1 : Nat) : Int) := by rw [show ((i : Nat) : Int) + 1 = ((i + 1 : Nat) : Int) by omega]; exact IntWalk.i64_in _ (by omega)
          clear hy hiL hg4 hyT hKD' hg3 hym hyD hyW hS
          go_upto_region 19 with fail
          go_cut [5] from 48 to 53 (fun s5 w' => ∃ g5, s5 = .pointer (some ⟨g5, 0, none⟩) ∧ w.heap.size + 2 < g5 ∧ Hid (w'.heap[w.heap.size]? = some (.cells #[.int .i64 (kd : Nat), .slice pa pn pc, .bool false, .int .u64 v, .slice ba bn bc, .slice (some ⟨g, 0, none⟩) m kc] rnT (0, 0))) ∧ Hid (StIs dsT w' (w.heap.size + 1) (stZ 0)) ∧ Hid (StIs dsT w' (w.heap.size + 2) ⟨a0, a1, a2, a3, a4, a5, a6, a7, a8, a9, a10⟩) ∧ Hid (StIs dsT w' g5 ⟨b0, b1, b2, b3, b4, b5, b6, b7, b8, b9, b10⟩) ∧ Hid (Below w.heap.size w w'))
          case first =>
            go_wp2_with (first
              | (go_at_call 66; refine (hdn.out _ hB.out).mono ?_; rintro e w7 ⟨rfl, q7⟩
                 have A8 := below_al w7 (.cells #[.int .i64 (b0 : Nat), .int .i64 (b1 : Nat), .int .i64 (b2 : Nat), .int .i64 (b3 : Nat), .int .i64 (b4 : Nat), .int .i64 (b5 : Nat), .int .i64 (b6 : Nat), .int .i64 (b7 : Nat), .int .i64 (b8 : Nat), .int .i64 (b9 : Nat), .int .i64 (b10 : Nat)] dsT)
                 have hl7 : w.heap.size + 2 < w7.heap.size := Nat.lt_of_lt_of_le hs.out.lt q7.size
                 have S8 := Lib.hid ((hs.out.below q7).below A8)
                 have Z8 := Lib.hid ((hz.out.below q7).below A8)
                 have U8 := Lib.hid (show StIs dsT (w7.alloc (.cells #[.int .i64 (b0 : Nat), .int .i64 (b1 : Nat), .int .i64 (b2 : Nat), .int .i64 (b3 : Nat), .int .i64 (b4 : Nat), .int .i64 (b5 : Nat), .int .i64 (b6 : Nat), .int .i64 (b7 : Nat), .int .i64 (b8 : Nat), .int .i64 (b9 : Nat), .int .i64 (b10 : Nat)] dsT)) w7.heap.size ⟨b0, b1, b2, b3, b4, b5, b6, b7, b8, b9, b10⟩ from ⟨heap_alloc_new _ _⟩)
                 have X8 := Lib.hid (((A8.block _ (by omega)).trans (q7.block _ (Array.getElem?_eq_some_iff.1 hX.out).1)).trans hX.out)
                 have B8 := Lib.hid ((hB.out.trans (q7.mono hB.out.size)).trans (A8.mono (hB.out.trans (q7.mono hB.out.size)).size))
                 clear q7 A8))
            go_meet
            case rel => exact ⟨w7.heap.size, rfl, hl7, X8, Z8, S8, U8, B8⟩
          case rest =>
          clear hX hz hs hB hdn x0 x1 x2 x3 x4 x5
          obtain ⟨g5, rfl, hl7, X8, Z8, S8, U8, B8⟩ := hcut
          obtain ⟨c0, c1, c6, c7, c8, c9, f0, f1, f6, f7, f8, f9⟩ := S8.out.facts
          obtain ⟨d0, d1, d6, d7, d8, d9, _, _, _, _, _, _⟩ := U8.out.facts
          have hne : g5 ≠ w.heap.size + 2 := by omega
          have hne' : w.heap.size + 2 ≠ g5 := by omega
          go_wp2_with fail
          have hge : w.heap.size ≤ w.heap.size + 2 := by omega
          have hb2 : (⟨w.heap.size + 2, 0, none⟩ : Addr).block ≠ w.heap.size + 1 := by show w.heap.size + 2 ≠ _; omega
          have S9 := Lib.hid (((S8.out.set (s' := ⟨a0, z1, a2, a3, a4, a5, a6, a7, a8, a9, a10⟩) 1 (.int .i64 (z1 : Nat)) rfl).set (s' := ⟨a0, z1, a2, a3, a4, a5, z6, a7, a8, a9, a10⟩) 6 (.int .i64 (z6 : Nat)) rfl).set (s' := ⟨a0, z1, a2, a3, a4, a5, z6, a7, a8, z9, a10⟩) 9 (.int .i64 (z9 : Nat)) rfl)
          have Z9 := Lib.hid (((Z8.out.other (p := ⟨w.heap.size + 2, 1, none⟩) (v := .int .i64 (z1 : Nat)) hb2).other (p := ⟨w.heap.size + 2, 6, none⟩) (v := .int .i64 (z6 : Nat)) hb2).other (p := ⟨w.heap.size + 2, 9, none⟩) (v := .int .i64 (z9 : Nat)) hb2)
          have U9 := Lib.hid (((U8.out.other (p := ⟨w.heap.size + 2, 1, none⟩) (v := .int .i64 (z1 : Nat)) hne').other (p := ⟨w.heap.size + 2, 6, none⟩) (v := .int .i64 (z6 : Nat)) hne').other (p := ⟨w.heap.size + 2, 9, none⟩) (v := .int .i64 (z9 : Nat)) hne')
          have X9 := Lib.hid ((BlkIs.mk X8.out).other3 (p := ⟨w.heap.size + 2, 1, none⟩) (p2 := ⟨w.heap.size + 2, 6, none⟩) (p3 := ⟨w.heap.size + 2, 9, none⟩) (v := .int .i64 (z1 : Nat)) (v2 := .int .i64 (z6 : Nat)) (v3 := .int .i64 (z9 : Nat)) (by show w.heap.size + 2 ≠ _; omega) (by show w.heap.size + 2 ≠ _; omega) (by show w.heap.size + 2 ≠ _; omega)).blk
          have B9 := Lib.hid (((B8.out.setCell (p := ⟨w.heap.size + 2, 1, none⟩) hge (.int .i64 (z1 : Nat))).setCell (p := ⟨w.heap.size + 2, 6, none⟩) hge (.int .i64 (z6 : Nat))).setCell (p := ⟨w.heap.size + 2, 9, none⟩) hge (.int .i64 (z9 : Nat)))
          clear S8 Z8 U8 X8 B8 c0 c1 c6 c7 c8 c9 f0 f1 f6 f7 f8 f9 d0 d1 d6 d7 d8 d9 y0 y1 y2 y3 y4 y5 w1 w6 w9
          go_loopw [6] (fun v6 wq => ∃ (j : Int) (t2 t3 t4 t5 : Nat), v6 = .int .i64 j ∧ ((j = 0 ∧ a2 = t2 ∧ a3 = t3 ∧ a4 = t4 ∧ a5 = t5) ∨ (j = 1 ∧ z2 = t2 ∧ a3 = t3 ∧ a4 = t4 ∧ a5 = t5) ∨ (j = 2 ∧ z2 = t2 ∧ z3 = t3 ∧ a4 = t4 ∧ a5 = t5) ∨ (j = 3 ∧ z2 = t2 ∧ z3 = t3 ∧ z4 = t4 ∧ a5 = t5) ∨ (j = 4 ∧ z2 = t2 ∧ z3 = t3 ∧ z4 = t4 ∧ z5 = t5)) ∧ Hid (wq.heap[w.heap.size]? = some (.cells #[.int .i64 (kd : Nat), .slice pa pn pc, .bool false, .int .u64 v, .slice ba bn bc, .slice (some ⟨g, 0, none⟩) m kc] rnT (0, 0))) ∧ Hid (StIs dsT wq (w.heap.size + 1) (stZ 0)) ∧ Hid (StIs dsT wq (w.heap.size + 2) ⟨a0, z1, t2, t3, t4, t5, z6, a7, a8, z9, a10⟩) ∧ Hid (StIs dsT wq g5 ⟨b0, b1, b2, b3, b4, b5, b6, b7, b8, b9, b10⟩) ∧ Hid (Below w.heap.size w wq)) (fun v6 _ => (4 - intOf v6).toNat)
          case atStart => exact ⟨0, _, _, _, _, rfl, Or.inl ⟨rfl, rfl, rfl, rfl, rfl⟩, X9, Z9, S9, U9, B9⟩
          case round =>
            clear X9 Z9 S9 U9 B9
            obtain ⟨j, t2, t3, t4, t5, rfl, hj, hX, hz, hs, hu, hB⟩ := hrel
            obtain ⟨c0, c1, c2, c3, c4, c5, c6, c7, c8, c9, c10⟩ := hs.out.all
            obtain ⟨f0, f1, f2, f3, f4, f5, f6, f7, f8, f9, f10⟩ := hs.out.allF
            obtain ⟨d0, d1, d2, d3, d4, d5, d6, d7, d8, d9, d10⟩ := hu.out.all
            rcases hj with ⟨rfl, rfl, rfl, rfl, rfl⟩ | ⟨rfl, rfl, rfl, rfl, rfl⟩ | ⟨rfl, rfl, rfl, rfl, rfl⟩ | ⟨rfl, rfl, rfl, rfl, rfl⟩ | ⟨rfl, rfl, rfl, rfl, rfl⟩
            · have hX2 := Lib.hid ((BlkIs.mk hX.out).other (p := ⟨w.heap.size + 2, 2, none⟩) (v := .int .i64 (z2 : Nat)) (by show w.heap.size + 2 ≠ _; omega)).blk
              have hz2 := Lib.hid (hz.out.other (p := ⟨w.heap.size + 2, 2, none⟩) (v := .int .i64 (z2 : Nat)) hb2)
              have hs2 := Lib.hid (hs.out.set (s' := ⟨a0, z1, z2, a3, a4, a5, z6, a7, a8, z9, a10⟩) 2 (.int .i64 (z2 : Nat)) rfl)
              have hu2 := Lib.hid (hu.out.other (p := ⟨w.heap.size + 2, 2, none⟩) (v := .int .i64 (z2 : Nat)) hne')
              have hB2 := Lib.hid (hB.out.setCell (p := ⟨w.heap.size + 2, 2, none⟩) hge (.int .i64 (z2 : Nat)))
              clear hX hz hs hu hB
              go_wp2_with fail
              go_still_tail 11, (by kernel_rfl)
              change wpList _ _ _ _ _ wr.drew
              go_wp2_with fail
              go_roundw
              case rel => exact ⟨1, _, _, _, _, rfl, by simp, hX2.out, ⟨hz2.out.blk⟩, ⟨hs2.out.blk⟩, ⟨hu2.out.blk⟩, hB2.out.drew⟩
              case measure => (simp [intOf]) <;> omega
            · have hX2 := Lib.hid ((BlkIs.mk hX.out).other (p := ⟨w.heap.size + 2, 3, none⟩) (v := .int .i64 (z3 : Nat)) (by show w.heap.size + 2 ≠ _; omega)).blk
              have hz2 := Lib.hid (hz.out.other (p := ⟨w.heap.size + 2, 3, none⟩) (v := .int .i64 (z3 : Nat)) hb2)
              have hs2 := Lib.hid (hs.out.set (s' := ⟨a0, z1, z2, z3, a4, a5, z6, a7, a8, z9, a10⟩) 3 (.int .i64 (z3 : Nat)) rfl)
              have hu2 := Lib.hid (hu.out.other (p := ⟨w.heap.size + 2, 3, none⟩) (v := .int .i64 (z3 : Nat)) hne')
              have hB2 := Lib.hid (hB.out.setCell (p := ⟨w.heap.size + 2, 3, none⟩) hge (.int .i64 (z3 : Nat)))
              clear hX hz hs hu hB
              go_wp2_with fail
              go_still_tail 11, (by kernel_rfl)
              change wpList _ _ _ _ _ wr.drew
              go_wp2_with fail
              go_roundw
              case rel => exact ⟨2, _, _, _, _, rfl, by simp, hX2.out, ⟨hz2.out.blk⟩, ⟨hs2.out.blk⟩, ⟨hu2.out.blk⟩, hB2.out.drew⟩
              case measure => (simp [intOf]) <;> omega
            · have hX2 := Lib.hid ((BlkIs.mk hX.out).other (p := ⟨w.heap.size + 2, 4, none⟩) (v := .int .i64 (z4 : Nat)) (by show w.heap.size + 2 ≠ _; omega)).blk
              have hz2 := Lib.hid (hz.out.other (p := ⟨w.heap.size + 2, 4, none⟩) (v := .int .i64 (z4 : Nat)) hb2)
              have hs2 := Lib.hid (hs.out.set (s' := ⟨a0, z1, z2, z3, z4, a5, z6, a7, a8, z9, a10⟩) 4 (.int .i64 (z4 : Nat)) rfl)
              have hu2 := Lib.hid (hu.out.other (p := ⟨w.heap.size + 2, 4, none⟩) (v := .int .i64 (z4 : Nat)) hne')
              have hB2 := Lib.hid (hB.out.setCell (p := ⟨w.heap.size + 2, 4, none⟩) hge (.int .i64 (z4 : Nat)))
              clear hX hz hs hu hB
              go_wp2_with fail
              go_still_tail 11, (by kernel_rfl)
              change wpList _ _ _ _ _ wr.drew
              go_wp2_with fail
              go_roundw
              case rel => exact ⟨3, _, _, _, _, rfl, by simp, hX2.out, ⟨hz2.out.blk⟩, ⟨hs2.out.blk⟩, ⟨hu2.out.blk⟩, hB2.out.drew⟩
              case measure => (simp [intOf]) <;> omega
            · have hX2 := Lib.hid ((BlkIs.mk hX.out).other (p := ⟨w.heap.size + 2, 5, none⟩) (v := .int .i64 (z5 : Nat)) (by show w.heap.size + 2 ≠ _; omega)).blk
              have hz2 := Lib.hid (hz.out.other (p := ⟨w.heap.size + 2, 5, none⟩) (v := .int .i64 (z5 : Nat)) hb2)
              have hs2 := Lib.hid (hs.out.set (s' := ⟨a0, z1, z2, z3, z4, z5, z6, a7, a8, z9, a10⟩) 5 (.int .i64 (z5 : Nat)) rfl)
              have hu2 := Lib.hid (hu.out.other (p := ⟨w.heap.size + 2, 5, none⟩) (v := .int .i64 (z5 : Nat)) hne')
              have hB2 := Lib.hid (hB.out.setCell (p := ⟨w.heap.size + 2, 5, none⟩) hge (.int .i64 (z5 : Nat)))
              clear hX hz hs hu hB
              go_wp2_with fail
              go_still_tail 11, (by kernel_rfl)
              change wpList _ _ _ _ _ wr.drew
              go_wp2_with fail
              go_roundw
              case rel => exact ⟨4, _, _, _, _, rfl, by simp, hX2.out, ⟨hz2.out.blk⟩, ⟨hs2.out.blk⟩, ⟨hu2.out.blk⟩, hB2.out.drew⟩
              case measure => (simp [intOf]) <;> omega
            · go_wp2_with fail
              go_roundw
              case rel => exact ⟨i + 1, _, (by first | rfl | go_num), by omega, hX, hz, hs, hE3, hB⟩
              case measure => (simp [intOf]) <;> omega
      · have l1 : ¬ (i : Int) < (m : Int) := by omega
        obtain rfl : i = m := by omega
        have hND : s = ND := by
          have e := hE.out
          rw [hmL.out (), docN_end] at e
          exact e
        subst hND
        obtain ⟨a0, a1, a2, a3, a4, a5, a6, a7, a8, a9, a10⟩ := s
        obtain ⟨c0, c1, c2, c3, c4, c5, c6, c7, c8, c9, c10⟩ := hs.out.all
        obtain ⟨d0, d1, d2, d3, d4, d5, d6, d7, d8, d9, d10⟩ := (show StIs dsT wr (w.heap.size + 1) ⟨0, 0, 0, 0, 0, 0, 0, 0, 0, 0, 0⟩ from hz.out).all
        obtain ⟨f0, f1, f2, f3, f4, f5, f6, f7, f8, f9, f10⟩ := hz.out.allF
        go_wp2_with fail
        have NF := ((((((((((((show StIs dsT wr (w.heap.size + 1) ⟨0, 0, 0, 0, 0, 0, 0, 0, 0, 0, 0⟩ from hz.out).set (s' := ⟨a0, 0, 0, 0, 0, 0, 0, 0, 0, 0, 0⟩) 0 (.int .i64 (a0 : Nat)) rfl).set (s' := ⟨a0, a1, 0, 0, 0, 0, 0, 0, 0, 0, 0⟩) 1 (.int .i64 (a1 : Nat)) rfl).set (s' := ⟨a0, a1, a2, 0, 0, 0, 0, 0, 0, 0, 0⟩) 2 (.int .i64 (a2 : Nat)) rfl).set (s' := ⟨a0, a1, a2, a3, 0, 0, 0, 0, 0, 0, 0⟩) 3 (.int .i64 (a3 : Nat)) rfl).set (s' := ⟨a0, a1, a2, a3, a4, 0, 0, 0, 0, 0, 0⟩) 4 (.int .i64 (a4 : Nat)) rfl).set (s' := ⟨a0, a1, a2, a3, a4, a5, 0, 0, 0, 0, 0⟩) 5 (.int .i64 (a5 : Nat)) rfl).set (s' := ⟨a0, a1, a2, a3, a4, a5, a6, 0, 0, 0, 0⟩) 6 (.int .i64 (a6 : Nat)) rfl).set (s' := ⟨a0, a1, a2, a3, a4, a5, a6, a7, 0, 0, 0⟩) 7 (.int .i64 (a7 : Nat)) rfl).set (s' := ⟨a0, a1, a2, a3, a4, a5, a6, a7, a8, 0, 0⟩) 8 (.int .i64 (a8 : Nat)) rfl).set (s' := ⟨a0, a1, a2, a3, a4, a5, a6, a7, a8, a9, 0⟩) 9 (.int .i64 (a9 : Nat)) rfl).set (s' := ⟨a0, a1, a2, a3, a4, a5, a6, a7, a8, a9, a10⟩) 10 (.int .i64 (a10 : Nat)) rfl)
        have BF := (((((((((((hB.out.setCell (p := ⟨w.heap.size + 1, 0, none⟩) (Nat.le_succ _) (.int .i64 (a0 : Nat))).setCell (p := ⟨w.heap.size + 1, 1, none⟩) (Nat.le_succ _) (.int .i64 (a1 : Nat))).setCell (p := ⟨w.heap.size + 1, 2, none⟩) (Nat.le_succ _) (.int .i64 (a2 : Nat))).setCell (p := ⟨w.heap.size + 1, 3, none⟩) (Nat.le_succ _) (.int .i64 (a3 : Nat))).setCell (p := ⟨w.heap.size + 1, 4, none⟩) (Nat.le_succ _) (.int .i64 (a4 : Nat))).setCell (p := ⟨w.heap.size + 1, 5, none⟩) (Nat.le_succ _) (.int .i64 (a5 : Nat))).setCell (p := ⟨w.heap.size + 1, 6, none⟩) (Nat.le_succ _) (.int .i64 (a6 : Nat))).setCell (p := ⟨w.heap.size + 1, 7, none⟩) (Nat.le_succ _) (.int .i64 (a7 : Nat))).setCell (p := ⟨w.heap.size + 1, 8, none⟩) (Nat.le_succ _) (.int .i64 (a8 : Nat))).setCell (p := ⟨w.heap.size + 1, 9, none⟩) (Nat.le_succ _) (.int .i64 (a9 : Nat))).setCell (p := ⟨w.heap.size + 1, 10, none⟩) (Nat.le_succ _) (.int .i64 (a10 : Nat)))
        have hinf : (Try.prog.info? dsT).map (·.size) = some 11 := by kernel_rfl
        exact bodyPost_ret (v := stV ⟨a0, a1, a2, a3, a4, a5, a6, a7, a8, a9, a10⟩) (results_cell_row Try.results66 _ _ (w.heap.size + 1) dsT _ (0, 0) _ rfl NF.blk Try.underlying61 rfl hinf) rfl ⟨rfl, BF⟩
end Go.Proofs.Ytgijnjdcpipfiaa
/- The document's depth of a tree. -/
namespace Go.Proofs.Ytgijnjdcpipfiaa
open Go.RowKit
def DpAsk (N : Nat) : Prop := ∀ (bs : List Nat) (v : Int) (has leaf : Bool) (ks : Tr) (c : List Value) {w : World} {G : Nat → Prop}, tdep (.node bs v has leaf ks) ≤ N → RT w G (.node bs v has leaf ks) none 0 c → (∀ j, G j → j < w.heap.size) → TOk (.node bs v has leaf ks) → tdep (.node bs v has leaf ks) ≤ 1000000 → Calls Try.prog 67 #[.agg c.toArray] w (belowPost (.int .i64 (tdep (.node bs v has leaf ks) : Nat)) w)
theorem tdep_drop {L : List (Nat × Tr)} {i : Nat} {x : Nat × Tr} (h : L[i]? = some x) : tdep (ofL (L.drop i)) = max (tdep x.2) (tdep (ofL (L.drop (i + 1)))) := by
  have hi : i < L.length := (List.getElem?_eq_some_iff.1 h).1
  have e : L[i] = x := (List.getElem?_eq_some_iff.1 h).2
  rw [List.drop_eq_getElem_cons hi, e]; rfl
set_option maxHeartbeats 4000000 in
set_option maxRecDepth 100000 in
theorem dp_in (N : Nat) (IH : DpAsk N) (bs : List Nat) (v : Int) (has leaf : Bool) (ks : Tr) (c : List Value) {w : World} {G : Nat → Prop} (hdp : tdep ks ≤ N) (hR : RT w G (.node bs v has leaf ks) none 0 c) (hG : ∀ j, G j → j < w.heap.size) (hO : TOk (.node bs v has leaf ks)) (hD : tdep (.node bs v has leaf ks) ≤ 1000000) :
    Calls Try.prog 67 #[.agg c.toArray] w (belowPost (.int .i64 (tdep (.node bs v has leaf ks) : Nat)) w) := by
  obtain ⟨pa, pn, pc, ba, bn, bc, ka, rn, kc, rfl, h2, h3, rfl, h5, h6⟩ := hR
  obtain ⟨o1, o2, o3, o4, o5, o6, o7⟩ := hO
  have hR6 := rt_chain h6 o6 o7
  have hke := ofL_chain ks o6 o7
  obtain ⟨L, hL⟩ : ∃ L, L = chain ks := ⟨_, rfl⟩
  rw [← hL] at hR6 hke ⊢
  obtain ⟨m, hm⟩ : ∃ m, m = L.length := ⟨_, rfl⟩
  rw [← hm]
  have hm2 : m ≤ 256 := by have := chain256 o6 o7; rw [← hL, ← hm] at this; exact this
  have hrk : ((rkind leaf ks : Nat) : Int) ≠ 0 := by
    unfold rkind
    split
    · omega
    · unfold kindOf; split <;> (try split) <;> (try split) <;> omega
  show Calls _ _ #[.agg #[.int .i64 ((rkind leaf ks : Nat) : Int), .slice pa pn pc, .bool has, .int .u64 v, .slice ba bn bc, .slice ka m kc]] _ _
  obtain ⟨KD, hKD⟩ : ∃ x : Int, x = ((rkind leaf ks : Nat) : Int) := ⟨_, rfl⟩
  rw [← hKD] at hrk ⊢
  have hk0 : (KD == 0) = false := by rw [beq_eq_false_iff_ne]; exact hrk
  obtain ⟨V, hV⟩ : ∃ V, V = tdep ks := ⟨_, rfl⟩
  have hT : tdep (.node bs v has leaf ks) = 1 + V := by rw [hV]; rfl
  rw [hT] at hD ⊢
  obtain ⟨Z, hZ⟩ : ∃ Z, Z = 1 + V := ⟨_, rfl⟩
  rw [← hZ] at hD ⊢
  have HZ : Hid (∀ x, x = V → IntKind.i64.wrap ((x : Nat) + 1 : Int) = (Z : Int)) := fun x e => by
    rw [e, show ((V : Nat) : Int) + 1 = ((Z : Nat) : Int) by omega]; exact IntWalk.i64_in _ (by omega)
  have HS : Hid (max 0 (tdep (ofL (L.drop 0))) = V) := by show _ = _; rw [List.drop_zero, hke, hV]; omega
  have HOL : Hid (TOk (ofL L)) := by rw [hke]; exact o7
  have HdL : Hid (tdep (ofL L) ≤ N ∧ tdep (ofL L) ≤ 1000000) := by rw [hke]; exact ⟨hdp, by omega⟩
  have H6 := Lib.hid hR6
  have HG := Lib.hid hG
  have HIH := Lib.hid IH
  have hmL := Lib.hid (fun (_ : Unit) => hm)
  obtain ⟨wb, hwb⟩ : ∃ wb, wb = w.alloc (.cells #[.int .i64 KD, .slice pa pn pc, .bool has, .int .u64 v, .slice ba bn bc, .slice ka m kc] rnT) := ⟨_, rfl⟩
  have hbox : wb.heap[w.heap.size]? = some (.cells [.int .i64 KD, .slice pa pn pc, .bool has, .int .u64 v, .slice ba bn bc, .slice ka m kc].toArray rnT (0, 0)) := by rw [hwb]; exact six_new w _ _ _ _ _ _ rnT
  have hB : Hid (Below w.heap.size w wb) := by rw [hwb]; exact below_al w _
  have hall : Hid (∀ X, Below wb.heap.size wb X → X.cell? ⟨w.heap.size, 0, none⟩ = some (.int .i64 KD) ∧ X.cell? ⟨w.heap.size, 5, none⟩ = some (.slice ka m kc)) := fun X hb => by
    obtain ⟨x0, x1, x2, x3, x4, x5, _⟩ := six_facts ((hb.block w.heap.size (Array.getElem?_eq_some_iff.1 hbox).1).trans hbox)
    exact ⟨x0, x5⟩
  obtain ⟨x0, x5⟩ := hall.out wb (Below.refl _ _)
  clear h2 h3 h5 h6 o1 o2 o3 o4 o5 o6 o7 hR6 hke hL hrk hKD hdp hD hV hT hZ IH hG hm hbox
  go_enter Try.func67, Try.ntmps67
  go_upto_region 1 with fail
  rw [← hwb]
  clear hwb
  go_wp2_with fail
  go_loopw [3, 4] (fun v3 v4 wr => ∃ (i d : Nat), v3 = .int .i64 (d : Nat) ∧ v4 = .int .i64 (i : Nat) ∧ i ≤ m ∧ Hid (max d (tdep (ofL (L.drop i))) = V) ∧ Hid (Below wb.heap.size wb wr)) (fun _ v4 _ => (m - intOf v4).toNat)
  case atStart => exact ⟨0, 0, rfl, rfl, Nat.zero_le _, HS, Below.refl _ _⟩
  case round =>
    clear x0 x5 HS
    obtain ⟨i, d, rfl, rfl, him, hE, hBr⟩ := hrel
    obtain ⟨x0, x5⟩ := hall.out wr hBr.out
    by_cases hlt : i < m
    · have l1 : (i : Int) < (m : Int) := by omega
      have l0 : (0 : Int) ≤ (i : Int) := by omega
      have hiL : i < L.length := by rw [← hmL.out ()]; exact hlt
      obtain ⟨y, hy⟩ : ∃ y, L[i]? = some y := ⟨_, List.getElem?_eq_getElem hiL⟩
      obtain ⟨g, c', hg1, hg2, hg3, hg4, hg5⟩ := rt_at H6.out i y hy
      have hE2 : Hid (max (max d (tdep y.2)) (tdep (ofL (L.drop (i + 1)))) = V) := by
        have e := hE.out
        rw [tdep_drop hy] at e
        show _ = _
        omega
      obtain ⟨yb, yt⟩ := y
      have hym := List.mem_of_getElem? hy
      have hyT := ((tok_ofL L).1 HOL.out).1 (yb, yt) hym
      have hyD : tdep yt ≤ tdep (ofL L) := tdep_ofL hym
      have hyN : tdep yt ≤ N := Nat.le_trans hyD HdL.out.1
      have hyM : tdep yt ≤ 1000000 := Nat.le_trans hyD HdL.out.2
      cases yt with
      | nil => exact hyT.2.1.elim
      | kid => exact hyT.2.1.elim
      | node bs' v' has' leaf' ks' =>
        have hE2 : Hid (max (max d (tdep (.node bs' v' has' leaf' ks'))) (tdep (ofL (L.drop (i + 1)))) = V) := hE2
        have hg5 : RT w G (.node bs' v' has' leaf' ks') none 0 c' := hg5
        have hdn : Hid (∀ X, Below w.heap.size w X → Calls Try.prog 67 #[.agg c'.toArray] X (belowPost (.int .i64 (tdep (.node bs' v' has' leaf' ks') : Nat)) X)) := fun X hb =>
          HIH.out bs' v' has' leaf' ks' c' hyN (hg5.keep hb.size fun j hj => hb.block j (HG.out j hj)) (fun j hj => Nat.lt_of_lt_of_le (HG.out j hj) hb.size) hyT.2.2 hyM
        obtain ⟨pa', pn', pc', ba', bn', bc', ka', kn', kc', hc', hx'⟩ := hg5
        clear hx'
        subst hc'
        obtain ⟨KD', hKD'⟩ : ∃ x : Int, x = ((rkind leaf' ks' : Nat) : Int) := ⟨_, rfl⟩
        rw [← hKD'] at hdn hg4
        generalize tdep (.node bs' v' has' leaf' ks') = u at *
        subst hg1
        rw [Nat.zero_add] at hg4
        obtain ⟨z, hz⟩ : ∃ z, z = max d u := ⟨_, rfl⟩
        rw [← hz] at hE2
        have hmx : max (d : Int) (u : Int) = (z : Int) := by omega
        have hS : Hid (∀ X, Below w.heap.size w X → X.cell? ⟨g, i * 6, none⟩ = some (.int .i64 KD') ∧ X.cell? ⟨g, i * 6 + 1, none⟩ = some (.slice pa' pn' pc') ∧ X.cell? ⟨g, i * 6 + 2, none⟩ = some (.bool has') ∧ X.cell? ⟨g, i * 6 + 3, none⟩ = some (.int .u64 v') ∧ X.cell? ⟨g, i * 6 + 4, none⟩ = some (.slice ba' bn' bc') ∧ X.cell? ⟨g, i * 6 + 5, none⟩ = some (.slice ka' kn' kc')) := fun X hb => by
          have hgl := HG.out g hg2
          have e : ∀ j, X.cell? ⟨g, j, none⟩ = w.cell? ⟨g, j, none⟩ := fun j => hb.cell (p := ⟨g, j, none⟩) hgl
          exact ⟨by rw [e]; exact hg4 0 (by omega), by rw [e]; exact hg4 1 (by omega), by rw [e]; exact hg4 2 (by omega), by rw [e]; exact hg4 3 (by omega), by rw [e]; exact hg4 4 (by omega), by rw [e]; exact hg4 5 (by omega)⟩
        have hBw := Lib.hid (hB.out.trans (hBr.out.mono hB.out.size))
        obtain ⟨y0, y1, y2, y3, y4, y5⟩ := hS.out wr hBw.out
        have hw9 : IntKind.i64.wrap (((i : Nat) : Int) + 1) = ((i + 1 : Nat) : Int) := by rw [show ((i : Nat) : Int) + 1 = ((i + 1 : Nat) : Int) by omega]; exact IntWalk.i64_in _ (by omega)
        clear hy hiL hg4 hyT hKD' hg3 hym hyD hyN hyM hS hE hz
        go_wp2_with (first
          | (go_at_call 67; refine (hdn.out _ hBw.out).mono ?_; rintro e w7 ⟨rfl, q7⟩
             have B7 := Lib.hid (hBr.out.trans (q7.mono hBr.out.size))
             clear q7))
        go_roundw
        case rel => exact ⟨i + 1, z, rfl, (by first | rfl | go_num), by omega, hE2, B7⟩
        case measure => (simp [intOf]) <;> omega
    · have l1 : ¬ (i : Int) < (m : Int) := by omega
      obtain rfl : i = m := by omega
      have hdV : d = V := by
        have e := hE.out
        rw [hmL.out (), List.drop_length, show tdep (ofL ([] : List (Nat × Tr))) = 0 from rfl] at e
        omega
      have hzz := HZ.out d hdV
      clear hdV
      go_wp2_with fail
      go_ret
      exact ⟨rfl, hB.out.trans (hBr.out.mono hB.out.size)⟩
theorem dp_any : ∀ N, DpAsk N
  | 0 => fun bs v has leaf ks c w G hd => absurd hd (by simp only [tdep]; omega)
  | N + 1 => fun bs v has leaf ks c w G hd hR hG hO hD => dp_in N (dp_any N) bs v has leaf ks c (by simp only [tdep] at hd; omega) hR hG hO hD
end Go.Proofs.Ytgijnjdcpipfiaa
/- The document's numbers: of pairs. -/
namespace Go.Proofs.Ytgijnjdcpipfiaa
open Go.RowKit
set_option maxHeartbeats 4000000 in
set_option maxRecDepth 100000 in
theorem dst_none (w : World) (v : Int) (has : Bool) (pa ba ka : Option Addr) (pc bn bc kn kc : Nat) : Calls Try.prog 66 #[.agg #[.int .i64 0, .slice pa 0 pc, .bool has, .int .u64 v, .slice ba bn bc, .slice ka kn kc]] w (belowPost (stV (docN .nil)) w) := by
  obtain ⟨t0, t1, t2, t3⟩ := three_new w (.cells #[.int .i64 0, .slice pa 0 pc, .bool has, .int .u64 v, .slice ba bn bc, .slice ka kn kc] rnT) (.cells #[.int .i64 0, .int .i64 0, .int .i64 0, .int .i64 0, .int .i64 0, .int .i64 0, .int .i64 0, .int .i64 0, .int .i64 0, .int .i64 0, .int .i64 0] dsT) (.cells #[.int .i64 0, .int .i64 0, .int .i64 0, .int .i64 0, .int .i64 0, .int .i64 0, .int .i64 0, .int .i64 0, .int .i64 0, .int .i64 0, .int .i64 0] dsT)
  have S1 : StIs dsT _ _ ⟨0, 0, 0, 0, 0, 0, 0, 0, 0, 0, 0⟩ := StIs.mk t1
  have S2 : StIs dsT _ _ ⟨0, 0, 0, 0, 0, 0, 0, 0, 0, 0, 0⟩ := StIs.mk t2
  obtain ⟨c0, c1, c2, c3, c4, c5, c6, c7, c8, c9, c10⟩ := S2.all
  obtain ⟨f0, f1, f2, f3, f4, f5, f6, f7, f8, f9, f10⟩ := S1.allF
  have H1 := Lib.hid S1
  have HB := Lib.hid t3
  clear t0 t1 t2 t3 S1 S2
  go_enter Try.func66, Try.ntmps66
  go_wp2_with fail
  have hinf : (Try.prog.info? dsT).map (·.size) = some 11 := by kernel_rfl
  exact bodyPost_ret (v := stV ⟨0, 0, 0, 0, 0, 0, 0, 0, 0, 0, 0⟩) (results_cell_row Try.results66 _ _ (w.heap.size + 1) dsT _ (0, 0) _ rfl H1.out.blk Try.underlying61 rfl hinf) rfl ⟨rfl, HB.out⟩
theorem dp_none (w : World) (v : Int) (has : Bool) (pa ba ka : Option Addr) (pn pc bn bc kn kc : Nat) : Calls Try.prog 67 #[.agg #[.int .i64 0, .slice pa pn pc, .bool has, .int .u64 v, .slice ba bn bc, .slice ka kn kc]] w (belowPost (.int .i64 ((0 : Nat) : Int)) w) := by
  have hA := Lib.hid (below_al w (.cells #[.int .i64 0, .slice pa pn pc, .bool has, .int .u64 v, .slice ba bn bc, .slice ka kn kc] rnT))
  go_enter Try.func67, Try.ntmps67
  go_wp2_with fail
  go_ret
  exact ⟨rfl, hA.out⟩
theorem dst_any : ∀ N, DsAsk N
  | 0 => fun bs v has leaf ks c w G hd => absurd hd (by simp only [tdep]; omega)
  | N + 1 => fun bs v has leaf ks c w G hd hR hG hO hw => by
    cases leaf with
    | true =>
      obtain ⟨e1, e2⟩ := hO.2.2.2.2.1 rfl
      subst e1; subst e2
      obtain ⟨pa, pn, pc, ba, bn, bc, ka, rn, kc, rfl, h2, h3, rfl, h5, h6⟩ := hR
      obtain rfl : bs.length = pn := h2.sl.len
      obtain rfl : bn = 0 := by have := h3.sl.len; simpa [chain] using this.symm
      exact dst_leaf bs v w pa ba ka pc bc kc
    | false =>
      cases has with
      | true => exact dst_true N (dst_any N) bs v ks c (by simp only [tdep] at hd; omega) hR hG hO hw
      | false => exact dst_false N (dst_any N) bs v ks c (by simp only [tdep] at hd; omega) hR hG hO hw
/-- what the law asks of the document's tree -/
theorem doc_tree {w : World} {a : Option Addr} {n c : Nat} {l : PL} {t : Tr} (h : Prs w a n c l) (hs : PSrt l) (hk : ∀ x ∈ l, x.1.length ≤ 65535) (hn : n ≤ 1000000) (hN : t = .nil ∨ IsN t) (hO : TOk t) (hC : Can t) (he : tl t = l) (hw : tw t ≤ 1000000000000000000) (hd : tdep t ≤ 1000000) : Calls Try.prog 65 #[.slice a n c] w fun e w' => ∃ (kd : Int) (pa : Option Addr) (pn pc : Nat) (hs : Bool) (v : Int) (ba : Option Addr) (bn bc : Nat) (ka : Option Addr) (kn kc : Nat),
    e = .returned (.agg #[.int .i64 kd, .slice pa pn pc, .bool hs, .int .u64 v, .slice ba bn bc, .slice ka kn kc]) ∧ Below w.heap.size w w' ∧
    (∀ X, Below w'.heap.size w' X → Calls Try.prog 66 #[.agg #[.int .i64 kd, .slice pa pn pc, .bool hs, .int .u64 v, .slice ba bn bc, .slice ka kn kc]] X (belowPost (stV (docN t)) X)) ∧
    (∀ X, Below w'.heap.size w' X → Calls Try.prog 67 #[.agg #[.int .i64 kd, .slice pa pn pc, .bool hs, .int .u64 v, .slice ba bn bc, .slice ka kn kc]] X (belowPost (.int .i64 ((tdep t : Nat) : Int)) X)) :=
  (doc_build h hs hk hn).mono fun e w' ⟨kd, pa, pn, pc, hs, v, ba, bn, bc, ka, kn, kc, q1, q2, q3⟩ => by
    refine ⟨kd, pa, pn, pc, hs, v, ba, bn, bc, ka, kn, kc, q1, q2, ?_⟩
    rcases q3 with ⟨q3, rfl, rfl, rfl, rfl⟩ | ⟨t', z1, z2, z3, z4, z5⟩
    · have ht : t = .nil := by
        rcases hN with hN | hN
        · exact hN
        · exact absurd (he.trans q3) (tl_ne t hN hO hC)
      subst ht
      exact ⟨fun X _ => dst_none X v false pa ba ka pc bn bc 0 kc, fun X _ => dp_none X v false pa ba ka 0 pc bn bc 0 kc⟩
    · have hN' : IsN t := by
        rcases hN with rfl | hN
        · exact absurd (z4.trans he.symm) (tl_ne t' z1 z2 z3)
        · exact hN
      obtain rfl : t = t' := can_eq hN' z1 hO z2 hC z3 (he.trans z4.symm)
      cases t with
      | nil => exact hN'.elim
      | kid => exact hN'.elim
      | node bs v' has leaf ks =>
        exact ⟨fun X hb => dst_any _ bs v' has leaf ks _ (Nat.le_refl _) (z5.keep hb.size fun j hj => hb.block j hj) (fun j hj => Nat.lt_of_lt_of_le hj hb.size) hO hw,
          fun X hb => dp_any _ bs v' has leaf ks _ (Nat.le_refl _) (z5.keep hb.size fun j hj => hb.block j hj) (fun j hj => Nat.lt_of_lt_of_le hj hb.size) hO hd⟩
end Go.Proofs.Ytgijnjdcpipfiaa
/- The document's numbers: Of. -/
namespace Go.Proofs.Ytgijnjdcpipfiaa
open Go.RowKit
theorem tdep_tw : ∀ t : Tr, tdep t ≤ tw t
  | .nil => Nat.le_refl _
  | .kid _ t r => by have := tdep_tw t; have := tdep_tw r; simp only [tdep, tw]; omega
  | .node _ _ _ _ ks => by have := tdep_tw ks; simp only [tdep, tw]; omega
theorem lng_take {l : PL} {i : Nat} (h : i < l.length) : lng 0 (l.take (i + 1)) = max (lng 0 (l.take i)) ((l.getD i ([], 0)).1.length) := by
  rw [List.take_succ_eq_append_getElem h, lng_app, getD_of_lt h]
  simp [lng]
theorem lng_le {l : PL} {m : Nat} (h : ∀ x ∈ l, x.1.length ≤ m) : lng 0 l ≤ m := by
  induction l with
  | nil => exact Nat.zero_le _
  | cons p r ih =>
    have h1 := h p (by simp)
    have h2 := ih fun x hx => h x (by simp [hx])
    have : lng 0 (p :: r) = max (0 + p.1.length) (lng 0 r) := rfl
    rw [this]; omega
set_option maxHeartbeats 4000000 in
set_option maxRecDepth 100000 in
theorem doc32_of {w : World} {a : Option Addr} {n c : Nat} {l : PL} {t : Tr} (h : Prs w a n c l) (hs : PSrt l) (hk : ∀ x ∈ l, x.1.length ≤ 300) (hn : n ≤ 250) (hN : t = .nil ∨ IsN t) (hO : TOk t) (hC : Can t) (he : tl t = l) :
    Calls Try.prog 33 #[.slice a n c] w (belowPost (stV ⟨n, nlv t, nkd 0 t, nkd 1 t, nkd 2 t, nkd 3 t, nsl t, tdep t, lng 0 l, npt t, (encL t).length⟩) w) := by
  have hln : (tl t).length = n := by rw [he]; exact h.len
  have hl1 := layT_bound hN hO hC (m := 300) (n := 250) (by rw [he]; exact hk) (by omega) (by omega)
  have hw1 := tw_lay t hO
  have hw : tw t ≤ 1000000000000000000 := by omega
  have hd : tdep t ≤ 1000000 := by have := tdep_tw t; omega
  have hBd : Hid (∀ X, Below w.heap.size w X → _) := fun X hb => doc_tree (h.below hb) hs (fun x hx => by have := hk x hx; omega) (by omega) hN hO hC he hw hd
  have hEn : Hid (∀ X, Below w.heap.size w X → _) := fun X hb => doc_encode (h.below hb) hs (fun x hx => by have := hk x hx; omega) (by omega) hN hO hC he (by omega)
  obtain ⟨q1, e1⟩ : ∃ q, q = nlv t := ⟨_, rfl⟩
  obtain ⟨q2, e2⟩ : ∃ q, q = nkd 0 t := ⟨_, rfl⟩
  obtain ⟨q3, e3⟩ : ∃ q, q = nkd 1 t := ⟨_, rfl⟩
  obtain ⟨q4, e4⟩ : ∃ q, q = nkd 2 t := ⟨_, rfl⟩
  obtain ⟨q5, e5⟩ : ∃ q, q = nkd 3 t := ⟨_, rfl⟩
  obtain ⟨q6, e6⟩ : ∃ q, q = nsl t := ⟨_, rfl⟩
  obtain ⟨q9, e9⟩ : ∃ q, q = npt t := ⟨_, rfl⟩
  obtain ⟨D, eD⟩ : ∃ q, q = tdep t := ⟨_, rfl⟩
  obtain ⟨EL, eE⟩ : ∃ q, q = encL t := ⟨_, rfl⟩
  have hdoc : docN t = ⟨0, q1, q2, q3, q4, q5, q6, 0, 0, q9, 0⟩ := by rw [e1, e2, e3, e4, e5, e6, e9]; rfl
  rw [← eE] at hEn
  rw [hdoc, ← eD] at hBd
  rw [← e1, ← e2, ← e3, ← e4, ← e5, ← e6, ← e9, ← eD, ← eE]
  have H := Lib.hid h
  have hl := Lib.hid h.len
  have HK := Lib.hid hk
  have HN := Lib.hid hn
  obtain ⟨LG, hLG⟩ : ∃ q, q = lng 0 l := ⟨_, rfl⟩
  have HLG := Lib.hid (fun (_ : Unit) => hLG)
  rw [← hLG]
  have hA := Lib.hid (below_al w (.cells #[.int .i64 0, .int .i64 0, .int .i64 0, .int .i64 0, .int .i64 0, .int .i64 0, .int .i64 0, .int .i64 0, .int .i64 0, .int .i64 0, .int .i64 0] dsT))
  have hR0 : Hid (StIs dsT (w.alloc (.cells #[.int .i64 0, .int .i64 0, .int .i64 0, .int .i64 0, .int .i64 0, .int .i64 0, .int .i64 0, .int .i64 0, .int .i64 0, .int .i64 0, .int .i64 0] dsT)) w.heap.size (stZ 0)) := ⟨heap_alloc_new _ _⟩
  clear h hs hn hk hN hO hC he hln hl1 hw1 hw hd e1 e2 e3 e4 e5 e6 e9 eD eE hdoc hLG
  go_enter Try.func33, Try.ntmps33
  go_wp2_with (first
    | (have g0 := S5
       go_at_call 68; refine (hEn.out _ B5.out).mono ?_; rintro e w6 ⟨a6, E, c6, rfl, s6, z6⟩
       have hE6 := Lib.hid s6.len
       have S6 := Lib.hid (S5.out.below z6)
       have R6 := Lib.hid (R5.out.below z6)
       have B6 := Lib.hid (B5.out.trans (z6.mono B5.out.size))
       obtain ⟨c0, c1, c2, c3, c4, c5, c6', c7, c8, c9, c10⟩ := S6.out.all
       obtain ⟨f0, f1, f2, f3, f4, f5, f6, f7, f8, f9, f10⟩ := S6.out.allF
       clear s6 z6)
    | (have g0 := S4
       go_at_call 67; refine (HD.out _ BN.out).mono ?_; rintro e w5 ⟨rfl, z5⟩
       have S5 := Lib.hid (S4.out.below z5)
       have R5 := Lib.hid (R4.out.below z5)
       have B5 := Lib.hid (B4.out.trans (z5.mono B4.out.size))
       clear z5)
    | (have g0 := HX2
       go_at_call 66; refine (HNd.out _ HA2.out).mono ?_; rintro e w3 ⟨rfl, z3⟩
       have A4 := below_al w3 (.cells #[.int .i64 0, .int .i64 (q1 : Nat), .int .i64 (q2 : Nat), .int .i64 (q3 : Nat), .int .i64 (q4 : Nat), .int .i64 (q5 : Nat), .int .i64 (q6 : Nat), .int .i64 0, .int .i64 0, .int .i64 (q9 : Nat), .int .i64 0] dsT)
       have S4 := Lib.hid (show StIs dsT (w3.alloc (.cells #[.int .i64 0, .int .i64 (q1 : Nat), .int .i64 (q2 : Nat), .int .i64 (q3 : Nat), .int .i64 (q4 : Nat), .int .i64 (q5 : Nat), .int .i64 (q6 : Nat), .int .i64 0, .int .i64 0, .int .i64 (q9 : Nat), .int .i64 0] dsT)) w3.heap.size ⟨0, q1, q2, q3, q4, q5, q6, 0, 0, q9, 0⟩ from ⟨heap_alloc_new _ _⟩)
       have X4 := Lib.hid ((A4.block _ (Nat.lt_of_lt_of_le (Array.getElem?_eq_some_iff.1 HX2.out).1 z3.size)).trans ((z3.block _ (Array.getElem?_eq_some_iff.1 HX2.out).1).trans HX2.out))
       obtain ⟨y0, y1, y2, y3, y4, y5, _⟩ := six_facts X4.out
       have R4 := Lib.hid ((R2.out.below z3).below A4)
       have hlt3 : w.heap.size < w3.heap.size := (R2.out.below z3).lt
       have hne : w3.heap.size ≠ w.heap.size := (by omega)
       have B3 := B2.out.trans (z3.mono B2.out.size)
       have B4 := Lib.hid (B3.trans (A4.mono B3.size))
       have BN := Lib.hid ((HA2.out.trans (z3.mono HA2.out.size)).trans (A4.mono (HA2.out.trans (z3.mono HA2.out.size)).size))
       clear z3 A4 B3)
    | (go_at_call 65; refine (hBd.out _ hA.out).mono ?_; rintro e w1 ⟨kd, pa, pn, pc, hs, v, ba, bn, bc, ka, kn, kc, rfl, z1, hNd', hDp'⟩
       have A2 := below_al w1 (.cells #[.int .i64 kd, .slice pa pn pc, .bool hs, .int .u64 v, .slice ba bn bc, .slice ka kn kc] rnT)
       have X2 : (w1.alloc (.cells #[.int .i64 kd, .slice pa pn pc, .bool hs, .int .u64 v, .slice ba bn bc, .slice ka kn kc] rnT)).heap[w1.heap.size]? = some (.cells [.int .i64 kd, .slice pa pn pc, .bool hs, .int .u64 v, .slice ba bn bc, .slice ka kn kc].toArray rnT (0, 0)) := six_new w1 _ _ _ _ _ _ rnT
       have HX2 := Lib.hid X2
       obtain ⟨x0, x1, x2, x3, x4, x5, _⟩ := six_facts X2
       have B1 := hA.out.trans (z1.mono hA.out.size)
       have B2 := Lib.hid (B1.trans (A2.mono B1.size))
       have R2 := Lib.hid ((hR0.out.below z1).below A2)
       have HNd := Lib.hid (show ∀ X, Below w1.heap.size w1 X → Calls Try.prog 66 #[.agg #[.int .i64 kd, .slice pa pn pc, .bool hs, .int .u64 v, .slice ba bn bc, .slice ka kn kc]] X (belowPost (.agg #[.int .i64 0, .int .i64 (q1 : Nat), .int .i64 (q2 : Nat), .int .i64 (q3 : Nat), .int .i64 (q4 : Nat), .int .i64 (q5 : Nat), .int .i64 (q6 : Nat), .int .i64 0, .int .i64 0, .int .i64 (q9 : Nat), .int .i64 0]) X) from hNd')
       have HD := Lib.hid hDp'
       have HA2 := Lib.hid A2
       clear z1 A2 X2 B1 hNd' hDp'))
  have S7 := Lib.hid (((S6.out.set (s' := ⟨n, q1, q2, q3, q4, q5, q6, 0, 0, q9, 0⟩) 0 (.int .i64 (n : Nat)) rfl).set (s' := ⟨n, q1, q2, q3, q4, q5, q6, D, 0, q9, 0⟩) 7 (.int .i64 (D : Nat)) rfl).set (s' := ⟨n, q1, q2, q3, q4, q5, q6, D, 0, q9, E⟩) 10 (.int .i64 (E : Nat)) rfl)
  have R7 := Lib.hid (((R6.out.other (p := ⟨w3.heap.size, 0, none⟩) (v := .int .i64 (n : Nat)) hne).other (p := ⟨w3.heap.size, 7, none⟩) (v := .int .i64 (D : Nat)) hne).other (p := ⟨w3.heap.size, 10, none⟩) (v := .int .i64 (E : Nat)) hne)
  have hge : w.heap.size ≤ w3.heap.size := Nat.le_of_lt hlt3
  have B7 := Lib.hid (((B6.out.setCell (p := ⟨w3.heap.size, 0, none⟩) hge (.int .i64 (n : Nat))).setCell (p := ⟨w3.heap.size, 7, none⟩) hge (.int .i64 (D : Nat))).setCell (p := ⟨w3.heap.size, 10, none⟩) hge (.int .i64 (E : Nat)))
  clear c0 c1 c2 c3 c4 c5 c6' c7 c8 c9 c10 f0 f1 f2 f3 f4 f5 f6 f7 f8 f9 f10 y0 y1 y2 y3 y4 y5 x0 x1 x2 x3 x4 x5
  go_loopw [5] (fun v5 wr => ∃ i d : Nat, v5 = .int .i64 (i : Nat) ∧ i ≤ n ∧ Hid (lng 0 (l.take i) = d) ∧ Hid (StIs dsT wr w3.heap.size ⟨n, q1, q2, q3, q4, q5, q6, D, d, q9, E⟩) ∧ Hid (StIs dsT wr w.heap.size (stZ 0)) ∧ Hid (Below w.heap.size w wr)) (fun v5 _ => (n - intOf v5).toNat)
  case atStart => exact ⟨0, 0, rfl, Nat.zero_le _, rfl, S7, R7, B7⟩
  case round =>
    clear S7 R7 B7 S6 R6 B6 S5 R5 B5 S4 R4 B4 R2 B2 X4 BN
    obtain ⟨i, d, rfl, hi, hd, hS, hR, hB⟩ := hrel
    obtain ⟨c0, c1, c2, c3, c4, c5, c6', c7, c8, c9, c10⟩ := hS.out.all
    by_cases hlt : i < n
    · have hlt2 : (i : Int) < (n : Int) := by omega
      have l0 : (0 : Int) ≤ (i : Int) := by omega
      have hlt3 : i < l.length := by rw [hl.out]; exact hlt
      obtain ⟨p, rfl, q⟩ := (H.out.below hB.out).at_ i hlt3
      obtain ⟨a3, n3, c3', k1, k2, k3⟩ := q.cells
      have hl3 := k3.len
      have hk3 := HK.out _ (mem_getD (d := ([], 0)) hlt3)
      obtain ⟨z, hz⟩ : ∃ z, z = max d n3 := ⟨_, rfl⟩
      have hmx : max (d : Int) (n3 : Int) = (z : Int) := by omega
      have hd2 : Hid (lng 0 (l.take (i + 1)) = z) := by show _ = _; rw [lng_take hlt3, hd.out, hl3, hz]
      have hS2 := Lib.hid (hS.out.set (s' := ⟨n, q1, q2, q3, q4, q5, q6, D, z, q9, E⟩) 8 (.int .i64 (z : Nat)) rfl)
      have hR2 := Lib.hid (hR.out.other (p := ⟨w3.heap.size, 8, none⟩) (v := .int .i64 (z : Nat)) hne)
      have hB2 := Lib.hid (hB.out.setCell (p := ⟨w3.heap.size, 8, none⟩) hge (.int .i64 (z : Nat)))
      have ff := hS.out.fz 8
      have hw9 : IntKind.i64.wrap (((i : Nat) : Int) + 1) = ((i + 1 : Nat) : Int) := by rw [show ((i : Nat) : Int) + 1 = ((i + 1 : Nat) : Int) by omega]; exact IntWalk.i64_in _ (by have := HN.out; omega)
      generalize (l.getD i ([], 0)).2 = vv at *
      clear q k3 hl3 hk3 hz hd hR hlt3
      go_wp2_with fail
      go_still_tail 10, (by kernel_rfl)
      change wpList _ _ _ _ _ wr.drew
      go_wp2_with fail
      go_roundw
      case rel => exact ⟨i + 1, z, (by first | rfl | go_num), by omega, hd2, ⟨hS2.out.blk⟩, ⟨hR2.out.blk⟩, hB2.out.drew⟩
      case measure => (simp [intOf]) <;> omega
    · have hlt2 : ¬ (i : Int) < (n : Int) := by omega
      obtain rfl : i = n := by omega
      have hdL : d = LG := by
        have e := hd.out
        rw [List.take_of_length_le (by rw [hl.out]; exact Nat.le_refl _)] at e
        rw [← e, HLG.out ()]
      subst hdL
      obtain ⟨d0, d1, d2, d3, d4, d5, d6, d7, d8, d9, d10⟩ := (show StIs dsT wr w.heap.size ⟨0, 0, 0, 0, 0, 0, 0, 0, 0, 0, 0⟩ from hR.out).all
      obtain ⟨f0, f1, f2, f3, f4, f5, f6, f7, f8, f9, f10⟩ := hR.out.allF
      go_wp2_with fail
      have NF := ((((((((((((show StIs dsT wr w.heap.size ⟨0, 0, 0, 0, 0, 0, 0, 0, 0, 0, 0⟩ from hR.out).set (s' := ⟨i, 0, 0, 0, 0, 0, 0, 0, 0, 0, 0⟩) 0 (.int .i64 (i : Nat)) rfl).set (s' := ⟨i, q1, 0, 0, 0, 0, 0, 0, 0, 0, 0⟩) 1 (.int .i64 (q1 : Nat)) rfl).set (s' := ⟨i, q1, q2, 0, 0, 0, 0, 0, 0, 0, 0⟩) 2 (.int .i64 (q2 : Nat)) rfl).set (s' := ⟨i, q1, q2, q3, 0, 0, 0, 0, 0, 0, 0⟩) 3 (.int .i64 (q3 : Nat)) rfl).set (s' := ⟨i, q1, q2, q3, q4, 0, 0, 0, 0, 0, 0⟩) 4 (.int .i64 (q4 : Nat)) rfl).set (s' := ⟨i, q1, q2, q3, q4, q5, 0, 0, 0, 0, 0⟩) 5 (.int .i64 (q5 : Nat)) rfl).set (s' := ⟨i, q1, q2, q3, q4, q5, q6, 0, 0, 0, 0⟩) 6 (.int .i64 (q6 : Nat)) rfl).set (s' := ⟨i, q1, q2, q3, q4, q5, q6, D, 0, 0, 0⟩) 7 (.int .i64 (D : Nat)) rfl).set (s' := ⟨i, q1, q2, q3, q4, q5, q6, D, d, 0, 0⟩) 8 (.int .i64 (d : Nat)) rfl).set (s' := ⟨i, q1, q2, q3, q4, q5, q6, D, d, q9, 0⟩) 9 (.int .i64 (q9 : Nat)) rfl).set (s' := ⟨i, q1, q2, q3, q4, q5, q6, D, d, q9, E⟩) 10 (.int .i64 (E : Nat)) rfl)
      have BF := (((((((((((hB.out.setCell (p := ⟨w.heap.size, 0, none⟩) (Nat.le_refl _) (.int .i64 (i : Nat))).setCell (p := ⟨w.heap.size, 1, none⟩) (Nat.le_refl _) (.int .i64 (q1 : Nat))).setCell (p := ⟨w.heap.size, 2, none⟩) (Nat.le_refl _) (.int .i64 (q2 : Nat))).setCell (p := ⟨w.heap.size, 3, none⟩) (Nat.le_refl _) (.int .i64 (q3 : Nat))).setCell (p := ⟨w.heap.size, 4, none⟩) (Nat.le_refl _) (.int .i64 (q4 : Nat))).setCell (p := ⟨w.heap.size, 5, none⟩) (Nat.le_refl _) (.int .i64 (q5 : Nat))).setCell (p := ⟨w.heap.size, 6, none⟩) (Nat.le_refl _) (.int .i64 (q6 : Nat))).setCell (p := ⟨w.heap.size, 7, none⟩) (Nat.le_refl _) (.int .i64 (D : Nat))).setCell (p := ⟨w.heap.size, 8, none⟩) (Nat.le_refl _) (.int .i64 (d : Nat))).setCell (p := ⟨w.heap.size, 9, none⟩) (Nat.le_refl _) (.int .i64 (q9 : Nat))).setCell (p := ⟨w.heap.size, 10, none⟩) (Nat.le_refl _) (.int .i64 (E : Nat)))
      have hinf : (Try.prog.info? dsT).map (·.size) = some 11 := by kernel_rfl
      exact bodyPost_ret (v := stV ⟨i, q1, q2, q3, q4, q5, q6, D, d, q9, E⟩) (results_cell_row Try.results33 _ _ w.heap.size dsT _ (0, 0) _ rfl NF.blk Try.underlying61 rfl hinf) rfl ⟨by rw [hE6.out], BF⟩
end Go.Proofs.Ytgijnjdcpipfiaa
/- An array of four numbers, held against itself. -/
namespace Go.Proofs.Ytgijnjdcpipfiaa
open Go.RowKit
theorem intInfo : ∃ j, Try.prog.info? 3 = some j := Option.isSome_iff_exists.1 (by kernel_rfl)
theorem eq4_same (x0 x1 x2 x3 : Int) (d : Nat) (w : World) : (Op.equalIn (d + 2) 56 (.agg #[.int .i64 x0, .int .i64 x1, .int .i64 x2, .int .i64 x3]) (.agg #[.int .i64 x0, .int .i64 x1, .int .i64 x2, .int .i64 x3])).run Try.prog w = .ok true w := by
  obtain ⟨j, hj⟩ := intInfo
  rw [run_equalIn_array (P := Try.prog) w (d + 1) (n := 4) (e := 3) _ _ (by kernel_rfl) hj, show Try.prog.cellsOf 3 = 1 by kernel_rfl, show List.range 4 = [0, 1, 2, 3] from rfl]
  have p0 : (part 3 #[.int .i64 x0, .int .i64 x1, .int .i64 x2, .int .i64 x3] (0 * 1)).run Try.prog w = .ok (.int .i64 x0) w := by kernel_rfl
  have p1 : (part 3 #[.int .i64 x0, .int .i64 x1, .int .i64 x2, .int .i64 x3] (1 * 1)).run Try.prog w = .ok (.int .i64 x1) w := by kernel_rfl
  have p2 : (part 3 #[.int .i64 x0, .int .i64 x1, .int .i64 x2, .int .i64 x3] (2 * 1)).run Try.prog w = .ok (.int .i64 x2) w := by kernel_rfl
  have p3 : (part 3 #[.int .i64 x0, .int .i64 x1, .int .i64 x2, .int .i64 x3] (3 * 1)).run Try.prog w = .ok (.int .i64 x3) w := by kernel_rfl
  have hu : Try.prog.underlying 3 = some (.int .i64) := by kernel_rfl
  simp only [Op.eqItems, Sem.run_bind, p0, p1, p2, p3, Result.andThen_ok, run_equalIn_int w d 3 .i64 .i64 _ _ hu, beq_self_eq_true, Bool.not_true, Bool.false_eq_true, if_false, Sem.run_pure]
end Go.Proofs.Ytgijnjdcpipfiaa
/- The law StatsAre. -/
namespace Go.Proofs.Ytgijnjdcpipfiaa
open Go.RowKit
/-- what the law asks behind the tree, in every later world -/
structure StatS (w : World) (v a : Option Addr) (n c : Nat) (s : StN) : Prop where
  of : ∀ X, Below w.heap.size w X → Calls Try.prog 31 #[.pointer v] X (belowPost (stV s) X)
  doc : ∀ X, Below w.heap.size w X → Calls Try.prog 33 #[.slice a n c] X (belowPost (stV s) X)
  le : s.le 1000000000000000000
theorem stats_of {w0 w : World} {Q : List NP} {t : Tr} {v a : Option Addr} {n c : Nat} {l : PL} (hQ : StoreP NoB w0 w Q) (hT : TreeV Q t (.pointer v)) (hO : TOk t) (hC : Can t) (he : tl t = l) (hP : Prs w a n c l) (hs : PSrt l) (hn : n ≤ 250) (hl : ∀ x ∈ l, x.1.length ≤ 300) : ∃ s, StatS w v a n c s := by
  have hln : (tl t).length = n := by rw [he]; exact hP.len
  have hnz := treeV_nz hT
  have hk : ∀ p ∈ tl t, p.1.length ≤ 300 := by rw [he]; exact hl
  have hw : tw t ≤ 1000000000000000000 := tw_bound hnz hO hC hk (by omega) (n := 250) (by omega) (by omega)
  obtain ⟨z, hz, k0, k1, k2, k3, k4, k5, k6, k7, k8, k9, k10⟩ := stAdd_all hO hnz (encL t).length
  have hle := stAdd_le t (way := 0) (deep := 0) (M := 0) (s := stZ (encL t).length) ⟨Nat.le_refl _, Nat.le_refl _, Nat.le_refl _, Nat.le_refl _, Nat.le_refl _, Nat.le_refl _, Nat.le_refl _, Nat.le_refl _, Nat.le_refl _, Nat.le_refl _⟩ (Nat.le_refl _)
  have hz : stAdd t 0 0 (stZ (encL t).length) = z := hz
  rw [hz] at hle
  refine ⟨z, fun X hb => ?_, fun X hb => ?_, hle.mono (by omega)⟩
  · have := of_can (hQ.below hb) hT hO hC hk (by omega)
    rw [hz] at this; exact this
  · have := doc32_of (hP.below hb) hs hl hn hnz hO hC he
    have e : z = ⟨n, nlv t, nkd 0 t, nkd 1 t, nkd 2 t, nkd 3 t, nsl t, tdep t, lng 0 l, npt t, (encL t).length⟩ := by
      obtain ⟨b0, b1, b2, b3, b4, b5, b6, b7, b8, b9, b10⟩ := z
      rw [he] at k8
      simp only at k0 k1 k2 k3 k4 k5 k6 k7 k8 k9 k10
      rw [k0, k1, k2, k3, k4, k5, k6, k7, k8, k9, k10, hln]
    rw [e]; exact this
theorem sort_stats {w : World} {a : Option Addr} {n c : Nat} {l : PL} (h : Prs w a n c l) (hn : n ≤ 250) (hk : ∀ x ∈ l, x.1.length ≤ 300) : Calls Try.prog 30 #[.slice a n c] w fun e w1 => ∃ a1 m c1, e = .returned (.slice a1 m c1) ∧ Below w.heap.size w w1 ∧ Calls Try.prog 32 #[.slice a1 m c1, .int .u64 1] w1 fun e w2 => ∃ v, e = .returned (.pointer v) ∧ Below w1.heap.size w1 w2 ∧ ∃ s, StatS w2 v a1 m c1 s := by
  refine (ref_sort w a n c l h (by omega)).mono ?_
  rintro e w1 ⟨v, l0, rfl, hP, hS⟩
  obtain ⟨a1, c1, rfl, hp⟩ := hP.prs
  have hl : l0.length ≤ n := by have := hS.len; rw [h.len] at this; exact this
  have hsh := hS.short hk
  refine ⟨a1, l0.length, c1, rfl, hP.below_, (law_tree32 w1 a1 l0.length c1 l0 hp (by omega) hS.srt (fun x hx => by have := hsh x hx; omega)).mono fun e w2 ⟨t, v, Q, q1, q2, q3, q4, q5, q6⟩ => ⟨v, q1, q2.below_, stats_of q2 q3 q4 q5 q6 (hp.below q2.below_) hS.srt (by omega) hsh⟩⟩
set_option maxHeartbeats 4000000 in
set_option maxRecDepth 100000 in
theorem StatsAre_any (w : World) (a : Option Addr) (n c : Nat) (l : PL) (h : Prs w a n c l) : Calls Try.prog 5 #[.slice a n c] w (truePost w) := by
  have hF := Lib.hid (far_32 w a n c l h 250 (by omega))
  have hal := Lib.hid (fun w => alive32 w)
  cases hb : (decide (250 < n) || farL 300 l) with
  | true =>
    rw [hb] at hF
    clear h hb
    go_enter Try.func5, Try.ntmps5
    go_wp2_with (first
      | (go_at_call 28; refine hF.out.mono ?_; rintro e w1 ⟨rfl, z1⟩; have B1 := Lib.hid z1; clear z1)
      | (go_at_call 29; refine (hal.out _).mono ?_; rintro e w2 ⟨rfl, z1⟩; have B2 := Lib.hid (B1.out.trans (z1.mono B1.out.size)); clear z1))
    go_ret
    exact ⟨rfl, B2.out⟩
  | false =>
    obtain ⟨h1, h3⟩ := far_m hb
    rw [hb] at hF
    have hso := Lib.hid (fun w1 (b1 : Below w.heap.size w w1) => sort_stats (h.below b1) h1 h3)
    clear h hb h3
    go_enter Try.func5, Try.ntmps5
    go_upto_region 4 with (first
      | (go_at_call 30; refine (hso.out _ B1.out).mono ?_; rintro e w2 ⟨a2, m, c2, rfl, z4, z5⟩; have B2 := Lib.hid (B1.out.trans (z4.mono B1.out.size)); have hT := Lib.hid z5; clear z4 z5)
      | (go_at_call 28; refine hF.out.mono ?_; rintro e w1 ⟨rfl, z1⟩; have B1 := Lib.hid z1; clear z1))
    go_cut [3, 4] from 5 (fun s3 s4 w' => ∃ (a0 a1 a2 a3 a4 a5 a6 a7 a8 a9 a10 GA GB : Nat), s3 = .pointer (some ⟨GA, 0, none⟩) ∧ s4 = .pointer (some ⟨GB, 0, none⟩) ∧ Hid ((⟨a0, a1, a2, a3, a4, a5, a6, a7, a8, a9, a10⟩ : StN).le 1000000000000000000) ∧ Hid (StIs stT w' GA ⟨a0, a1, a2, a3, a4, a5, a6, a7, a8, a9, a10⟩) ∧ Hid (StIs dsT w' GB ⟨a0, a1, a2, a3, a4, a5, a6, a7, a8, a9, a10⟩) ∧ Hid (Below w.heap.size w w'))
    case first =>
      go_wp2_with (first
        | (have g0 := B4
           go_at_call 33; refine (hXd.out _ B4.out).mono ?_; rintro e w5 ⟨rfl, z5⟩
           have B5 := Lib.hid (B4.out.trans (z5.mono B4.out.size))
           clear z5)
        | (have g0 := BX
           go_at_call 31; refine (hXo.out w3 (Below.refl _ _)).mono ?_; rintro e w4 ⟨rfl, z4⟩
           have B4 := Lib.hid z4
           clear z4)
        | (go_at_call 32; refine hT.out.mono ?_; rintro e w3 ⟨at_, rfl, z1, s, z2⟩
           have BX := Lib.hid (B2.out.trans (z1.mono B2.out.size))
           obtain ⟨a0, a1, a2', a3, a4, a5, a6, a7, a8, a9, a10⟩ := s
           have hle := Lib.hid z2.le
           have hXo : Hid (∀ X, Below w3.heap.size w3 X → Calls Try.prog 31 #[.pointer at_] X (belowPost (.agg #[.int .i64 (a0 : Nat), .int .i64 (a1 : Nat), .int .i64 (a2' : Nat), .int .i64 (a3 : Nat), .int .i64 (a4 : Nat), .int .i64 (a5 : Nat), .int .i64 (a6 : Nat), .int .i64 (a7 : Nat), .int .i64 (a8 : Nat), .int .i64 (a9 : Nat), .int .i64 (a10 : Nat)]) X)) := fun X hb => z2.of X hb
           have hXd : Hid (∀ X, Below w3.heap.size w3 X → Calls Try.prog 33 #[.slice a2 m c2] X (belowPost (.agg #[.int .i64 (a0 : Nat), .int .i64 (a1 : Nat), .int .i64 (a2' : Nat), .int .i64 (a3 : Nat), .int .i64 (a4 : Nat), .int .i64 (a5 : Nat), .int .i64 (a6 : Nat), .int .i64 (a7 : Nat), .int .i64 (a8 : Nat), .int .i64 (a9 : Nat), .int .i64 (a10 : Nat)]) X)) := fun X hb => z2.doc X hb
           clear z1 z2 hT))
      go_meet
      case rel =>
        have hA := below_al w5 (.cells #[.int .i64 (a0 : Nat), .int .i64 (a1 : Nat), .int .i64 (a2' : Nat), .int .i64 (a3 : Nat), .int .i64 (a4 : Nat), .int .i64 (a5 : Nat), .int .i64 (a6 : Nat), .int .i64 (a7 : Nat), .int .i64 (a8 : Nat), .int .i64 (a9 : Nat), .int .i64 (a10 : Nat)] stT)
        have hA2 := hA.alloc hA.size (.cells #[.int .i64 (a0 : Nat), .int .i64 (a1 : Nat), .int .i64 (a2' : Nat), .int .i64 (a3 : Nat), .int .i64 (a4 : Nat), .int .i64 (a5 : Nat), .int .i64 (a6 : Nat), .int .i64 (a7 : Nat), .int .i64 (a8 : Nat), .int .i64 (a9 : Nat), .int .i64 (a10 : Nat)] dsT)
        have B6 := B5.out.trans (hA2.mono B5.out.size)
        refine ⟨a0, a1, a2', a3, a4, a5, a6, a7, a8, a9, a10, _, _, rfl, rfl, hle.out, ⟨?_⟩, ⟨?_⟩, BX.out.trans (B6.mono BX.out.size)⟩
        · exact (below_al (w5.alloc _) _).block w5.heap.size (by rw [World.size_alloc]; omega) |>.trans (heap_alloc_new _ _)
        · have := heap_alloc_new (w5.alloc (.cells #[.int .i64 (a0 : Nat), .int .i64 (a1 : Nat), .int .i64 (a2' : Nat), .int .i64 (a3 : Nat), .int .i64 (a4 : Nat), .int .i64 (a5 : Nat), .int .i64 (a6 : Nat), .int .i64 (a7 : Nat), .int .i64 (a8 : Nat), .int .i64 (a9 : Nat), .int .i64 (a10 : Nat)] stT)) (.cells #[.int .i64 (a0 : Nat), .int .i64 (a1 : Nat), .int .i64 (a2' : Nat), .int .i64 (a3 : Nat), .int .i64 (a4 : Nat), .int .i64 (a5 : Nat), .int .i64 (a6 : Nat), .int .i64 (a7 : Nat), .int .i64 (a8 : Nat), .int .i64 (a9 : Nat), .int .i64 (a10 : Nat)] dsT)
          rw [World.size_alloc] at this
          exact this
    case rest =>
      obtain ⟨a0, a1, a2, a3, a4, a5, a6, a7, a8, a9, a10, GA, GB, rfl, rfl, hle, hA, hB, hW⟩ := hcut
      clear hso hF
      obtain ⟨z1, e1⟩ : ∃ z, z = a2 + a3 := ⟨_, rfl⟩
      obtain ⟨z2, e2⟩ : ∃ z, z = z1 + a4 := ⟨_, rfl⟩
      obtain ⟨z3, e3⟩ : ∃ z, z = z2 + a5 := ⟨_, rfl⟩
      obtain ⟨z4, e4⟩ : ∃ z, z = z3 + a1 := ⟨_, rfl⟩
      have l1 : a1 ≤ 1000000000000000000 := hle.out.leaves
      have l2 : a2 ≤ 1000000000000000000 := hle.out.k0
      have l3 : a3 ≤ 1000000000000000000 := hle.out.k1
      have l4 : a4 ≤ 1000000000000000000 := hle.out.k2
      have l5 : a5 ≤ 1000000000000000000 := hle.out.k3
      have u1 : IntKind.i64.wrap ((a2 : Int) + (a3 : Nat)) = (z1 : Int) := by rw [show (a2 : Int) + (a3 : Nat) = ((z1 : Nat) : Int) by omega]; exact IntWalk.i64_in _ (by omega)
      have u2 : IntKind.i64.wrap ((z1 : Int) + (a4 : Nat)) = (z2 : Int) := by rw [show (z1 : Int) + (a4 : Nat) = ((z2 : Nat) : Int) by omega]; exact IntWalk.i64_in _ (by omega)
      have u3 : IntKind.i64.wrap ((z2 : Int) + (a5 : Nat)) = (z3 : Int) := by rw [show (z2 : Int) + (a5 : Nat) = ((z3 : Nat) : Int) by omega]; exact IntWalk.i64_in _ (by omega)
      have u4 : IntKind.i64.wrap ((z3 : Int) + (a1 : Nat)) = (z4 : Int) := by rw [show (z3 : Int) + (a1 : Nat) = ((z4 : Nat) : Int) by omega]; exact IntWalk.i64_in _ (by omega)
      have hI : Hid (∀ X, Calls Try.prog 34 #[.agg #[.int .i64 (a0 : Nat), .int .i64 (a1 : Nat), .int .i64 (a2 : Nat), .int .i64 (a3 : Nat), .int .i64 (a4 : Nat), .int .i64 (a5 : Nat), .int .i64 (a6 : Nat), .int .i64 (a7 : Nat), .int .i64 (a8 : Nat), .int .i64 (a9 : Nat), .int .i64 (a10 : Nat)]] X (belowPost (.int .i64 (z3 : Nat)) X)) := fun X => by
        rw [show z3 = a2 + a3 + a4 + a5 by omega]; exact st_innerC X a0 a1 a2 a3 a4 a5 a6 a7 a8 a9 a10 l2 l3 l4 l5
      have hN : Hid (∀ X, Calls Try.prog 35 #[.agg #[.int .i64 (a0 : Nat), .int .i64 (a1 : Nat), .int .i64 (a2 : Nat), .int .i64 (a3 : Nat), .int .i64 (a4 : Nat), .int .i64 (a5 : Nat), .int .i64 (a6 : Nat), .int .i64 (a7 : Nat), .int .i64 (a8 : Nat), .int .i64 (a9 : Nat), .int .i64 (a10 : Nat)]] X (belowPost (.int .i64 (z4 : Nat)) X)) := fun X => by
        rw [show z4 = a2 + a3 + a4 + a5 + a1 by omega]; exact st_nodesC X a0 a1 a2 a3 a4 a5 a6 a7 a8 a9 a10 l1 l2 l3 l4 l5
      have hEq2 : ∀ w, (Op.equalIn 9999 56 (.agg #[.int .i64 (a2 : Nat), .int .i64 (a3 : Nat), .int .i64 (a4 : Nat), .int .i64 (a5 : Nat)]) (.agg #[.int .i64 (a2 : Nat), .int .i64 (a3 : Nat), .int .i64 (a4 : Nat), .int .i64 (a5 : Nat)])).run Try.prog w = .ok true w := fun w => eq4_same a2 a3 a4 a5 9997 w
      have hall : Hid (∀ X, Below wc.heap.size wc X → X.cell? ⟨GA, 0, none⟩ = some (.int .i64 (a0 : Nat)) ∧ X.cell? ⟨GA, 1, none⟩ = some (.int .i64 (a1 : Nat)) ∧ X.cell? ⟨GA, 2, none⟩ = some (.int .i64 (a2 : Nat)) ∧ X.cell? ⟨GA, 3, none⟩ = some (.int .i64 (a3 : Nat)) ∧ X.cell? ⟨GA, 4, none⟩ = some (.int .i64 (a4 : Nat)) ∧ X.cell? ⟨GA, 5, none⟩ = some (.int .i64 (a5 : Nat)) ∧ X.cell? ⟨GA, 6, none⟩ = some (.int .i64 (a6 : Nat)) ∧ X.cell? ⟨GA, 7, none⟩ = some (.int .i64 (a7 : Nat)) ∧ X.cell? ⟨GA, 8, none⟩ = some (.int .i64 (a8 : Nat)) ∧ X.cell? ⟨GA, 9, none⟩ = some (.int .i64 (a9 : Nat)) ∧ X.cell? ⟨GA, 10, none⟩ = some (.int .i64 (a10 : Nat)) ∧ X.cell? ⟨GB, 0, none⟩ = some (.int .i64 (a0 : Nat)) ∧ X.cell? ⟨GB, 1, none⟩ = some (.int .i64 (a1 : Nat)) ∧ X.cell? ⟨GB, 2, none⟩ = some (.int .i64 (a2 : Nat)) ∧ X.cell? ⟨GB, 3, none⟩ = some (.int .i64 (a3 : Nat)) ∧ X.cell? ⟨GB, 4, none⟩ = some (.int .i64 (a4 : Nat)) ∧ X.cell? ⟨GB, 5, none⟩ = some (.int .i64 (a5 : Nat)) ∧ X.cell? ⟨GB, 6, none⟩ = some (.int .i64 (a6 : Nat)) ∧ X.cell? ⟨GB, 7, none⟩ = some (.int .i64 (a7 : Nat)) ∧ X.cell? ⟨GB, 8, none⟩ = some (.int .i64 (a8 : Nat)) ∧ X.cell? ⟨GB, 9, none⟩ = some (.int .i64 (a9 : Nat)) ∧ X.cell? ⟨GB, 10, none⟩ = some (.int .i64 (a10 : Nat))) := fun X hb => by
        obtain ⟨c0, c1, c2, c3, c4, c5, c6, c7, c8, c9, c10⟩ := (hA.out.below hb).all
        obtain ⟨d0, d1, d2, d3, d4, d5, d6, d7, d8, d9, d10⟩ := (hB.out.below hb).all
        exact ⟨c0, c1, c2, c3, c4, c5, c6, c7, c8, c9, c10, d0, d1, d2, d3, d4, d5, d6, d7, d8, d9, d10⟩
      have hB0 : Hid (Below wc.heap.size wc wc) := Below.refl _ _
      clear e1 e2 e3 e4 l1 l2 l3 l4 l5 hle
      obtain ⟨c0, c1, c2, c3, c4, c5, c6, c7, c8, c9, c10, d0, d1, d2, d3, d4, d5, d6, d7, d8, d9, d10⟩ := hall.out wc (Below.refl _ _)
      go_wp2_with fail
      go_region_held3 (fun w' => w'.cell? ⟨GA, 0, none⟩ = some (.int .i64 (a0 : Nat)) ∧ w'.cell? ⟨GA, 1, none⟩ = some (.int .i64 (a1 : Nat)) ∧ w'.cell? ⟨GA, 2, none⟩ = some (.int .i64 (a2 : Nat)) ∧ w'.cell? ⟨GA, 3, none⟩ = some (.int .i64 (a3 : Nat)) ∧ w'.cell? ⟨GA, 4, none⟩ = some (.int .i64 (a4 : Nat)) ∧ w'.cell? ⟨GA, 5, none⟩ = some (.int .i64 (a5 : Nat)) ∧ w'.cell? ⟨GA, 6, none⟩ = some (.int .i64 (a6 : Nat)) ∧ w'.cell? ⟨GA, 7, none⟩ = some (.int .i64 (a7 : Nat)) ∧ w'.cell? ⟨GA, 8, none⟩ = some (.int .i64 (a8 : Nat)) ∧ w'.cell? ⟨GA, 9, none⟩ = some (.int .i64 (a9 : Nat)) ∧ w'.cell? ⟨GA, 10, none⟩ = some (.int .i64 (a10 : Nat)) ∧ w'.cell? ⟨GB, 0, none⟩ = some (.int .i64 (a0 : Nat)) ∧ w'.cell? ⟨GB, 1, none⟩ = some (.int .i64 (a1 : Nat)) ∧ w'.cell? ⟨GB, 2, none⟩ = some (.int .i64 (a2 : Nat)) ∧ w'.cell? ⟨GB, 3, none⟩ = some (.int .i64 (a3 : Nat)) ∧ w'.cell? ⟨GB, 4, none⟩ = some (.int .i64 (a4 : Nat)) ∧ w'.cell? ⟨GB, 5, none⟩ = some (.int .i64 (a5 : Nat)) ∧ w'.cell? ⟨GB, 6, none⟩ = some (.int .i64 (a6 : Nat)) ∧ w'.cell? ⟨GB, 7, none⟩ = some (.int .i64 (a7 : Nat)) ∧ w'.cell? ⟨GB, 8, none⟩ = some (.int .i64 (a8 : Nat)) ∧ w'.cell? ⟨GB, 9, none⟩ = some (.int .i64 (a9 : Nat)) ∧ w'.cell? ⟨GB, 10, none⟩ = some (.int .i64 (a10 : Nat)))
        (first | exact hall.out _ B9.out | exact hall.out _ B8.out | exact hall.out _ B7.out | exact hall.out _ B6.out | exact hall.out _ hB0.out.drew)
        (first
          | (have g0 := B8; go_at_call 29; refine (hal.out _).mono ?_; rintro e w9 ⟨rfl, z9⟩; have B9 := Lib.hid (B8.out.trans (z9.mono B8.out.size)); clear z9)
          | (have g0 := B7; go_at_call 34; refine (hI.out _).mono ?_; rintro e w8 ⟨rfl, z8⟩; have B8 := Lib.hid (B7.out.trans (z8.mono B7.out.size)); clear z8)
          | (have g0 := B6; go_at_call 35; refine (hN.out _).mono ?_; rintro e w7 ⟨rfl, z7⟩; have B7 := Lib.hid (B6.out.trans (z7.mono B6.out.size)); clear z7)
          | (go_at_call 34; refine (hI.out _).mono ?_; rintro e w6 ⟨rfl, z6⟩; have B6 := Lib.hid (hB0.out.drew.trans (z6.mono hB0.out.drew.size)); clear z6))
      all_goals
        (try simp only [Exit.then, Exit.inBlock])
        go_wp2_with fail
        go_ret
        exact ⟨rfl, hW.out.trans (B9.out.mono hW.out.size)⟩
end Go.Proofs.Ytgijnjdcpipfiaa
