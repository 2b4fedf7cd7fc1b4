/- The document's build, walked whole; The document's Build; The document's Steps. -/
import Derived.Test.YtkonbldjmcccmaaJ6
import Derived.Deep.CutBlock
import Derived.Deep.RegionLaw
import Derived.StillTailTactics
import Derived.Deep.RegionHeld3
set_option linter.unusedVariables false
set_option linter.unusedSimpArgs false
/- The document's build, walked whole. -/
namespace Go.Proofs.Ytkonbldjmcccmaa
open Go.RowKit
set_option maxHeartbeats 8000000 in
set_option maxRecDepth 100000 in
theorem bld_many {w0 : World} (N : Nat) (hNm : N ≤ 999999) (IH : BuildAsk w0 N) (l : PL) (pfx : List Nat) (a : Option Addr) (n c : Nat) (w : World) (hN : l.length ≤ N + 1) (h2 : 2 ≤ l.length) (h : Prs w0 a n c (pre pfx l)) (hs : PSrt l) (hk : ∀ x ∈ pre pfx l, x.1.length ≤ 65535) (hb0 : Below w0.heap.size w0 w) :
    Calls Try.prog 109 #[.slice a n c, .int .i64 (pfx.length : Nat)] w (bldPost w0 l w) := by
  have hn : l.length = n := by have := h.len; rwa [pre_length] at this
  obtain ⟨bs, l2, hS, hbl, hbt⟩ := start_of hs h2
  have hnm : n ≤ 1000000 := by omega
  have hB1 : Below w0.heap.size w0 (rnW w) := hb0.alloc hb0.size _
  have HP := h
  obtain ⟨p, af, nf, cf, rfl, q1, q2, q3⟩ := prs_first HP (by omega)
  rw [pre_getD _ (by omega)] at q3 q2
  simp only at q3 q2
  obtain ⟨fk, hfk⟩ : ∃ fk, fk = (l.getD 0 ([], 0)).1 := ⟨_, rfl⟩
  obtain ⟨fv, hfv⟩ : ∃ fv, fv = (l.getD 0 ([], 0)).2 := ⟨_, rfl⟩
  have hfm : (pfx ++ fk, fv) ∈ pre pfx l := by
    have := mem_getD (l := pre pfx l) (i := 0) (d := ([], 0)) (by rw [pre_length]; omega)
    rwa [pre_getD _ (by omega), ← hfk, ← hfv] at this
  have hnf := q3.len
  have hfk16 := hk _ hfm
  have hvv := HP.val _ hfm
  rw [← hfk] at q3 hnf hbl hbt
  rw [← hfv] at q2
  rw [hn] at hbl
  simp only at hfk16 hvv
  rw [List.length_append] at hnf hfk16
  have hbf : bs.length ≤ fk.length := by rw [hbl]; exact (lcp_le _ _).1
  obtain ⟨at_, hat⟩ : ∃ m, m = pfx.length := ⟨_, rfl⟩
  obtain ⟨en, hen⟩ : ∃ m, m = pfx.length + bs.length := ⟨_, rfl⟩
  have hcf := q3.cap
  have hsh : Hid (Calls Try.prog 169 #[.slice (some p) n c] (rnW w) fun e w' => e = .returned (.int .i64 (en : Nat)) ∧ ∃ k, w' = (rnW w).drewN k) :=
    (ref_shared (h.below hB1) (psrt_pre.2 hs) (by omega) hnm hk).mono fun e w' ⟨e1, e2⟩ => ⟨by
      rw [e1, pre_getD _ (by omega), pre_getD _ (by omega), lcp_pre, hen, hbl, hfk], e2⟩
  have hcutk : ∀ w, (Instr.slice 27 (.slice af nf cf) (some (.int .i64 (at_ : Nat))) (some (.int .i64 (en : Nat))) none).run Try.prog w = .ok (.slice (cutA af cf at_ 1) (en - at_) (cf - at_)) w := fun w => run_cut8 w af nf cf at_ en (by omega) (by omega)
  have hsb := q3.cut (lo := at_) (hi := en) (by omega) (by omega)
  have ebs : ((pfx ++ fk).take en).drop at_ = bs := by
    rw [hen, hat, List.take_append, List.take_of_length_le (by omega), Nat.add_sub_cancel_left, List.drop_left, ← hbt]
  rw [ebs] at hsb
  have hpre : pre pfx l = pre (pfx ++ bs) l2 := by rw [hS.eq, pre_pre]
  have HPb : Hid (Prs w0 (some p) n c (pre (pfx ++ bs) l2)) := by rw [← hpre]; exact h
  have hbb : Hid (∀ x ∈ bs, x < 256) := hsb.at_.1
  have hq : Hid ((pfx ++ bs).length = en) := by show _ = _; rw [List.length_append, hen]
  have i0 : (0 : Int) ≤ (at_ : Int) := by omega
  have i1 : (at_ : Int) ≤ (en : Int) := by omega
  have i2 : (en : Int) ≤ (cf : Int) := by omega
  have i3 : (en : Int) ≤ (nf : Int) := by omega
  have i4 : ((n : Int) == 0) = false := by rw [beq_eq_false_iff_ne]; omega
  have i5 : ((n : Int) == 1) = false := by rw [beq_eq_false_iff_ne]; omega
  have i6 : (0 : Int) < (n : Int) := by omega
  have i6n : 0 < n := by omega
  have HS := Lib.hid hS
  have Hvv := Lib.hid hvv
  have Hhs := Lib.hid hs
  have Hk2 : Hid (∀ x ∈ pre (pfx ++ bs) l2, x.1.length ≤ 65535) := by rw [← hpre]; exact hk
  have Hn2 : Hid (l2.length = n ∧ n ≤ N + 1) := by
    show _ ∧ _
    have := congrArg List.length hS.eq
    rw [pre_length] at this
    omega
  have Hfk : Hid (fk = bs ++ (l2.getD 0 ([], 0)).1 ∧ fv = (l2.getD 0 ([], 0)).2) := by
    show _ ∧ _
    have h3 := hS.two
    have h4 := pre_getD bs (r := l2) (i := 0) (by omega)
    rw [← hS.eq] at h4
    exact ⟨by rw [hfk, h4], by rw [hfv, h4]⟩
  have hnfe : Hid (nf = pfx.length + fk.length ∧ en = pfx.length + bs.length) := ⟨hnf.symm, hen⟩
  have hen16 : en ≤ 65535 := by omega
  have hrb := six_new w (.int .i64 0) (.slice none 0 0) (.bool false) (.int .u64 0) (.slice none 0 0) (.slice none 0 0) rnT
  have HSB := Lib.hid hsb
  have HB0 := Lib.hid hb0
  have HB1 := Lib.hid hB1
  have hKx : Hid (∀ wr, Below w0.heap.size w0 wr → wr.cell? p = some (.slice af nf cf) ∧ wr.cell? ⟨p.block, p.off + 1, none⟩ = some (.int .u64 fv)) := fun wr hw =>
    ⟨(hw.cell (cell_lt q1)).trans q1, (hw.cell (p := ⟨p.block, p.off + 1, none⟩) (cell_lt q2)).trans q2⟩
  have hwsz : Hid ((rnW w).heap.size = w.heap.size + 1) := World.size_alloc _ _
  have HW1 : Hid (Below w.heap.size w (rnW w)) := (Below.refl _ w).alloc (Nat.le_refl _) _
  have hRB : Hid ((rnW w).heap[w.heap.size]? = some (.cells [.int .i64 0, .slice none 0 0, .bool false, .int .u64 0, .slice none 0 0, .slice none 0 0].toArray rnT (0, 0))) := hrb
  have HPL : Hid (p.block < w0.heap.size) := cell_lt q1
  rw [← hat]
  clear hbt hbl hn h2 hN h hs hk q3 hfm hfk hfv hnf hfk16 hvv hbf hat hen hcf hsb ebs hpre hS HP q1 q2 hb0 hB1 hrb
  generalize cutA af cf at_ 1 = ab at *
  generalize en - at_ = pn at *
  generalize cf - at_ = pc at *
  go_enter Try.func109, Try.ntmps109
  go_upto_region 5 with (fail)
  change Code.wp _ _ _ _ (rnW w)
  generalize hw1 : rnW w = w1 at *
  obtain ⟨k0, k1⟩ := hKx.out w1 HB1.out
  go_upto_if 43 with (go_at_call 169; refine hsh.out.mono ?_; rintro e w2 ⟨rfl, nk, hw2⟩; have HW2 := Lib.hid (show Below w1.heap.size w1 w2 by rw [hw2]; exact below_drewN (Below.refl _ _) nk); clear hw2; have HBW := Lib.hid (HB1.out.trans (HW2.out.mono HB1.out.size)); obtain ⟨k0, k1⟩ := hKx.out w2 HBW.out; have kA : ∀ o, (w2.alloc o).cell? p = some (.slice af nf cf) := fun o => (hKx.out _ (HBW.out.alloc HBW.out.size o)).1)
  change Code.wp _ _ _ _ (w2.alloc (.cells #[.int .i64 0, .slice ab pn pc, .bool false, .int .u64 0, .slice none 0 0, .slice none 0 0] rnT))
  have hV0 := VB.start (w0 := w0) HW2.out (.slice ab pn pc)
  have hk3 := Lib.hid (hKx.out (w2.alloc (.cells #[.int .i64 0, .slice ab pn pc, .bool false, .int .u64 0, .slice none 0 0, .slice none 0 0] rnT)) (HB1.out.trans (hV0.since.mono HB1.out.size)))
  generalize w2.alloc (.cells #[.int .i64 0, .slice ab pn pc, .bool false, .int .u64 0, .slice none 0 0, .slice none 0 0] rnT) = w3 at *
  generalize w2.heap.size = nn at *
  have HV0 := Lib.hid hV0
  clear hV0 hsh hw1 hKx HW2 hcutk
  go_cut [7] from 9 (fun s7 w' => ∃ (hs : Bool) (val : Int) (l3 : PL), s7 = .int .i64 ((if hs then 1 else 0 : Nat) : Int) ∧ VB w0 w1 nn (.slice ab pn pc) hs val [] [] [] (.slice none 0 0) (.slice none 0 0) none none w' ∧ l2 = (if hs then [([], val)] else []) ++ l3 ∧ BldR l3 [] l3 ∧ (0 ≤ val ∧ val < 18446744073709551616) ∧ (hs = false → val = 0))
  case first =>
    by_cases hf : nf = en
    · have hfe : ((nf : Int) == (en : Int)) = true := by rw [beq_iff_eq]; omega
      obtain ⟨z0, z1⟩ := hk3.out
      obtain ⟨y0, y1, y2, y3, y4, y5, y6⟩ := HV0.out.facts
      have y62 := y6 2
      have y63 := y6 3
      have hHas := Lib.hid (HV0.out.has fv)
      have hpl : p.block < w0.heap.size := HPL.out
      have hpn : ¬ p.block = nn := by have := HV0.out.nbn; have := HB1.out.size; omega
      have hpn2 : ¬ nn = p.block := fun e => hpn e.symm
      clear y6
      go_wp2_with fail
      go_region_held3 (fun w' => w'.cell? ⟨p.block, p.off + 1, none⟩ = some (.int .u64 fv)) (first | go_keep) (fail)
      all_goals
        go_wp2_with fail
        go_meet
      case rel =>
        have h0 : (l2.getD 0 ([], 0)).1 = [] := by
          have q1 := congrArg List.length Hfk.out.1
          rw [List.length_append] at q1
          have := hnfe.out
          exact List.eq_nil_of_length_eq_zero (by omega)
        obtain ⟨l3, e3, HR0⟩ := start_has HS.out (prs_bytes HPb.out) h0
        rw [← Hfk.out.2] at e3
        exact ⟨true, fv, l3, rfl, hHas.out.below (Below.refl _ _).drew, e3, HR0, Hvv.out, by simp⟩
    · have hfe : ((nf : Int) == (en : Int)) = false := by rw [beq_eq_false_iff_ne]; omega
      go_wp2_with fail
      go_meet
      case rel =>
        have h0 : (l2.getD 0 ([], 0)).1 ≠ [] := fun e => by
          have q1 := congrArg List.length Hfk.out.1
          rw [List.length_append, e] at q1
          have := hnfe.out
          simp at q1
          omega
        exact ⟨false, 0, l2, rfl, HV0.out, rfl, start_no HS.out (prs_bytes HPb.out) h0, by omega, fun _ => rfl⟩
  case rest =>
    clear hk3 HV0 k0 k1 kA HBW
    obtain ⟨hs, val, l3, rfl, hV0, e3, hR0, hv, hz0⟩ := hcut
    have HV0 := Lib.hid hV0
    have HR0 := Lib.hid hR0
    have E3 := Lib.hid e3
    have Hv := Lib.hid hv
    have Hz0 := Lib.hid hz0
    have hdn0 : Hid (∃ dn, l2 = dn ++ l3 ∧ dn.length = (if hs then 1 else 0)) := ⟨_, e3, by cases hs <;> rfl⟩
    have hsz0 : (if hs then 1 else 0) + l3.length = n := by
      have := Hn2.out.1
      rw [e3, List.length_append] at this
      cases hs <;> simpa using this
    clear hV0 hR0 e3 hv hz0
    generalize (if hs = true then 1 else 0) = i0n at *
    go_wp2_with fail
    go_loopw [7] (fun v7 wr => ∃ (i : Nat) (L : List (Nat × Tr)) (r : PL) (cs : List (List Value)) (bv kv : Value) (bo1 bo2 : Option Nat), v7 = .int .i64 (i : Nat) ∧ i + r.length = n ∧ Hid (∃ dn, l2 = dn ++ r ∧ dn.length = i) ∧ Hid (BldR l3 L r) ∧ Hid (VB w0 w1 nn (.slice ab pn pc) hs val (L.map (·.1)) (L.map (·.2)) cs bv kv bo1 bo2 wr)) (fun v7 _ => (n - intOf v7).toNat)
    case atStart => exact ⟨i0n, [], l3, [], _, _, none, none, rfl, hsz0, hdn0, HR0, HV0⟩
    case round =>
      clear HV0 HR0 hdn0 hsz0
      obtain ⟨i, L, r, cs, bv, kv, bo1, bo2, rfl, hir, Hdn, HR, HV⟩ := hrel
      obtain ⟨wo, rfl⟩ : ∃ wo : World, wo = wr := ⟨_, rfl⟩
      have Bw := Lib.hid (HB1.out.trans (HV.out.since.mono HB1.out.size))
      by_cases hin : i < n
      · have j1 : (i : Int) < (n : Int) := by omega
        have j0 : (0 : Int) ≤ (i : Int) := by omega
        have hrne : r ≠ [] := fun e => by rw [e] at hir; simp at hir; omega
        obtain ⟨b, g, r2, e1, hg, sg, hb256, hbL, hr2, hnext⟩ := HR.out.next hrne
        have E1 := Lib.hid e1
        have hr2 := Lib.hid hr2
        have hnext := Lib.hid hnext
        have hbL := Lib.hid hbL
        have hgN : Hid (g.length ≤ N) := group_small HS.out E3.out HR.out e1 (by have := Hn2.out; omega)
        have hg0 := Lib.hid hg
        have hsg := Lib.hid sg
        obtain ⟨G, hG⟩ : ∃ G, G = g.length := ⟨_, rfl⟩
        have HG := Lib.hid hG
        have hG1 : 1 ≤ G := by
          cases g with
          | nil => exact absurd rfl hg
          | cons x g => rw [hG]; simp
        have hGn : i + G ≤ n := by
          have : r.length = G + r2.length := by rw [e1, hG]; simp
          omega
        have hAt : Hid (∀ m, m < G → ∃ p3 n3 c3, w0.cell? (p.add ((i + m) * 2)) = some (.slice (some p3) n3 c3) ∧ (en : Int) < (n3 : Int) ∧ w0.cell? (p3.add en) = some (.int .u8 (b : Nat))) := fun m hm => by
          obtain ⟨dn, q1, q2⟩ := Hdn.out
          have q3 := left_at q1 q2 m
          obtain ⟨p', p3, n3, c3, hp, z1, z2, z3⟩ := key_at HPb.out (i := i + m) (by omega) (d := b) (s := (g.getD m ([], 0)).1) (by rw [q3]; exact head_in e1 (by omega))
          obtain rfl : p = p' := by simpa using hp
          rw [hq.out] at z2 z3
          exact ⟨p3, n3, c3, z1, by omega, z3⟩
        have hOut : Hid (i + G < n → ∃ p3 n3 c3 d, w0.cell? (p.add ((i + G) * 2)) = some (.slice (some p3) n3 c3) ∧ (en : Int) < (n3 : Int) ∧ w0.cell? (p3.add en) = some (.int .u8 (d : Nat)) ∧ b < d) := fun hlt => by
          obtain ⟨dn, q1, q2⟩ := Hdn.out
          have q3 := left_at q1 q2 G
          obtain ⟨d, s, e5, hd⟩ := head_out e1 hr2.out (by rw [← hG]; omega)
          rw [← hG] at e5
          obtain ⟨p', p3, n3, c3, hp, z1, z2, z3⟩ := key_at HPb.out (i := i + G) hlt (d := d) (s := s) (by rw [q3]; exact e5)
          obtain rfl : p = p' := by simpa using hp
          rw [hq.out] at z2 z3
          exact ⟨p3, n3, c3, d, z1, by omega, z3, hd⟩
        obtain ⟨pI, nI, cI, zI1, zI2, zI3⟩ := hAt.out 0 (by omega)
        rw [Nat.add_zero] at zI1
        have ien : (0 : Int) ≤ (en : Int) := by omega
        clear e1 hg sg hG hrne
        obtain ⟨E, hE⟩ : ∃ E, E = i + G := ⟨_, rfl⟩
        rw [← hE] at hOut hGn
        have HE := Lib.hid hE
        have hiE : i < E := by omega
        have hAtQ : Hid (∀ q, i ≤ q → q < E → ∃ p3 n3 c3, w0.cell? (p.add (q * 2)) = some (.slice (some p3) n3 c3) ∧ (en : Int) < (n3 : Int) ∧ w0.cell? (p3.add en) = some (.int .u8 (b : Nat))) := fun q h1 h2 => by
          have := hAt.out (q - i) (by omega)
          rwa [show i + (q - i) = q by omega] at this
        clear hE
        go_upto_block 2 with fail
        go_cut [8] from 55 to 79 (fun s8 w' => s8 = .int .i64 ((E : Nat) : Int) ∧ ∃ k, w' = wo.drewN k)
        case first =>
          go_wp2_with fail
          go_loopw [8] (fun v8 wr => ∃ q : Nat, v8 = .int .i64 (q : Nat) ∧ i ≤ q ∧ q ≤ E ∧ Hid (∃ k, wr = wo.drewN k)) (fun v8 _ => (E - intOf v8).toNat)
          case atStart => exact ⟨i, rfl, by omega, by omega, 0, rfl⟩
          case round =>
            obtain ⟨q, rfl, hq1, hq2, hwd⟩ := hrel
            have hBr : Hid (Below w0.heap.size w0 wr) := by obtain ⟨k, rfl⟩ := hwd.out; exact below_drewN Bw.out k
            have y0 := (hBr.out.cell (cell_lt zI1)).trans zI1
            have y1 := (hBr.out.cell (cell_lt zI3)).trans zI3
            have j4 : (0 : Int) ≤ (q : Int) := by omega
            by_cases hqn : q < n
            · have j5 : (q : Int) < (n : Int) := by omega
              by_cases hqG : q < E
              · obtain ⟨p3, n3, c3, z1, z2, z3⟩ := hAtQ.out q hq1 hqG
                have z1 := (hBr.out.cell (cell_lt z1)).trans z1
                have z3 := (hBr.out.cell (cell_lt z3)).trans z3
                have hw9 : IntKind.i64.wrap (((q : Nat) : Int) + 1) = ((q + 1 : Nat) : Int) := by rw [show ((q : Nat) : Int) + 1 = ((q + 1 : Nat) : Int) by omega]; exact IntWalk.i64_in _ (by omega)
                go_wp2_with fail
                go_quiet (fail)
                go_wp2_with fail
                go_roundw
                case rel => exact ⟨q + 1, (by first | rfl | go_num), by omega, by omega, by obtain ⟨k, rfl⟩ := hwd.out; exact ⟨k + nq, by simp⟩⟩
                case measure => (simp [intOf]) <;> omega
              · obtain rfl : q = E := by omega
                obtain ⟨p3, n3, c3, d, z1, z2, z3, hd⟩ := hOut.out hqn
                have z1 := (hBr.out.cell (cell_lt z1)).trans z1
                have z3 := (hBr.out.cell (cell_lt z3)).trans z3
                have j9 : (((d : Nat) : Int) == ((b : Nat) : Int)) = false := by rw [beq_eq_false_iff_ne]; omega
                go_wp2_with fail
                go_quiet (fail)
                go_wp2_with fail
                go_meet
                case rel => exact ⟨rfl, by obtain ⟨k, rfl⟩ := hwd.out; exact ⟨k + nq, by simp⟩⟩
            · obtain rfl : q = E := by omega
              have j5 : ¬ (q : Int) < (n : Int) := by omega
              go_wp2_with fail
              go_quiet (fail)
              go_wp2_with fail
              go_meet
              case rel => exact ⟨rfl, by obtain ⟨k, rfl⟩ := hwd.out; exact ⟨k + nq, by simp⟩⟩
        case rest =>
          obtain ⟨rfl, hwc⟩ := hcut
          have HVc : Hid (VB w0 w1 nn (.slice ab pn pc) hs val (L.map (·.1)) (L.map (·.2)) cs bv kv bo1 bo2 wc) := by obtain ⟨k, rfl⟩ := hwc; exact HV.out.drewN k
          clear hwc HV
          have Bc := Lib.hid (HB1.out.trans (HVc.out.since.mono HB1.out.size))
          have h256 : (L.map (·.1)).length ≤ 256 := ups256 HR.out.up fun x hx => by obtain ⟨y, hy, rfl⟩ := List.mem_map.1 hx; exact (HR.out.kids y hy).1
          have h256k : Hid ((L.map (·.2)).length ≤ 256) := by show _ ≤ _; rw [List.length_map] at h256 ⊢; exact h256
          have h256b := Lib.hid h256
          clear h256
          go_upto_region 15 with fail
          go_cut [] from 80 to 92 (fun w' => ∃ (vB : Value) (bo1' : Option Nat), VB w0 w1 nn (.slice ab pn pc) hs val (L.map (·.1) ++ [b]) (L.map (·.2)) cs vB kv bo1' bo2 w')
          case first =>
            have y0 := (Bc.out.cell (cell_lt zI1)).trans zI1
            have y1 := (Bc.out.cell (cell_lt zI3)).trans zI3
            have y0A : ∀ o, (wc.alloc o).cell? (p.add (i * 2)) = some (.slice (some pI) nI cI) := fun o => ((Bc.out.alloc Bc.out.size o).cell (cell_lt zI1)).trans zI1
            have y1A : ∀ o, (wc.alloc o).cell? (pI.add en) = some (.int .u8 (b : Nat)) := fun o => ((Bc.out.alloc Bc.out.size o).cell (cell_lt zI3)).trans zI3
            obtain ⟨v0, v1_, v2, v3, v4, v5, v6⟩ := HVc.out.facts
            have v4A : ∀ o, (wc.alloc o).cell? ⟨nn, 4, none⟩ = some bv := fun o => (HVc.out.below ((Below.refl _ wc).alloc (Nat.le_refl _) o)).facts.2.2.2.2.1
            have hone : Hid (∀ u ∈ ([.int .u8 (b : Nat)] : List Value), u.oneCell' = true) := by intro u hu; simp only [List.mem_singleton] at hu; subst hu; rfl
            have HVX := Lib.hid (HVc.out.below ((Below.refl _ wc).alloc (Nat.le_refl _) (.cells #[.int .u8 (b : Nat)] 5)).drew)
            have hnews : Hid (∀ j u, ([.int .u8 (b : Nat)] : List Value)[j]? = some u → (wc.alloc (.cells #[.int .u8 (b : Nat)] 5)).drew.cell? ((⟨wc.heap.size, 0, none⟩ : Addr).add j) = some u) := news_alloc wc [.int .u8 (b : Nat)] 5
            have hob := Lib.hid HVX.out.ob
            clear v6
            go_region_law (refine step_b rfl (.tmp 81) (.tmp 90) rfl bv rfl (L.map (·.1)).length (bV (L.map (·.1))) bo1 hob.out ⟨wc.heap.size, 0, none⟩ 1 [.int .u8 (b : Nat)] rfl rfl hnews.out hone.out h256b.out ?_; intro vB w5 bo1' HO HM HN; obtain ⟨aB, cB, hvB, _⟩ := HO.out.len; subst hvB; obtain ⟨s4, s5, f4, f5⟩ := HVX.out.boxAt HM.out HVX.out.ne1; have HVb := Lib.hid (HVX.out.byte b HO.out HM.out HN.out); clear HO HM HN)
            all_goals
              go_wp2_with fail
              go_meet
            all_goals
              exact ⟨.slice aB (L.length + 1) cB, bo1', by have := HVb.out; rw [List.length_map] at this; exact this⟩
          case rest =>
            obtain ⟨vB, bo1', hVb⟩ := hcut
            obtain ⟨w6, rfl⟩ : ∃ w6 : World, w6 = wc := ⟨_, rfl⟩
            have HVb := Lib.hid hVb
            clear hVb HVc Bc
            have Bd := Lib.hid (HB1.out.trans (HVb.out.since.mono HB1.out.size))
            have hcutP : ∀ w, (Instr.slice 53 (.slice (some p) n c) (some (.int .i64 (i : Nat))) (some (.int .i64 (E : Nat))) none).run Try.prog w = .ok (.slice (cutA (some p) c i 2) (E - i) (c - i)) w := fun w => run_cutK w (some p) n c i E (by omega) (Nat.le_trans hGn HPb.out.cap)
            have hBld : Hid (Calls Try.prog 109 #[.slice (cutA (some p) c i 2) (E - i) (c - i), .int .i64 ((en : Int) + 1)] w6.drew (bldPost w0 g w6.drew)) := by
              have hP2 := HPb.out.cut (lo := i) (hi := E) (by omega) hGn
              have hl2 : ((pre (pfx ++ bs) l2).take E).drop i = pre (pfx ++ bs ++ [b]) g := by
                obtain ⟨dn, q1, q2⟩ := Hdn.out
                rw [q1, E1.out, pre_append, pre_append, pre_pre, HE.out, HG.out, ← q2]
                rw [List.take_append, List.take_of_length_le (by simp), pre_length, Nat.add_sub_cancel_left, List.drop_append_of_le_length (by simp), List.drop_of_length_le (by simp), List.nil_append, List.take_append_of_le_length (by simp), List.take_of_length_le (by simp)]
              rw [hl2] at hP2
              have hbnd : ∀ x ∈ pre (pfx ++ bs ++ [b]) g, x.1.length ≤ 65535 := fun x hx => by
                refine Hk2.out x ?_
                rw [← hl2] at hx
                exact List.mem_of_mem_take (List.mem_of_mem_drop hx)
              have := IH g (pfx ++ bs ++ [b]) _ _ _ w6.drew hgN.out hg0.out hP2 hsg.out hbnd Bd.out.drew
              rwa [show (((pfx ++ bs ++ [b]).length : Nat) : Int) = (en : Int) + 1 by rw [List.length_append, hq.out]; rfl] at this
            have hwe : IntKind.i64.wrap ((en : Int) + 1) = ((en + 1 : Nat) : Int) := by rw [show (en : Int) + 1 = ((en + 1 : Nat) : Int) by omega]; exact IntWalk.i64_in _ (by omega)
            have m0 : (0 : Int) ≤ (i : Int) := by omega
            have m1 : (i : Int) ≤ (E : Int) := by omega
            have m2 : (E : Int) ≤ (n : Int) := by omega
            have m3 : (E : Int) ≤ (c : Int) := by have := HPb.out.cap; omega
            have hSz : Hid (w0.heap.size ≤ w1.heap.size) := HB1.out.size
            generalize cutA (some p) c i 2 = a7 at *
            generalize E - i = n7 at *
            generalize c - i = c7 at *
            go_upto_region 16 with fail
            go_cut [] from 93 to 104 (fun w' => ∃ (t : Tr) (cT : List Value) (vK : Value) (bo2' : Option Nat), VB w0 w1 nn (.slice ab pn pc) hs val (L.map (·.1) ++ [b]) (L.map (·.2) ++ [t]) (cs ++ [cT]) vB vK bo1' bo2' w' ∧ IsN t ∧ TOk t ∧ Can t ∧ tl t = g)
            case first =>
              obtain ⟨v0, v1_, v2, v3, v4, v5, v6⟩ := HVb.out.facts
              clear v6
              go_region_law (first
                | (have hk9 := hok.out; refine step_rn rfl (.tmp 94) (.tmp 102) rfl kv rfl (L.map (·.2)).length cs.flatten bo2 hok.out ⟨w7.heap.size, 0, none⟩ 1 [.int .i64 kd, .slice pa2 pn2 pc2, .bool hs2, .int .u64 vv2, .slice ba2 bn2 bc2, .slice ka2 kn2 kc2] rfl rfl hnews6.out hone6.out h256k.out ?_; intro vK w8 bo2' HO HM HN; obtain ⟨aK, cK, hvK, _⟩ := HO.out.len; subst hvK; obtain ⟨s4, s5, f4, f5⟩ := HVY.out.boxAt HM.out HVY.out.ne2; have HVk := Lib.hid (HVY.out.kid t [.int .i64 kd, .slice pa2 pn2 pc2, .bool hs2, .int .u64 vv2, .slice ba2 bn2 bc2, .slice ka2 kn2 kc2] rfl hR8.out HO.out HM.out HN.out); clear HO HM HN)
                | (go_simp; go_at_call 109; refine hBld.out.mono ?_; rintro e w7 ⟨t, kd, pa2, pn2, pc2, hs2, vv2, ba2, bn2, bc2, ka2, kn2, kc2, rfl, hRT, tN, tO, tC, tE, hB7⟩
                   have HV7 := Lib.hid ((HVb.out.drewN 1).below hB7)
                   have hA : Hid (Below w7.heap.size w7 (w7.alloc (.cells #[.int .i64 kd, .slice pa2 pn2 pc2, .bool hs2, .int .u64 vv2, .slice ba2 bn2 bc2, .slice ka2 kn2 kc2] rnT))) := (Below.refl _ w7).alloc (Nat.le_refl _) _
                   have HVY := Lib.hid (HV7.out.below hA.out)
                   have hR8 : Hid (RT (w7.alloc (.cells #[.int .i64 kd, .slice pa2 pn2 pc2, .bool hs2, .int .u64 vv2, .slice ba2 bn2 bc2, .slice ka2 kn2 kc2] rnT)) (Gd w0 w1 nn bo1' bo2 (w7.alloc (.cells #[.int .i64 kd, .slice pa2 pn2 pc2, .bool hs2, .int .u64 vv2, .slice ba2 bn2 bc2, .slice ka2 kn2 kc2] rnT))) t none 0 [.int .i64 kd, .slice pa2 pn2 pc2, .bool hs2, .int .u64 vv2, .slice ba2 bn2 bc2, .slice ka2 kn2 kc2]) := (hRT.keep hA.out.size (fun j hj => hA.out.block j hj.2)).mono fun j q => (HVb.out.drewN 1).gd hSz.out (Nat.le_trans hB7.size hA.out.size) j ⟨q.1, Nat.lt_of_lt_of_le q.2 hA.out.size⟩
                   have hnews6 := Lib.hid (news_alloc w7 [.int .i64 kd, .slice pa2 pn2 pc2, .bool hs2, .int .u64 vv2, .slice ba2 bn2 bc2, .slice ka2 kn2 kc2] rnT)
                   have hone6 : Hid (∀ u ∈ ([.int .i64 kd, .slice pa2 pn2 pc2, .bool hs2, .int .u64 vv2, .slice ba2 bn2 bc2, .slice ka2 kn2 kc2] : List Value), u.oneCell' = true) := by intro u hu; simp only [List.mem_cons, List.not_mem_nil, or_false] at hu; rcases hu with rfl | rfl | rfl | rfl | rfl | rfl <;> rfl
                   have hok := Lib.hid HVY.out.ok
                   have hT4 := Lib.hid (show IsN t ∧ TOk t ∧ Can t ∧ tl t = g from ⟨tN, tO, tC, tE⟩)
                   have v5b := HV7.out.facts.2.2.2.2.2.1
                   have v5A : ∀ o, (w7.alloc o).cell? ⟨nn, 5, none⟩ = some kv := fun o => (HV7.out.below ((Below.refl _ w7).alloc (Nat.le_refl _) o)).facts.2.2.2.2.2.1
                   clear hRT tN tO tC tE hB7))
              all_goals
                go_wp2_with fail
                go_meet
              all_goals
                exact ⟨t, _, .slice aK (L.length + 1) cK, bo2', by have := HVk.out; rw [List.length_map] at this; exact this, hT4.out⟩
            case rest =>
              obtain ⟨t, cT, vK, bo2', hVk, tN, tO, tC, tE⟩ := hcut
              have HVk := Lib.hid hVk
              have hR5 := Lib.hid (hnext.out t tN tO tC tE)
              have hdn5 : Hid (∃ dn, l2 = dn ++ r2 ∧ dn.length = E) := by
                obtain ⟨dn, q1, q2⟩ := Hdn.out
                exact ⟨dn ++ pre [b] g, by rw [q1, E1.out, List.append_assoc], by rw [List.length_append, pre_length, q2, HE.out, HG.out]⟩
              have hlen5 : Hid (E + r2.length = n) := by
                have q := hir
                rw [E1.out, List.length_append, pre_length, ← HG.out] at q
                have := HE.out
                show _ = _
                omega
              clear hVk hnext IH
              go_wp2_with fail
              go_roundw
              case rel => exact ⟨E, L ++ [(b, t)], r2, cs ++ [cT], vB, vK, bo1', bo2', rfl, hlen5.out, hdn5, hR5, by rw [List.map_append, List.map_append]; exact HVk.out⟩
              case measure => (simp [intOf]) <;> omega
      · have j1 : ¬ (i : Int) < (n : Int) := by omega
        obtain rfl : r = [] := List.eq_nil_of_length_eq_zero (by omega)
        obtain ⟨ba, bc, rfl, _⟩ := HV.out.ob.len
        obtain ⟨ka, kc, rfl, _⟩ := HV.out.ok.len
        have hB256 : ∀ x ∈ L.map (·.1), x < 256 := fun x hx => by obtain ⟨y, hy, rfl⟩ := List.mem_map.1 hx; exact (HR.out.kids y hy).1
        have hE := Lib.hid (bld_end HV.out HSB.out HB0.out HW1.out hwsz.out hRB.out hB256 (grow_end HS.out HR.out E3.out Hv.out Hz0.out hbb.out))
        have hL256 : L.length ≤ 256 := by have := ups256 HR.out.up hB256; rwa [List.length_map] at this
        have hKind : Hid (∀ wr, Calls Try.prog 15 #[.int .i64 (L.length : Nat)] wr fun e w' => e = .returned (.int .i64 (kindOf L.length : Nat)) ∧ wr = w') := fun wr => by
          have := refKind_any (L.length : Nat) wr
          rwa [kindZ_nat _ hL256] at this
        obtain ⟨v0, v1_, v2, v3, v4, v5, v6⟩ := HV.out.facts
        have v60 := v6 0
        rw [List.length_map] at v5
        rw [List.length_map, List.length_map] at hE
        clear v6 HV IH
        go_upto_region 19 with (go_at_call 15; refine (hKind.out _).mono ?_; rintro e w7 ⟨rfl, rfl⟩)
        obtain ⟨T, hT⟩ : ∃ T, T = wo.setCell ⟨nn, 0, none⟩ (.int .i64 (kindOf L.length : Nat)) := ⟨_, rfl⟩
        obtain ⟨yn, yr, hfin⟩ := hE.out T hT
        rw [← hT]
        obtain ⟨a0, a1, a2, a3, a4, a5, _⟩ := six_facts yn
        obtain ⟨b0, b1, b2, b3, b4, b5, g0, g1, g2, g3, g4, g5⟩ := six_facts yr
        have hfin := Lib.hid hfin
        clear hT yn yr hE
        go_wp2_with fail
        obtain ⟨⟨f0, f1, f2, f3, f4, f5⟩, hp⟩ := hfin.out _ rfl
        refine bodyPost_ret (v := .agg #[.int .i64 (kindOf L.length : Nat), .slice ab pn pc, .bool hs, .int .u64 val, .slice ba L.length bc, .slice ka L.length kc]) (by simp [results, Try.results109, go_sem, f0, f1, f2, f3, f4, f5]) rfl hp
end Go.Proofs.Ytkonbldjmcccmaa
/- The document's Build. -/
namespace Go.Proofs.Ytkonbldjmcccmaa
open Go.RowKit
theorem bld_any {w0 : World} : ∀ N, N ≤ 1000000 → BuildAsk w0 N
  | 0, _ => fun l pfx a n c w hN h0 => absurd (List.eq_nil_of_length_eq_zero (by omega)) h0
  | N + 1, hN1 => fun l pfx a n c w hN h0 h hs hk hb => by
    by_cases h2 : 2 ≤ l.length
    · exact bld_many N (by omega) (bld_any N (by omega)) l pfx a n c w hN h2 h hs hk hb
    · match l, h0, h2 with
      | [(k, v)], _, _ =>
        obtain rfl : n = 1 := h.len.symm
        exact bld_one k v pfx a c w h (hk (pfx ++ k, v) (by simp [pre])) hb
      | _ :: _ :: _, _, h2 => exact absurd (by simp) h2
abbrev six0 : Value := .agg #[.int .i64 0, .slice none 0 0, .bool false, .int .u64 0, .slice none 0 0, .slice none 0 0]
set_option maxHeartbeats 1000000 in
theorem bld_none (w : World) (a : Option Addr) (c : Nat) (k : Int) : Calls Try.prog 109 #[.slice a 0 c, .int .i64 k] w fun e w' => e = .returned six0 ∧ Below w.heap.size w w' := by
  have hb : Hid (∀ o, Below w.heap.size w (w.alloc o)) := fun o => (Below.refl _ w).alloc (Nat.le_refl _) o
  go_enter Try.func109, Try.ntmps109
  go_wp2_with fail
  refine bodyPost_ret (v := six0) (by simp [results, Try.results109, go_sem, six0]) rfl ⟨rfl, hb.out _⟩
def docPost (l : PL) (w : World) (e : Ending) (w' : World) : Prop :=
  ∃ (kd : Int) (pa : Option Addr) (pn pc : Nat) (hs : Bool) (v : Int) (ba : Option Addr) (bn bc : Nat) (ka : Option Addr) (kn kc : Nat),
    e = .returned (.agg #[.int .i64 kd, .slice pa pn pc, .bool hs, .int .u64 v, .slice ba bn bc, .slice ka kn kc]) ∧ Below w.heap.size w w' ∧
    ((l = [] ∧ kd = 0 ∧ pn = 0 ∧ hs = false ∧ kn = 0) ∨ ∃ t, IsN t ∧ TOk t ∧ Can t ∧ tl t = l ∧ RT w' (fun j => j < w'.heap.size) t none 0 [.int .i64 kd, .slice pa pn pc, .bool hs, .int .u64 v, .slice ba bn bc, .slice ka kn kc])
/-- what the inner build leaves, told alike for none and for some -/
theorem bld_all {w0 w : World} {a : Option Addr} {n c : Nat} {l : PL} (h : Prs w0 a n c l) (hs : PSrt l) (hk : ∀ x ∈ l, x.1.length ≤ 65535) (hn : n ≤ 1000000) (hb : Below w0.heap.size w0 w) : Calls Try.prog 109 #[.slice a n c, .int .i64 0] w fun e w' =>
    ∃ (kd : Int) (pa : Option Addr) (pn pc : Nat) (hs : Bool) (v : Int) (ba : Option Addr) (bn bc : Nat) (ka : Option Addr) (kn kc : Nat),
      e = .returned (.agg #[.int .i64 kd, .slice pa pn pc, .bool hs, .int .u64 v, .slice ba bn bc, .slice ka kn kc]) ∧ Below w.heap.size w w' ∧
      ((l = [] ∧ kd = 0 ∧ pn = 0 ∧ hs = false ∧ kn = 0) ∨ ∃ t, IsN t ∧ TOk t ∧ Can t ∧ tl t = l ∧ RT w' (Gn w0 w w') t none 0 [.int .i64 kd, .slice pa pn pc, .bool hs, .int .u64 v, .slice ba bn bc, .slice ka kn kc]) := by
  by_cases h0 : l = []
  · subst h0
    obtain rfl : n = 0 := h.len.symm
    exact (bld_none w a c 0).mono fun e w' ⟨e1, e2⟩ => ⟨0, none, 0, 0, false, 0, none, 0, 0, none, 0, 0, e1, e2, Or.inl ⟨rfl, rfl, rfl, rfl, rfl⟩⟩
  · have := bld_any (w0 := w0) l.length (by rw [h.len]; exact hn) l [] a n c w (Nat.le_refl _) h0 (by rw [pre_none]; exact h) hs (by rw [pre_none]; exact hk) hb
    exact Calls.mono this fun e w' ⟨t, kd, pa, pn, pc, hs, v, ba, bn, bc, ka, kn, kc, q1, q2, q3, q4, q5, q6, q7⟩ => ⟨kd, pa, pn, pc, hs, v, ba, bn, bc, ka, kn, kc, q1, q7, Or.inr ⟨t, q3, q4, q5, q6, q2⟩⟩
set_option maxHeartbeats 1000000 in
set_option maxRecDepth 100000 in
theorem doc_build {w : World} {a : Option Addr} {n c : Nat} {l : PL} (h : Prs w a n c l) (hs : PSrt l) (hk : ∀ x ∈ l, x.1.length ≤ 65535) (hn : n ≤ 1000000) : Calls Try.prog 41 #[.slice a n c] w (docPost l w) := by
  have hBd := Lib.hid (bld_all h hs hk hn ((Below.refl _ w).alloc (Nat.le_refl _) (.cells #[.int .i64 0, .slice none 0 0, .bool false, .int .u64 0, .slice none 0 0, .slice none 0 0] rnT)))
  have hW : Hid (Below w.heap.size w (rnW w)) := (Below.refl _ w).alloc (Nat.le_refl _) _
  have hsz : Hid ((rnW w).heap.size = w.heap.size + 1) := World.size_alloc _ _
  have hbx : Hid ((rnW w).heap[w.heap.size]? = some (.cells [.int .i64 0, .slice none 0 0, .bool false, .int .u64 0, .slice none 0 0, .slice none 0 0].toArray rnT (0, 0))) := six_new w _ _ _ _ _ _ rnT
  clear h hs hk
  go_enter Try.func41, Try.ntmps41
  go_wp2_with (go_at_call 109; refine hBd.out.mono ?_; rintro e w2 ⟨kd, pa, pn, pc, hs, v, ba, bn, bc, ka, kn, kc, rfl, hB, hR⟩; have hb2 := (hB.block w.heap.size (by have := hsz.out; show _ < (rnW w).heap.size; omega)).trans hbx.out; obtain ⟨x0, x1, x2, x3, x4, x5, g0, g1, g2, g3, g4, g5⟩ := six_facts hb2; have hB := Lib.hid hB; have hR := Lib.hid hR; have hb2 := Lib.hid hb2)
  obtain ⟨z1, z2⟩ := six_fin hb2.out (.int .i64 kd) (.slice pa pn pc) (.bool hs) (.int .u64 v) (.slice ba bn bc) (.slice ka kn kc) _ rfl
  obtain ⟨f0, f1, f2, f3, f4, f5, _⟩ := six_facts z1
  refine bodyPost_ret (v := .agg #[.int .i64 kd, .slice pa pn pc, .bool hs, .int .u64 v, .slice ba bn bc, .slice ka kn kc]) (by simp [results, Try.results41, go_sem, f0, f1, f2, f3, f4, f5]) rfl ?_
  have hbw := hW.out.trans (hB.out.mono hW.out.size)
  refine ⟨kd, pa, pn, pc, hs, v, ba, bn, bc, ka, kn, kc, rfl, ⟨z2.os.trans hbw.os, z2.tape.trans hbw.tape, z2.output.trans hbw.output, Nat.le_trans hbw.size z2.size, fun j hj => (z2.same j (Nat.lt_of_lt_of_le hj hbw.size) (by omega)).trans (hbw.block j hj)⟩, ?_⟩
  rcases hR.out with q | ⟨t, q1, q2, q3, q4, q5⟩
  · exact Or.inl q
  · exact Or.inr ⟨t, q1, q2, q3, q4, (q5.keep z2.size fun j hj => z2.same j hj.2 (by have := hsz.out; rcases hj.1 with q | q <;> (try (have q : (rnW w).heap.size ≤ j := q)) <;> omega)).mono fun j hj => Nat.lt_of_lt_of_le hj.2 z2.size⟩
end Go.Proofs.Ytkonbldjmcccmaa
/- The document's Steps. -/
namespace Go.Proofs.Ytkonbldjmcccmaa
open Go.RowKit
theorem tstep_hit : ∀ {L : List (Nat × Tr)} {i b : Nat} {t : Tr} (r : List Nat), L[i]? = some (b, t) → (∀ (q : Nat) (x : Nat × Tr), q < i → L[q]? = some x → x.1 ≠ b) → tstep (ofL L) (b :: r) = tstep t r
  | [], i, b, t, r, h, _ => by simp at h
  | y :: L, 0, b, t, r, h, _ => by
    obtain rfl : y = (b, t) := by simpa using h
    simp [ofL, tstep]
  | y :: L, i + 1, b, t, r, h, hq => by
    have h0 := hq 0 y (by omega) rfl
    simp only [ofL, tstep, if_neg h0]
    exact tstep_hit r (by simpa using h) fun q x hqi hx => hq (q + 1) x (by omega) (by simpa using hx)
theorem tstep_miss : ∀ {L : List (Nat × Tr)} {b : Nat} (r : List Nat), (∀ (q : Nat) (x : Nat × Tr), L[q]? = some x → x.1 ≠ b) → tstep (ofL L) (b :: r) = 0
  | [], b, r, _ => rfl
  | y :: L, b, r, h => by
    have h0 := h 0 y rfl
    simp only [ofL, tstep, if_neg h0]
    exact tstep_miss r fun q x hx => h (q + 1) x (by simpa using hx)
/-- a kid's six cells -/
theorem rt_at {w : World} {G : Nat → Prop} : ∀ {L : List (Nat × Tr)} {ka : Option Addr} {i : Nat}, RT w G (ofL L) ka i [] → ∀ q x, L[q]? = some x → ∃ g c, ka = some ⟨g, 0, none⟩ ∧ G g ∧ c.length = 6 ∧ (∀ j, j < 6 → w.cell? ⟨g, (i + q) * 6 + j, none⟩ = c[j]?) ∧ RT w G x.2 none 0 c
  | [], _, _, _, q, x, h => by simp at h
  | y :: L, ka, i, ⟨⟨g, c, h1, h2, h3, h4, h5⟩, h6⟩, 0, x, h => by
    obtain rfl : y = x := by simpa using h
    exact ⟨g, c, h1, h2, h3, by simpa using h4, h5⟩
  | y :: L, ka, i, ⟨_, h6⟩, q + 1, x, h => by
    obtain ⟨g, c, h1, h2, h3, h4, h5⟩ := rt_at h6 q x (by simpa using h)
    exact ⟨g, c, h1, h2, h3, fun j hj => by rw [← h4 j hj]; congr 3; omega, h5⟩
/-- a row by its list -/
theorem rt_chain {w : World} {G : Nat → Prop} {ks : Tr} {ka : Option Addr} (h : RT w G ks ka 0 []) (h1 : IsK ks) (h2 : TOk ks) : RT w G (ofL (chain ks)) ka 0 [] := by rw [ofL_chain ks h1 h2]; exact h
def StAsk (N : Nat) : Prop := ∀ (bs : List Nat) (v : Int) (has leaf : Bool) (ks : Tr) (c : List Value) (k : List Nat) {w : World} {G : Nat → Prop} {ka : Option Addr} {kn kc : Nat}, k.length ≤ N → RT w G (.node bs v has leaf ks) none 0 c → (∀ j, G j → j < w.heap.size) → TOk (.node bs v has leaf ks) → Sl w ka kn kc k → kn ≤ 1000 → Calls Try.prog 40 #[.agg c.toArray, .slice ka kn kc] w (belowPost (.int .i64 (tstep (.node bs v has leaf ks) k : Nat)) w)
set_option maxHeartbeats 2000000 in
set_option maxRecDepth 100000 in
theorem ref_steps (N : Nat) (IH : ∀ M, M < N → StAsk M) : StAsk N := fun bs v has leaf ks c k w G ka kn kc hkN hR hG hO hK hkn => by
  obtain ⟨pa, pn, pc, ba, bn, bc, ra, rn, rc, rfl, h2, h3, rfl, h5, h6⟩ := hR
  obtain ⟨o1, o2, o3, o4, o5, o6, o7⟩ := hO
  have hrk : ((rkind leaf ks : Nat) : Int) ≠ 0 := by
    unfold rkind
    split
    · omega
    · unfold kindOf; split <;> (try split) <;> (try split) <;> omega
  obtain ⟨KD, hKD⟩ : ∃ x : Int, x = ((rkind leaf ks : Nat) : Int) := ⟨_, rfl⟩
  rw [← hKD] at hrk ⊢
  have hk0 : (KD == 0) = false := by rw [beq_eq_false_iff_ne]; exact hrk
  clear hKD hrk
  show Calls _ _ #[.agg #[.int .i64 KD, .slice pa pn pc, .bool has, .int .u64 v, .slice ba bn bc, .slice ra (chain ks).length rc], .slice ka kn kc] w _
  obtain ⟨wb, hwb⟩ : ∃ wb, wb = w.alloc (.cells #[.int .i64 KD, .slice pa pn pc, .bool has, .int .u64 v, .slice ba bn bc, .slice ra (chain ks).length rc] rnT) := ⟨_, rfl⟩
  have hbox : wb.heap[w.heap.size]? = some (.cells [.int .i64 KD, .slice pa pn pc, .bool has, .int .u64 v, .slice ba bn bc, .slice ra (chain ks).length rc].toArray rnT (0, 0)) := by rw [hwb]; exact six_new w _ _ _ _ _ _ rnT
  have hB : Below w.heap.size w wb := by rw [hwb]; exact (Below.refl _ w).alloc (Nat.le_refl _) _
  have hkl := hK.len
  have hpl := h2.sl.len
  have hBg := Lib.hid (ref_begins (hK.below hB) (h2.sl.below hB))
  have hboxd : ∀ n, (wb.drewN n).heap[w.heap.size]? = _ := fun _ => hbox
  have HB := Lib.hid hB
  have hstep1 : Hid (∀ wr', Below w.heap.size w wr' → belowPost (.int .i64 ((1 : Nat) : Int)) w (.returned (.int .i64 1)) wr') := fun wr' hb => ⟨rfl, hb⟩
  by_cases hp : bs <+: k
  · have hdec : decide (bs <+: k) = true := decide_eq_true hp
    rw [hdec] at hBg
    by_cases hl : k.drop bs.length = []
    · -- the key ends here
      have hkp : kn = pn := by
        have := hp.length_le
        have := List.drop_eq_nil_iff.1 hl
        omega
      have hv : Hid (tstep (.node bs v has leaf ks) k = 1) := by show _ = _; simp [tstep, hp, hl]
      rw [hv.out]
      obtain ⟨x0, x1, x2, x3, x4, x5, _⟩ := six_facts hbox
      have y1 : ∀ n, (wb.drewN n).cell? ⟨w.heap.size, 1, none⟩ = some (.slice pa pn pc) := fun _ => x1
      subst hkp
      have hpp : ((kn : Int) == (kn : Int)) = true := by simp
      clear h2 h3 h5 h6 IH o1 o2 o3 o4 o5 o6 o7 hK hkl hpl hp hl hdec hv hB hboxd hbox
      go_enter Try.func40, Try.ntmps40
      go_upto_region 1 with fail
      rw [← hwb]
      clear hwb
      go_wp2_with (go_at_call 108; refine hBg.out.mono ?_; rintro e w2 ⟨rfl, nq, rfl⟩)
      go_ret
      exact hstep1.out _ (below_drewN HB.out _)
    · -- a byte more
      obtain ⟨r0, hr0⟩ := hp
      cases r0 with
      | nil => exact absurd (by rw [← hr0]; simp) hl
      | cons b r =>
        have hkb : k.drop bs.length = b :: r := by rw [← hr0, List.drop_left]
        have hkn2 : kn = pn + (r.length + 1) := by rw [← hkl, ← hr0, List.length_append, List.length_cons, hpl]
        have hb256 : b < 256 := hK.at_.1 b (by rw [← hr0]; simp)
        obtain ⟨pk, rfl, _, q2⟩ := hK.at_.2 pn (by rw [hkl]; omega)
        rw [show k.getD pn 0 = b by rw [← hr0, ← hpl, List.getD, List.getElem?_append_right (Nat.le_refl _), Nat.sub_self]; rfl] at q2
        obtain ⟨L, hL⟩ : ∃ L, L = chain ks := ⟨_, rfl⟩
        have hR6 := rt_chain h6 o6 o7
        have hOL : TOk (ofL L) := by rw [hL, ofL_chain ks o6 o7]; exact o7
        have hts : tstep (.node bs v has leaf ks) k = 1 + tstep (ofL L) (b :: r) := by
          rw [hL, ofL_chain ks o6 o7]
          have hp : bs <+: k := ⟨_, hr0⟩
          simp [tstep, hp, hkb]
        rw [← hL] at h3 h5 hR6 hbox hwb ⊢
        obtain ⟨m, hm⟩ : ∃ m, m = L.length := ⟨_, rfl⟩
        have hbn : bn = m := by have := h3.sl.len; rw [List.length_map] at this; omega
        rw [← hm] at h5 hbox hwb ⊢
        subst hbn
        obtain ⟨x0, x1, x2, x3, x4, x5, _⟩ := six_facts hbox
        have hall : Hid (∀ wr', Below wb.heap.size wb wr' → wr'.cell? ⟨w.heap.size, 1, none⟩ = some (.slice pa pn pc) ∧ wr'.cell? ⟨w.heap.size, 4, none⟩ = some (.slice ba bn bc) ∧ wr'.cell? ⟨w.heap.size, 5, none⟩ = some (.slice ra bn rc) ∧ wr'.cell? (pk.add pn) = some (.int .u8 (b : Nat))) := fun wr' hb => ⟨(hb.cell (p := ⟨w.heap.size, 1, none⟩) (cell_lt x1)).trans x1, (hb.cell (p := ⟨w.heap.size, 4, none⟩) (cell_lt x4)).trans x4, (hb.cell (p := ⟨w.heap.size, 5, none⟩) (cell_lt x5)).trans x5, by
          have hlt := cell_lt q2
          exact ((hB.trans (hb.mono hB.size)).cell hlt).trans q2⟩
        have hKs := Lib.hid hK
        have H3 := Lib.hid h3
        have H6 := Lib.hid hR6
        have HM := Lib.hid hm
        have HOL := Lib.hid hOL
        have HTS := Lib.hid hts
        have Hkl := Lib.hid hkl
        have Hr0 := Lib.hid hr0
        have Hpl := Lib.hid hpl
        have HN := Lib.hid hkN
        obtain ⟨p1, hp1⟩ : ∃ p1, p1 = pn + 1 := ⟨_, rfl⟩
        have hwp : IntKind.i64.wrap ((pn : Int) + 1) = (p1 : Nat) := by rw [hp1, show (pn : Int) + 1 = ((pn + 1 : Nat) : Int) by omega]; exact IntWalk.i64_in _ (by omega)
        have hcut : ∀ w, (Instr.slice 27 (.slice (some pk) kn kc) (some (.int .i64 (p1 : Nat))) none none).run Try.prog w = .ok (.slice (cutA (some pk) kc p1 1) (kn - p1) (kc - p1)) w := fun w => run_from8 w (some pk) kn kc p1 (by omega)
        have hne : ((kn : Int) == (pn : Int)) = false := by rw [beq_eq_false_iff_ne]; omega
        have j1 : (0 : Int) ≤ (pn : Int) := by omega
        have j2 : (pn : Int) < (kn : Int) := by omega
        have j3 : (0 : Int) ≤ (p1 : Int) := by omega
        have j4 : (p1 : Int) ≤ (kn : Int) := by omega
        have y1 : ∀ n, (wb.drewN n).cell? ⟨w.heap.size, 1, none⟩ = some (.slice pa pn pc) := fun _ => x1
        have HKN2 := Lib.hid hkn2
        have hbm : bn ≤ 9223372036854775807 := Nat.le_trans h3.sl.cap h3.sl.capm
        have HG := Lib.hid hG
        have HP1 := Lib.hid hp1
        clear h2 h3 h6 hR6 o1 o2 o3 o4 o5 o6 o7 hK hl hdec hbox hboxd hkb hL hts hm hOL hr0 hpl hkN q2 hkn2 hp1 hkl
        go_enter Try.func40, Try.ntmps40
        go_upto_region 1 with fail
        rw [← hwb]
        clear hwb
        go_upto_region 5 with (go_at_call 108; refine hBg.out.mono ?_; rintro e w2 ⟨rfl, nq, rfl⟩)
        have BD : Hid (Below wb.heap.size wb (wb.drewN nq)) := below_drewN (Below.refl _ _) nq
        generalize wb.drewN nq = wd at *
        have BWD := Lib.hid (HB.out.trans (BD.out.mono HB.out.size))
        obtain ⟨c1, c4, c5, ck⟩ := hall.out wd BD.out
        clear y1 x0 x1 x2 x3 x4 x5
        go_wp2_with fail
        go_loop [6] (fun v6 => ∃ i : Nat, v6 = .int .i64 (i : Nat) ∧ i ≤ bn ∧ Hid (∀ (q : Nat) (x : Nat × Tr), q < i → L[q]? = some x → x.1 ≠ b)) (fun v6 => (bn - intOf v6).toNat)
        case atStart => exact ⟨0, rfl, by omega, fun q x hq => absurd hq (by omega)⟩
        case round =>
          obtain ⟨i, rfl, hi, hA⟩ := hrel
          by_cases hlt : i < bn
          · have l1 : (i : Int) < (bn : Int) := by omega
            have l0 : (0 : Int) ≤ (i : Int) := by omega
            have hiL : i < L.length := by rw [← HM.out]; exact hlt
            obtain ⟨y, hy⟩ : ∃ y, L[i]? = some y := ⟨_, List.getElem?_eq_getElem hiL⟩
            obtain ⟨pb, rfl, hz1, hz2⟩ := H3.out.sl.at_.2 i (by rw [List.length_map]; exact hiL)
            have hz3 : (L.map (·.1)).getD i 0 = y.1 := by rw [List.getD, List.getElem?_map, hy]; rfl
            rw [hz3] at hz2
            have hz4 := (BWD.out.cell hz1).trans hz2
            by_cases hyb : y.1 = b
            · -- here it goes on
              obtain ⟨g, c', hg1, hg2, hg3, hg4, hg5⟩ := rt_at H6.out i y hy
              obtain ⟨yb, yt⟩ := y
              have hyb : yb = b := hyb
              subst hyb
              have hyT := ((tok_ofL L).1 HOL.out).1 (yb, yt) (List.mem_of_getElem? hy)
              have hhit : Hid (tstep (.node bs v has leaf ks) k = 1 + tstep yt r) := by
                show _ = _
                rw [HTS.out, tstep_hit r hy fun q x hq hx => hA.out q x hq hx]
              cases yt with
              | nil => exact hyT.2.1.elim
              | kid => exact hyT.2.1.elim
              | node bs' v' has' leaf' ks' =>
                have hg5 : RT w G (.node bs' v' has' leaf' ks') none 0 c' := hg5
                have hrk : k.drop p1 = r := by rw [HP1.out, ← Hr0.out, ← Hpl.out, show bs ++ yb :: r = (bs ++ [yb]) ++ r by simp, show bs.length + 1 = (bs ++ [yb]).length by simp, List.drop_left]
                have hkr : kn - p1 = r.length := by have := HKN2.out; have := HP1.out; omega
                have hrl : r.length ≤ 1000 := by omega
                have hSt : Hid (∀ X, Below w.heap.size w X → Calls Try.prog 40 #[.agg c'.toArray, .slice (cutA (some pk) kc p1 1) (kn - p1) (kc - p1)] X (belowPost (.int .i64 (tstep (.node bs' v' has' leaf' ks') r : Nat)) X)) := fun X hb => by
                  have hs := hKs.out.from_ (lo := p1) (by omega)
                  rw [hrk] at hs
                  exact IH r.length (by have := HN.out; have := Hkl.out; have := HKN2.out; omega) bs' v' has' leaf' ks' c' r (Nat.le_refl _) (hg5.keep hb.size fun j hj => hb.block j (HG.out j hj)) (fun j hj => Nat.lt_of_lt_of_le (HG.out j hj) hb.size) hyT.2.2 (hs.below hb) (by omega)
                obtain ⟨V, hV⟩ : ∃ V, V = tstep (.node bs' v' has' leaf' ks') r := ⟨_, rfl⟩
                have hVb : V ≤ 1001 := by rw [hV]; have := (tstep_len (.node bs' v' has' leaf' ks') r hyT.2.2).1 trivial; omega
                rw [← hV] at hSt hhit
                obtain ⟨pa', pn', pc', ba', bn', bc', ka', kn', kc', hc', hx'⟩ := hg5
                clear hx'
                subst hc'
                obtain ⟨KD', hKD'⟩ : ∃ x : Int, x = ((rkind leaf' ks' : Nat) : Int) := ⟨_, rfl⟩
                rw [← hKD'] at hSt hg4
                subst hg1
                rw [Nat.zero_add] at hg4
                have zc : Hid (∀ X, Below w.heap.size w X → X.cell? ⟨g, i * 6, none⟩ = some (.int .i64 KD') ∧ X.cell? ⟨g, i * 6 + 1, none⟩ = some (.slice pa' pn' pc') ∧ X.cell? ⟨g, i * 6 + 2, none⟩ = some (.bool has') ∧ X.cell? ⟨g, i * 6 + 3, none⟩ = some (.int .u64 v') ∧ X.cell? ⟨g, i * 6 + 4, none⟩ = some (.slice ba' bn' bc') ∧ X.cell? ⟨g, i * 6 + 5, none⟩ = some (.slice ka' kn' kc')) := fun X hb => by
                  have hgl := HG.out g hg2
                  have e : ∀ j, X.cell? ⟨g, j, none⟩ = w.cell? ⟨g, j, none⟩ := fun j => hb.cell (p := ⟨g, j, none⟩) hgl
                  exact ⟨by rw [e]; exact hg4 0 (by omega), by rw [e]; exact hg4 1 (by omega), by rw [e]; exact hg4 2 (by omega), by rw [e]; exact hg4 3 (by omega), by rw [e]; exact hg4 4 (by omega), by rw [e]; exact hg4 5 (by omega)⟩
                have hfin : Hid (∀ X, Below w.heap.size w X → belowPost (.int .i64 (tstep (.node bs v has leaf ks) k : Nat)) w (.returned (.int .i64 (1 + (V : Int)))) X) := fun X hb => ⟨by rw [hhit.out]; rfl, hb⟩
                have hwV : IntKind.i64.wrap (1 + (V : Int)) = 1 + (V : Int) := by rw [show 1 + (V : Int) = ((1 + V : Nat) : Int) by omega]; exact IntWalk.i64_in _ (by omega)
                obtain ⟨z0, z1, z2, z3, z4, z5⟩ := zc.out wd BWD.out
                generalize cutA (some pk) kc p1 1 = a9 at *
                generalize kn - p1 = n9 at *
                generalize kc - p1 = c9 at *
                clear hy hz1 hz2 hz3 hiL hg4 hyT hrk hkr hV hKD' hhit IH hg3
                go_wp2_with fail
                go_region_held3 (fun w' => w'.cell? ⟨w.heap.size, 1, none⟩ = some (.slice pa pn pc) ∧ w'.cell? ⟨w.heap.size, 5, none⟩ = some (.slice (some ⟨g, 0, none⟩) bn rc) ∧ w'.cell? ⟨g, i * 6, none⟩ = some (.int .i64 KD') ∧ w'.cell? ⟨g, i * 6 + 1, none⟩ = some (.slice pa' pn' pc') ∧ w'.cell? ⟨g, i * 6 + 2, none⟩ = some (.bool has') ∧ w'.cell? ⟨g, i * 6 + 3, none⟩ = some (.int .u64 v') ∧ w'.cell? ⟨g, i * 6 + 4, none⟩ = some (.slice ba' bn' bc') ∧ w'.cell? ⟨g, i * 6 + 5, none⟩ = some (.slice ka' kn' kc')) (first | go_keep)
                  (first | (go_at_call 40; refine (hSt.out _ (by first | exact BWD.out | exact BWD.out.drew | exact below_drewN BWD.out _)).mono ?_; rintro e w9 ⟨rfl, q9⟩; (first | (have B9 := Lib.hid (BD.out.trans (q9.mono BD.out.size))) | (have B9 := Lib.hid (BD.out.drew.trans (q9.mono BD.out.size))) | (have B9 := Lib.hid ((below_drewN BD.out _).trans (q9.mono BD.out.size)))); have BW9 := Lib.hid (HB.out.trans (B9.out.mono HB.out.size)); clear q9; obtain ⟨c1, _, c5, _⟩ := hall.out w9 B9.out; obtain ⟨z0, z1, z2, z3, z4, z5⟩ := zc.out w9 BW9.out))
                all_goals
                  (try simp only [Exit.then, Exit.inBlock])
                  go_wp2_with fail
                  go_ret
                  exact hfin.out _ BW9.out
            · have hyb2 : ((y.1 : Int) == (b : Int)) = false := by rw [beq_eq_false_iff_ne]; omega
              have hA2 : Hid (∀ (q : Nat) (x : Nat × Tr), q < i + 1 → L[q]? = some x → x.1 ≠ b) := fun q x hq hx => by
                by_cases e : q = i
                · subst e; rw [hy] at hx; obtain rfl : y = x := by simpa using hx
                  exact hyb
                · exact hA.out q x (by omega) hx
              have hw9 : IntKind.i64.wrap (((i : Nat) : Int) + 1) = ((i + 1 : Nat) : Int) := by rw [show ((i : Nat) : Int) + 1 = ((i + 1 : Nat) : Int) by omega]; exact IntWalk.i64_in _ (by omega)
              generalize y.1 = yb at *
              clear hy hz1 hz2 hz3 hiL
              go_wp2_with fail
              go_round
              case rel => exact ⟨i + 1, (by first | rfl | go_num), by omega, hA2⟩
              case measure => (simp [intOf]) <;> omega
          · have l1 : ¬ (i : Int) < (bn : Int) := by omega
            obtain rfl : i = bn := by omega
            have hv : Hid (tstep (.node bs v has leaf ks) k = 1) := by
              show _ = _
              rw [HTS.out, tstep_miss r fun q x hx => hA.out q x (by rw [HM.out]; exact (List.getElem?_eq_some_iff.1 hx).1) hx]
            go_wp2_with fail
            go_ret
            rw [hv.out]
            exact hstep1.out _ BWD.out
  · have hdec : decide (bs <+: k) = false := decide_eq_false hp
    rw [hdec] at hBg
    have hv : Hid (tstep (.node bs v has leaf ks) k = 1) := by show _ = _; simp [tstep, hp]
    rw [hv.out]
    obtain ⟨x0, x1, x2, x3, x4, x5, _⟩ := six_facts hbox
    clear h2 h3 h5 h6 IH o1 o2 o3 o4 o5 o6 o7 hK hkl hpl hp hdec hv hB hboxd hbox
    go_enter Try.func40, Try.ntmps40
    go_upto_region 1 with fail
    rw [← hwb]
    clear hwb
    go_wp2_with (go_at_call 108; refine hBg.out.mono ?_; rintro e w2 ⟨rfl, nq, rfl⟩)
    go_ret
    exact hstep1.out _ (below_drewN HB.out _)
end Go.Proofs.Ytkonbldjmcccmaa
