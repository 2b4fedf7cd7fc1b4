/- The document's build, walked whole; The document's Build; The document's Steps; canon.Depth; The law FindSteps; The document's bytes of a tree; Bytes behind bytes: append of any slice of bytes, also of none; The document's bytes of a node; The document's Encode; alive of law 32; stats.Shared of two trees that were made apart, of a tree and itself; The law StatsApart; Arguments of rows: bytes, slices of pairs. -/
import Derived.Test.YtgijnjdcpipfiaaJ4
import Derived.Test.YtgijnjdcpipfiaaJ5
import Derived.Deep.CutBlock
import Derived.Deep.RegionLaw
import Derived.StillTailTactics
import Derived.Deep.RegionHeld3
import Derived.Test.YtgijnjdcpipfiaaRows
import Derived.Test.YtgijnjdcpipfiaaJ3
import Derived.WalkKit
import Derived.ProofKit
import Derived.OpenShut
import Derived.ShutString
import Derived.ChangeOld
import Derived.Below
import Derived.SizedLaws
import Derived.Deep.SlicePairs
set_option linter.unusedVariables false
set_option linter.unusedSimpArgs false
/- The document's build, walked whole. -/
namespace Go.Proofs.Ytgijnjdcpipfiaa
open Go.RowKit
set_option maxHeartbeats 8000000 in
set_option maxRecDepth 100000 in
theorem bld_many {w0 : World} (N : Nat) (hNm : N ≤ 999999) (IH : BuildAsk w0 N) (l : PL) (pfx : List Nat) (a : Option Addr) (n c : Nat) (w : World) (hN : l.length ≤ N + 1) (h2 : 2 ≤ l.length) (h : Prs w0 a n c (pre pfx l)) (hs : PSrt l) (hk : ∀ x ∈ pre pfx l, x.1.length ≤ 65535) (hb0 : Below w0.heap.size w0 w) :
    Calls Try.prog 109 #[.slice a n c, .int .i64 (pfx.length : Nat)] w (bldPost w0 l w) := by
  have hn : l.length = n := by have := h.len; rwa [pre_length] at this
  obtain ⟨bs, l2, hS, hbl, hbt⟩ := start_of hs h2
  have hnm : n ≤ 1000000 := by omega
  have hB1 : Below w0.heap.size w0 (rnW w) := hb0.alloc hb0.size _
  have HP := h
  obtain ⟨p, af, nf, cf, rfl, q1, q2, q3⟩ := prs_first HP (by omega)
  rw [pre_getD _ (by omega)] at q3 q2
  simp only at q3 q2
  obtain ⟨fk, hfk⟩ : ∃ fk, fk = (l.getD 0 ([], 0)).1 := ⟨_, rfl⟩
  obtain ⟨fv, hfv⟩ : ∃ fv, fv = (l.getD 0 ([], 0)).2 := ⟨_, rfl⟩
  have hfm : (pfx ++ fk, fv) ∈ pre pfx l := by
    have := mem_getD (l := pre pfx l) (i := 0) (d := ([], 0)) (by rw [pre_length]; omega)
    rwa [pre_getD _ (by omega), ← hfk, ← hfv] at this
  have hnf := q3.len
  have hfk16 := hk _ hfm
  have hvv := HP.val _ hfm
  rw [← hfk] at q3 hnf hbl hbt
  rw [← hfv] at q2
  rw [hn] at hbl
  simp only at hfk16 hvv
  rw [List.length_append] at hnf hfk16
  have hbf : bs.length ≤ fk.length := by rw [hbl]; exact (lcp_le _ _).1
  obtain ⟨at_, hat⟩ : ∃ m, m = pfx.length := ⟨_, rfl⟩
  obtain ⟨en, hen⟩ : ∃ m, m = pfx.length + bs.length := ⟨_, rfl⟩
  have hcf := q3.cap
  have hsh : Hid (Calls Try.prog 138 #[.slice (some p) n c] (rnW w) fun e w' => e = .returned (.int .i64 (en : Nat)) ∧ ∃ k, w' = (rnW w).drewN k) :=
    (ref_shared (h.below hB1) (psrt_pre.2 hs) (by omega) hnm hk).mono fun e w' ⟨e1, e2⟩ => ⟨by
      rw [e1, pre_getD _ (by omega), pre_getD _ (by omega), lcp_pre, hen, hbl, hfk], e2⟩
  have hcutk : ∀ w, (Instr.slice 27 (.slice af nf cf) (some (.int .i64 (at_ : Nat))) (some (.int .i64 (en : Nat))) none).run Try.prog w = .ok (.slice (cutA af cf at_ 1) (en - at_) (cf - at_)) w := fun w => run_cut8 w af nf cf at_ en (by omega) (by omega)
  have hsb := q3.cut (lo := at_) (hi := en) (by omega) (by omega)
  have ebs : ((pfx ++ fk).take en).drop at_ = bs := by
    rw [hen, hat, List.take_append, List.take_of_length_le (by omega), Nat.add_sub_cancel_left, List.drop_left, ← hbt]
  rw [ebs] at hsb
  have hpre : pre pfx l = pre (pfx ++ bs) l2 := by rw [hS.eq, pre_pre]
  have HPb : Hid (Prs w0 (some p) n c (pre (pfx ++ bs) l2)) := by rw [← hpre]; exact h
  have hbb : Hid (∀ x ∈ bs, x < 256) := hsb.at_.1
  have hq : Hid ((pfx ++ bs).length = en) := by show _ = _; rw [List.length_append, hen]
  have i0 : (0 : Int) ≤ (at_ : Int) := by omega
  have i1 : (at_ : Int) ≤ (en : Int) := by omega
  have i2 : (en : Int) ≤ (cf : Int) := by omega
  have i3 : (en : Int) ≤ (nf : Int) := by omega
  have i4 : ((n : Int) == 0) = false := by rw [beq_eq_false_iff_ne]; omega
  have i5 : ((n : Int) == 1) = false := by rw [beq_eq_false_iff_ne]; omega
  have i6 : (0 : Int) < (n : Int) := by omega
  have i6n : 0 < n := by omega
  have HS := Lib.hid hS
  have Hvv := Lib.hid hvv
  have Hhs := Lib.hid hs
  have Hk2 : Hid (∀ x ∈ pre (pfx ++ bs) l2, x.1.length ≤ 65535) := by rw [← hpre]; exact hk
  have Hn2 : Hid (l2.length = n ∧ n ≤ N + 1) := by
    show _ ∧ _
    have := congrArg List.length hS.eq
    rw [pre_length] at this
    omega
  have Hfk : Hid (fk = bs ++ (l2.getD 0 ([], 0)).1 ∧ fv = (l2.getD 0 ([], 0)).2) := by
    show _ ∧ _
    have h3 := hS.two
    have h4 := pre_getD bs (r := l2) (i := 0) (by omega)
    rw [← hS.eq] at h4
    exact ⟨by rw [hfk, h4], by rw [hfv, h4]⟩
  have hnfe : Hid (nf = pfx.length + fk.length ∧ en = pfx.length + bs.length) := ⟨hnf.symm, hen⟩
  have hen16 : en ≤ 65535 := by omega
  have hrb := six_new w (.int .i64 0) (.slice none 0 0) (.bool false) (.int .u64 0) (.slice none 0 0) (.slice none 0 0) rnT
  have HSB := Lib.hid hsb
  have HB0 := Lib.hid hb0
  have HB1 := Lib.hid hB1
  have hKx : Hid (∀ wr, Below w0.heap.size w0 wr → wr.cell? p = some (.slice af nf cf) ∧ wr.cell? ⟨p.block, p.off + 1, none⟩ = some (.int .u64 fv)) := fun wr hw =>
    ⟨(hw.cell (cell_lt q1)).trans q1, (hw.cell (p := ⟨p.block, p.off + 1, none⟩) (cell_lt q2)).trans q2⟩
  have hwsz : Hid ((rnW w).heap.size = w.heap.size + 1) := World.size_alloc _ _
  have HW1 : Hid (Below w.heap.size w (rnW w)) := (Below.refl _ w).alloc (Nat.le_refl _) _
  have hRB : Hid ((rnW w).heap[w.heap.size]? = some (.cells [.int .i64 0, .slice none 0 0, .bool false, .int .u64 0, .slice none 0 0, .slice none 0 0].toArray rnT (0, 0))) := hrb
  have HPL : Hid (p.block < w0.heap.size) := cell_lt q1
  rw [← hat]
  clear hbt hbl hn h2 hN h hs hk q3 hfm hfk hfv hnf hfk16 hvv hbf hat hen hcf hsb ebs hpre hS HP q1 q2 hb0 hB1 hrb
  generalize cutA af cf at_ 1 = ab at *
  generalize en - at_ = pn at *
  generalize cf - at_ = pc at *
  go_enter Try.func109, Try.ntmps109
  go_upto_region 5 with (fail)
  change Code.wp _ _ _ _ (rnW w)
  generalize hw1 : rnW w = w1 at *
  obtain ⟨k0, k1⟩ := hKx.out w1 HB1.out
  go_upto_if 43 with (go_at_call 138; refine hsh.out.mono ?_; rintro e w2 ⟨rfl, nk, hw2⟩; have HW2 := Lib.hid (show Below w1.heap.size w1 w2 by rw [hw2]; exact below_drewN (Below.refl _ _) nk); clear hw2; have HBW := Lib.hid (HB1.out.trans (HW2.out.mono HB1.out.size)); obtain ⟨k0, k1⟩ := hKx.out w2 HBW.out; have kA : ∀ o, (w2.alloc o).cell? p = some (.slice af nf cf) := fun o => (hKx.out _ (HBW.out.alloc HBW.out.size o)).1)
  change Code.wp _ _ _ _ (w2.alloc (.cells #[.int .i64 0, .slice ab pn pc, .bool false, .int .u64 0, .slice none 0 0, .slice none 0 0] rnT))
  have hV0 := VB.start (w0 := w0) HW2.out (.slice ab pn pc)
  have hk3 := Lib.hid (hKx.out (w2.alloc (.cells #[.int .i64 0, .slice ab pn pc, .bool false, .int .u64 0, .slice none 0 0, .slice none 0 0] rnT)) (HB1.out.trans (hV0.since.mono HB1.out.size)))
  generalize w2.alloc (.cells #[.int .i64 0, .slice ab pn pc, .bool false, .int .u64 0, .slice none 0 0, .slice none 0 0] rnT) = w3 at *
  generalize w2.heap.size = nn at *
  have HV0 := Lib.hid hV0
  clear hV0 hsh hw1 hKx HW2 hcutk
  go_cut [7] from 9 (fun s7 w' => ∃ (hs : Bool) (val : Int) (l3 : PL), s7 = .int .i64 ((if hs then 1 else 0 : Nat) : Int) ∧ VB w0 w1 nn (.slice ab pn pc) hs val [] [] [] (.slice none 0 0) (.slice none 0 0) none none w' ∧ l2 = (if hs then [([], val)] else []) ++ l3 ∧ BldR l3 [] l3 ∧ (0 ≤ val ∧ val < 18446744073709551616) ∧ (hs = false → val = 0))
  case first =>
    by_cases hf : nf = en
    · have hfe : ((nf : Int) == (en : Int)) = true := by rw [beq_iff_eq]; omega
      obtain ⟨z0, z1⟩ := hk3.out
      obtain ⟨y0, y1, y2, y3, y4, y5, y6⟩ := HV0.out.facts
      have y62 := y6 2
      have y63 := y6 3
      have hHas := Lib.hid (HV0.out.has fv)
      have hpl : p.block < w0.heap.size := HPL.out
      have hpn : ¬ p.block = nn := by have := HV0.out.nbn; have := HB1.out.size; omega
      have hpn2 : ¬ nn = p.block := fun e => hpn e.symm
      clear y6
      go_wp2_with fail
      go_region_held3 (fun w' => w'.cell? ⟨p.block, p.off + 1, none⟩ = some (.int .u64 fv)) (first | go_keep) (fail)
      all_goals
        go_wp2_with fail
        go_meet
      case rel =>
        have h0 : (l2.getD 0 ([], 0)).1 = [] := by
          have q1 := congrArg List.length Hfk.out.1
          rw [List.length_append] at q1
          have := hnfe.out
          exact List.eq_nil_of_length_eq_zero (by omega)
        obtain ⟨l3, e3, HR0⟩ := start_has HS.out (prs_bytes HPb.out) h0
        rw [← Hfk.out.2] at e3
        exact ⟨true, fv, l3, rfl, hHas.out.below (Below.refl _ _).drew, e3, HR0, Hvv.out, by simp⟩
    · have hfe : ((nf : Int) == (en : Int)) = false := by rw [beq_eq_false_iff_ne]; omega
      go_wp2_with fail
      go_meet
      case rel =>
        have h0 : (l2.getD 0 ([], 0)).1 ≠ [] := fun e => by
          have q1 := congrArg List.length Hfk.out.1
          rw [List.length_append, e] at q1
          have := hnfe.out
          simp at q1
          omega
        exact ⟨false, 0, l2, rfl, HV0.out, rfl, start_no HS.out (prs_bytes HPb.out) h0, by omega, fun _ => rfl⟩
  case rest =>
    clear hk3 HV0 k0 k1 kA HBW
    obtain ⟨hs, val, l3, rfl, hV0, e3, hR0, hv, hz0⟩ := hcut
    have HV0 := Lib.hid hV0
    have HR0 := Lib.hid hR0
    have E3 := Lib.hid e3
    have Hv := Lib.hid hv
    have Hz0 := Lib.hid hz0
    have hdn0 : Hid (∃ dn, l2 = dn ++ l3 ∧ dn.length = (if hs then 1 else 0)) := ⟨_, e3, by cases hs <;> rfl⟩
    have hsz0 : (if hs then 1 else 0) + l3.length = n := by
      have := Hn2.out.1
      rw [e3, List.length_append] at this
      cases hs <;> simpa using this
    clear hV0 hR0 e3 hv hz0
    generalize (if hs = true then 1 else 0) = i0n at *
    go_wp2_with fail
    go_loopw [7] (fun v7 wr => ∃ (i : Nat) (L : List (Nat × Tr)) (r : PL) (cs : List (List Value)) (bv kv : Value) (bo1 bo2 : Option Nat), v7 = .int .i64 (i : Nat) ∧ i + r.length = n ∧ Hid (∃ dn, l2 = dn ++ r ∧ dn.length = i) ∧ Hid (BldR l3 L r) ∧ Hid (VB w0 w1 nn (.slice ab pn pc) hs val (L.map (·.1)) (L.map (·.2)) cs bv kv bo1 bo2 wr)) (fun v7 _ => (n - intOf v7).toNat)
    case atStart => exact ⟨i0n, [], l3, [], _, _, none, none, rfl, hsz0, hdn0, HR0, HV0⟩
    case round =>
      clear HV0 HR0 hdn0 hsz0
      obtain ⟨i, L, r, cs, bv, kv, bo1, bo2, rfl, hir, Hdn, HR, HV⟩ := hrel
      obtain ⟨wo, rfl⟩ : ∃ wo : World, wo = wr := ⟨_, rfl⟩
      have Bw := Lib.hid (HB1.out.trans (HV.out.since.mono HB1.out.size))
      by_cases hin : i < n
      · have j1 : (i : Int) < (n : Int) := by omega
        have j0 : (0 : Int) ≤ (i : Int) := by omega
        have hrne : r ≠ [] := fun e => by rw [e] at hir; simp at hir; omega
        obtain ⟨b, g, r2, e1, hg, sg, hb256, hbL, hr2, hnext⟩ := HR.out.next hrne
        have E1 := Lib.hid e1
        have hr2 := Lib.hid hr2
        have hnext := Lib.hid hnext
        have hbL := Lib.hid hbL
        have hgN : Hid (g.length ≤ N) := group_small HS.out E3.out HR.out e1 (by have := Hn2.out; omega)
        have hg0 := Lib.hid hg
        have hsg := Lib.hid sg
        obtain ⟨G, hG⟩ : ∃ G, G = g.length := ⟨_, rfl⟩
        have HG := Lib.hid hG
        have hG1 : 1 ≤ G := by
          cases g with
          | nil => exact absurd rfl hg
          | cons x g => rw [hG]; simp
        have hGn : i + G ≤ n := by
          have : r.length = G + r2.length := by rw [e1, hG]; simp
          omega
        have hAt : Hid (∀ m, m < G → ∃ p3 n3 c3, w0.cell? (p.add ((i + m) * 2)) = some (.slice (some p3) n3 c3) ∧ (en : Int) < (n3 : Int) ∧ w0.cell? (p3.add en) = some (.int .u8 (b : Nat))) := fun m hm => by
          obtain ⟨dn, q1, q2⟩ := Hdn.out
          have q3 := left_at q1 q2 m
          obtain ⟨p', p3, n3, c3, hp, z1, z2, z3⟩ := key_at HPb.out (i := i + m) (by omega) (d := b) (s := (g.getD m ([], 0)).1) (by rw [q3]; exact head_in e1 (by omega))
          obtain rfl : p = p' := by simpa using hp
          rw [hq.out] at z2 z3
          exact ⟨p3, n3, c3, z1, by omega, z3⟩
        have hOut : Hid (i + G < n → ∃ p3 n3 c3 d, w0.cell? (p.add ((i + G) * 2)) = some (.slice (some p3) n3 c3) ∧ (en : Int) < (n3 : Int) ∧ w0.cell? (p3.add en) = some (.int .u8 (d : Nat)) ∧ b < d) := fun hlt => by
          obtain ⟨dn, q1, q2⟩ := Hdn.out
          have q3 := left_at q1 q2 G
          obtain ⟨d, s, e5, hd⟩ := head_out e1 hr2.out (by rw [← hG]; omega)
          rw [← hG] at e5
          obtain ⟨p', p3, n3, c3, hp, z1, z2, z3⟩ := key_at HPb.out (i := i + G) hlt (d := d) (s := s) (by rw [q3]; exact e5)
          obtain rfl : p = p' := by simpa using hp
          rw [hq.out] at z2 z3
          exact ⟨p3, n3, c3, d, z1, by omega, z3, hd⟩
        obtain ⟨pI, nI, cI, zI1, zI2, zI3⟩ := hAt.out 0 (by omega)
        rw [Nat.add_zero] at zI1
        have ien : (0 : Int) ≤ (en : Int) := by omega
        clear e1 hg sg hG hrne
        obtain ⟨E, hE⟩ : ∃ E, E = i + G := ⟨_, rfl⟩
        rw [← hE] at hOut hGn
        have HE := Lib.hid hE
        have hiE : i < E := by omega
        have hAtQ : Hid (∀ q, i ≤ q → q < E → ∃ p3 n3 c3, w0.cell? (p.add (q * 2)) = some (.slice (some p3) n3 c3) ∧ (en : Int) < (n3 : Int) ∧ w0.cell? (p3.add en) = some (.int .u8 (b : Nat))) := fun q h1 h2 => by
          have := hAt.out (q - i) (by omega)
          rwa [show i + (q - i) = q by omega] at this
        clear hE
        go_upto_block 2 with fail
        go_cut [8] from 55 to 79 (fun s8 w' => s8 = .int .i64 ((E : Nat) : Int) ∧ ∃ k, w' = wo.drewN k)
        case first =>
          go_wp2_with fail
          go_loopw [8] (fun v8 wr => ∃ q : Nat, v8 = .int .i64 (q : Nat) ∧ i ≤ q ∧ q ≤ E ∧ Hid (∃ k, wr = wo.drewN k)) (fun v8 _ => (E - intOf v8).toNat)
          case atStart => exact ⟨i, rfl, by omega, by omega, 0, rfl⟩
          case round =>
            obtain ⟨q, rfl, hq1, hq2, hwd⟩ := hrel
            have hBr : Hid (Below w0.heap.size w0 wr) := by obtain ⟨k, rfl⟩ := hwd.out; exact below_drewN Bw.out k
            have y0 := (hBr.out.cell (cell_lt zI1)).trans zI1
            have y1 := (hBr.out.cell (cell_lt zI3)).trans zI3
            have j4 : (0 : Int) ≤ (q : Int) := by omega
            by_cases hqn : q < n
            · have j5 : (q : Int) < (n : Int) := by omega
              by_cases hqG : q < E
              · obtain ⟨p3, n3, c3, z1, z2, z3⟩ := hAtQ.out q hq1 hqG
                have z1 := (hBr.out.cell (cell_lt z1)).trans z1
                have z3 := (hBr.out.cell (cell_lt z3)).trans z3
                have hw9 : IntKind.i64.wrap (((q : Nat) : Int) + 1) = ((q + 1 : Nat) : Int) := by rw [show ((q : Nat) : Int) + 1 = ((q + 1 : Nat) : Int) by omega]; exact IntWalk.i64_in _ (by omega)
                go_wp2_with fail
                go_quiet (fail)
                go_wp2_with fail
                go_roundw
                case rel => exact ⟨q + 1, (by first | rfl | go_num), by omega, by omega, by obtain ⟨k, rfl⟩ := hwd.out; exact ⟨k + nq, by simp⟩⟩
                case measure => (simp [intOf]) <;> omega
              · obtain rfl : q = E := by omega
                obtain ⟨p3, n3, c3, d, z1, z2, z3, hd⟩ := hOut.out hqn
                have z1 := (hBr.out.cell (cell_lt z1)).trans z1
                have z3 := (hBr.out.cell (cell_lt z3)).trans z3
                have j9 : (((d : Nat) : Int) == ((b : Nat) : Int)) = false := by rw [beq_eq_false_iff_ne]; omega
                go_wp2_with fail
                go_quiet (fail)
                go_wp2_with fail
                go_meet
                case rel => exact ⟨rfl, by obtain ⟨k, rfl⟩ := hwd.out; exact ⟨k + nq, by simp⟩⟩
            · obtain rfl : q = E := by omega
              have j5 : ¬ (q : Int) < (n : Int) := by omega
              go_wp2_with fail
              go_quiet (fail)
              go_wp2_with fail
              go_meet
              case rel => exact ⟨rfl, by obtain ⟨k, rfl⟩ := hwd.out; exact ⟨k + nq, by simp⟩⟩
        case rest =>
          obtain ⟨rfl, hwc⟩ := hcut
          have HVc : Hid (VB w0 w1 nn (.slice ab pn pc) hs val (L.map (·.1)) (L.map (·.2)) cs bv kv bo1 bo2 wc) := by obtain ⟨k, rfl⟩ := hwc; exact HV.out.drewN k
          clear hwc HV
          have Bc := Lib.hid (HB1.out.trans (HVc.out.since.mono HB1.out.size))
          have h256 : (L.map (·.1)).length ≤ 256 := ups256 HR.out.up fun x hx => by obtain ⟨y, hy, rfl⟩ := List.mem_map.1 hx; exact (HR.out.kids y hy).1
          have h256k : Hid ((L.map (·.2)).length ≤ 256) := by show _ ≤ _; rw [List.length_map] at h256 ⊢; exact h256
          have h256b := Lib.hid h256
          clear h256
          go_upto_region 15 with fail
          go_cut [] from 80 to 92 (fun w' => ∃ (vB : Value) (bo1' : Option Nat), VB w0 w1 nn (.slice ab pn pc) hs val (L.map (·.1) ++ [b]) (L.map (·.2)) cs vB kv bo1' bo2 w')
          case first =>
            have y0 := (Bc.out.cell (cell_lt zI1)).trans zI1
            have y1 := (Bc.out.cell (cell_lt zI3)).trans zI3
            have y0A : ∀ o, (wc.alloc o).cell? (p.add (i * 2)) = some (.slice (some pI) nI cI) := fun o => ((Bc.out.alloc Bc.out.size o).cell (cell_lt zI1)).trans zI1
            have y1A : ∀ o, (wc.alloc o).cell? (pI.add en) = some (.int .u8 (b : Nat)) := fun o => ((Bc.out.alloc Bc.out.size o).cell (cell_lt zI3)).trans zI3
            obtain ⟨v0, v1_, v2, v3, v4, v5, v6⟩ := HVc.out.facts
            have v4A : ∀ o, (wc.alloc o).cell? ⟨nn, 4, none⟩ = some bv := fun o => (HVc.out.below ((Below.refl _ wc).alloc (Nat.le_refl _) o)).facts.2.2.2.2.1
            have hone : Hid (∀ u ∈ ([.int .u8 (b : Nat)] : List Value), u.oneCell' = true) := by intro u hu; simp only [List.mem_singleton] at hu; subst hu; rfl
            have HVX := Lib.hid (HVc.out.below ((Below.refl _ wc).alloc (Nat.le_refl _) (.cells #[.int .u8 (b : Nat)] 5)).drew)
            have hnews : Hid (∀ j u, ([.int .u8 (b : Nat)] : List Value)[j]? = some u → (wc.alloc (.cells #[.int .u8 (b : Nat)] 5)).drew.cell? ((⟨wc.heap.size, 0, none⟩ : Addr).add j) = some u) := news_alloc wc [.int .u8 (b : Nat)] 5
            have hob := Lib.hid HVX.out.ob
            clear v6
            go_region_law (refine step_b rfl (.tmp 81) (.tmp 90) rfl bv rfl (L.map (·.1)).length (bV (L.map (·.1))) bo1 hob.out ⟨wc.heap.size, 0, none⟩ 1 [.int .u8 (b : Nat)] rfl rfl hnews.out hone.out h256b.out ?_; intro vB w5 bo1' HO HM HN; obtain ⟨aB, cB, hvB, _⟩ := HO.out.len; subst hvB; obtain ⟨s4, s5, f4, f5⟩ := HVX.out.boxAt HM.out HVX.out.ne1; have HVb := Lib.hid (HVX.out.byte b HO.out HM.out HN.out); clear HO HM HN)
            all_goals
              go_wp2_with fail
              go_meet
            all_goals
              exact ⟨.slice aB (L.length + 1) cB, bo1', by have := HVb.out; rw [List.length_map] at this; exact this⟩
          case rest =>
            obtain ⟨vB, bo1', hVb⟩ := hcut
            obtain ⟨w6, rfl⟩ : ∃ w6 : World, w6 = wc := ⟨_, rfl⟩
            have HVb := Lib.hid hVb
            clear hVb HVc Bc
            have Bd := Lib.hid (HB1.out.trans (HVb.out.since.mono HB1.out.size))
            have hcutP : ∀ w, (Instr.slice 53 (.slice (some p) n c) (some (.int .i64 (i : Nat))) (some (.int .i64 (E : Nat))) none).run Try.prog w = .ok (.slice (cutA (some p) c i 2) (E - i) (c - i)) w := fun w => run_cutK w (some p) n c i E (by omega) (Nat.le_trans hGn HPb.out.cap)
            have hBld : Hid (Calls Try.prog 109 #[.slice (cutA (some p) c i 2) (E - i) (c - i), .int .i64 ((en : Int) + 1)] w6.drew (bldPost w0 g w6.drew)) := by
              have hP2 := HPb.out.cut (lo := i) (hi := E) (by omega) hGn
              have hl2 : ((pre (pfx ++ bs) l2).take E).drop i = pre (pfx ++ bs ++ [b]) g := by
                obtain ⟨dn, q1, q2⟩ := Hdn.out
                rw [q1, E1.out, pre_append, pre_append, pre_pre, HE.out, HG.out, ← q2]
                rw [List.take_append, List.take_of_length_le (by simp), pre_length, Nat.add_sub_cancel_left, List.drop_append_of_le_length (by simp), List.drop_of_length_le (by simp), List.nil_append, List.take_append_of_le_length (by simp), List.take_of_length_le (by simp)]
              rw [hl2] at hP2
              have hbnd : ∀ x ∈ pre (pfx ++ bs ++ [b]) g, x.1.length ≤ 65535 := fun x hx => by
                refine Hk2.out x ?_
                rw [← hl2] at hx
                exact List.mem_of_mem_take (List.mem_of_mem_drop hx)
              have := IH g (pfx ++ bs ++ [b]) _ _ _ w6.drew hgN.out hg0.out hP2 hsg.out hbnd Bd.out.drew
              rwa [show (((pfx ++ bs ++ [b]).length : Nat) : Int) = (en : Int) + 1 by rw [List.length_append, hq.out]; rfl] at this
            have hwe : IntKind.i64.wrap ((en : Int) + 1) = ((en + 1 : Nat) : Int) := by rw [show (en : Int) + 1 = ((en + 1 : Nat) : Int) by omega]; exact IntWalk.i64_in _ (by omega)
            have m0 : (0 : Int) ≤ (i : Int) := by omega
            have m1 : (i : Int) ≤ (E : Int) := by omega
            have m2 : (E : Int) ≤ (n : Int) := by omega
            have m3 : (E : Int) ≤ (c : Int) := by have := HPb.out.cap; omega
            have hSz : Hid (w0.heap.size ≤ w1.heap.size) := HB1.out.size
            generalize cutA (some p) c i 2 = a7 at *
            generalize E - i = n7 at *
            generalize c - i = c7 at *
            go_upto_region 16 with fail
            go_cut [] from 93 to 104 (fun w' => ∃ (t : Tr) (cT : List Value) (vK : Value) (bo2' : Option Nat), VB w0 w1 nn (.slice ab pn pc) hs val (L.map (·.1) ++ [b]) (L.map (·.2) ++ [t]) (cs ++ [cT]) vB vK bo1' bo2' w' ∧ IsN t ∧ TOk t ∧ Can t ∧ tl t = g)
            case first =>
              obtain ⟨v0, v1_, v2, v3, v4, v5, v6⟩ := HVb.out.facts
              clear v6
              go_region_law (first
                | (have hk9 := hok.out; refine step_rn rfl (.tmp 94) (.tmp 102) rfl kv rfl (L.map (·.2)).length cs.flatten bo2 hok.out ⟨w7.heap.size, 0, none⟩ 1 [.int .i64 kd, .slice pa2 pn2 pc2, .bool hs2, .int .u64 vv2, .slice ba2 bn2 bc2, .slice ka2 kn2 kc2] rfl rfl hnews6.out hone6.out h256k.out ?_; intro vK w8 bo2' HO HM HN; obtain ⟨aK, cK, hvK, _⟩ := HO.out.len; subst hvK; obtain ⟨s4, s5, f4, f5⟩ := HVY.out.boxAt HM.out HVY.out.ne2; have HVk := Lib.hid (HVY.out.kid t [.int .i64 kd, .slice pa2 pn2 pc2, .bool hs2, .int .u64 vv2, .slice ba2 bn2 bc2, .slice ka2 kn2 kc2] rfl hR8.out HO.out HM.out HN.out); clear HO HM HN)
                | (go_simp; go_at_call 109; refine hBld.out.mono ?_; rintro e w7 ⟨t, kd, pa2, pn2, pc2, hs2, vv2, ba2, bn2, bc2, ka2, kn2, kc2, rfl, hRT, tN, tO, tC, tE, hB7⟩
                   have HV7 := Lib.hid ((HVb.out.drewN 1).below hB7)
                   have hA : Hid (Below w7.heap.size w7 (w7.alloc (.cells #[.int .i64 kd, .slice pa2 pn2 pc2, .bool hs2, .int .u64 vv2, .slice ba2 bn2 bc2, .slice ka2 kn2 kc2] rnT))) := (Below.refl _ w7).alloc (Nat.le_refl _) _
                   have HVY := Lib.hid (HV7.out.below hA.out)
                   have hR8 : Hid (RT (w7.alloc (.cells #[.int .i64 kd, .slice pa2 pn2 pc2, .bool hs2, .int .u64 vv2, .slice ba2 bn2 bc2, .slice ka2 kn2 kc2] rnT)) (Gd w0 w1 nn bo1' bo2 (w7.alloc (.cells #[.int .i64 kd, .slice pa2 pn2 pc2, .bool hs2, .int .u64 vv2, .slice ba2 bn2 bc2, .slice ka2 kn2 kc2] rnT))) t none 0 [.int .i64 kd, .slice pa2 pn2 pc2, .bool hs2, .int .u64 vv2, .slice ba2 bn2 bc2, .slice ka2 kn2 kc2]) := (hRT.keep hA.out.size (fun j hj => hA.out.block j hj.2)).mono fun j q => (HVb.out.drewN 1).gd hSz.out (Nat.le_trans hB7.size hA.out.size) j ⟨q.1, Nat.lt_of_lt_of_le q.2 hA.out.size⟩
                   have hnews6 := Lib.hid (news_alloc w7 [.int .i64 kd, .slice pa2 pn2 pc2, .bool hs2, .int .u64 vv2, .slice ba2 bn2 bc2, .slice ka2 kn2 kc2] rnT)
                   have hone6 : Hid (∀ u ∈ ([.int .i64 kd, .slice pa2 pn2 pc2, .bool hs2, .int .u64 vv2, .slice ba2 bn2 bc2, .slice ka2 kn2 kc2] : List Value), u.oneCell' = true) := by intro u hu; simp only [List.mem_cons, List.not_mem_nil, or_false] at hu; rcases hu with rfl | rfl | rfl | rfl | rfl | rfl <;> rfl
                   have hok := Lib.hid HVY.out.ok
                   have hT4 := Lib.hid (show IsN t ∧ TOk t ∧ Can t ∧ tl t = g from ⟨tN, tO, tC, tE⟩)
                   have v5b := HV7.out.facts.2.2.2.2.2.1
                   have v5A : ∀ o, (w7.alloc o).cell? ⟨nn, 5, none⟩ = some kv := fun o => (HV7.out.below ((Below.refl _ w7).alloc (Nat.le_refl _) o)).facts.2.2.2.2.2.1
                   clear hRT tN tO tC tE hB7))
              all_goals
                go_wp2_with fail
                go_meet
              all_goals
                exact ⟨t, _, .slice aK (L.length + 1) cK, bo2', by have := HVk.out; rw [List.length_map] at this; exact this, hT4.out⟩
            case rest =>
              obtain ⟨t, cT, vK, bo2', hVk, tN, tO, tC, tE⟩ := hcut
              have HVk := Lib.hid hVk
              have hR5 := Lib.hid (hnext.out t tN tO tC tE)
              have hdn5 : Hid (∃ dn, l2 = dn ++ r2 ∧ dn.length = E) := by
                obtain ⟨dn, q1, q2⟩ := Hdn.out
                exact ⟨dn ++ pre [b] g, by rw [q1, E1.out, List.append_assoc], by rw [List.length_append, pre_length, q2, HE.out, HG.out]⟩
              have hlen5 : Hid (E + r2.length = n) := by
                have q := hir
                rw [E1.out, List.length_append, pre_length, ← HG.out] at q
                have := HE.out
                show _ = _
                omega
              clear hVk hnext IH
              go_wp2_with fail
              go_roundw
              case rel => exact ⟨E, L ++ [(b, t)], r2, cs ++ [cT], vB, vK, bo1', bo2', rfl, hlen5.out, hdn5, hR5, by rw [List.map_append, List.map_append]; exact HVk.out⟩
              case measure => (simp [intOf]) <;> omega
      · have j1 : ¬ (i : Int) < (n : Int) := by omega
        obtain rfl : r = [] := List.eq_nil_of_length_eq_zero (by omega)
        obtain ⟨ba, bc, rfl, _⟩ := HV.out.ob.len
        obtain ⟨ka, kc, rfl, _⟩ := HV.out.ok.len
        have hB256 : ∀ x ∈ L.map (·.1), x < 256 := fun x hx => by obtain ⟨y, hy, rfl⟩ := List.mem_map.1 hx; exact (HR.out.kids y hy).1
        have hE := Lib.hid (bld_end HV.out HSB.out HB0.out HW1.out hwsz.out hRB.out hB256 (grow_end HS.out HR.out E3.out Hv.out Hz0.out hbb.out))
        have hL256 : L.length ≤ 256 := by have := ups256 HR.out.up hB256; rwa [List.length_map] at this
        have hKind : Hid (∀ wr, Calls Try.prog 8 #[.int .i64 (L.length : Nat)] wr fun e w' => e = .returned (.int .i64 (kindOf L.length : Nat)) ∧ wr = w') := fun wr => by
          have := refKind_any (L.length : Nat) wr
          rwa [kindZ_nat _ hL256] at this
        obtain ⟨v0, v1_, v2, v3, v4, v5, v6⟩ := HV.out.facts
        have v60 := v6 0
        rw [List.length_map] at v5
        rw [List.length_map, List.length_map] at hE
        clear v6 HV IH
        go_upto_region 19 with (go_at_call 8; refine (hKind.out _).mono ?_; rintro e w7 ⟨rfl, rfl⟩)
        obtain ⟨T, hT⟩ : ∃ T, T = wo.setCell ⟨nn, 0, none⟩ (.int .i64 (kindOf L.length : Nat)) := ⟨_, rfl⟩
        obtain ⟨yn, yr, hfin⟩ := hE.out T hT
        rw [← hT]
        obtain ⟨a0, a1, a2, a3, a4, a5, _⟩ := six_facts yn
        obtain ⟨b0, b1, b2, b3, b4, b5, g0, g1, g2, g3, g4, g5⟩ := six_facts yr
        have hfin := Lib.hid hfin
        clear hT yn yr hE
        go_wp2_with fail
        obtain ⟨⟨f0, f1, f2, f3, f4, f5⟩, hp⟩ := hfin.out _ rfl
        refine bodyPost_ret (v := .agg #[.int .i64 (kindOf L.length : Nat), .slice ab pn pc, .bool hs, .int .u64 val, .slice ba L.length bc, .slice ka L.length kc]) (by simp [results, Try.results109, go_sem, f0, f1, f2, f3, f4, f5]) rfl hp
end Go.Proofs.Ytgijnjdcpipfiaa
/- The document's Build. -/
namespace Go.Proofs.Ytgijnjdcpipfiaa
open Go.RowKit
theorem bld_any {w0 : World} : ∀ N, N ≤ 1000000 → BuildAsk w0 N
  | 0, _ => fun l pfx a n c w hN h0 => absurd (List.eq_nil_of_length_eq_zero (by omega)) h0
  | N + 1, hN1 => fun l pfx a n c w hN h0 h hs hk hb => by
    by_cases h2 : 2 ≤ l.length
    · exact bld_many N (by omega) (bld_any N (by omega)) l pfx a n c w hN h2 h hs hk hb
    · match l, h0, h2 with
      | [(k, v)], _, _ =>
        obtain rfl : n = 1 := h.len.symm
        exact bld_one k v pfx a c w h (hk (pfx ++ k, v) (by simp [pre])) hb
      | _ :: _ :: _, _, h2 => exact absurd (by simp) h2
abbrev six0 : Value := .agg #[.int .i64 0, .slice none 0 0, .bool false, .int .u64 0, .slice none 0 0, .slice none 0 0]
set_option maxHeartbeats 1000000 in
theorem bld_none (w : World) (a : Option Addr) (c : Nat) (k : Int) : Calls Try.prog 109 #[.slice a 0 c, .int .i64 k] w fun e w' => e = .returned six0 ∧ Below w.heap.size w w' := by
  have hb : Hid (∀ o, Below w.heap.size w (w.alloc o)) := fun o => (Below.refl _ w).alloc (Nat.le_refl _) o
  go_enter Try.func109, Try.ntmps109
  go_wp2_with fail
  refine bodyPost_ret (v := six0) (by simp [results, Try.results109, go_sem, six0]) rfl ⟨rfl, hb.out _⟩
def docPost (l : PL) (w : World) (e : Ending) (w' : World) : Prop :=
  ∃ (kd : Int) (pa : Option Addr) (pn pc : Nat) (hs : Bool) (v : Int) (ba : Option Addr) (bn bc : Nat) (ka : Option Addr) (kn kc : Nat),
    e = .returned (.agg #[.int .i64 kd, .slice pa pn pc, .bool hs, .int .u64 v, .slice ba bn bc, .slice ka kn kc]) ∧ Below w.heap.size w w' ∧
    ((l = [] ∧ kd = 0 ∧ pn = 0 ∧ hs = false ∧ kn = 0) ∨ ∃ t, IsN t ∧ TOk t ∧ Can t ∧ tl t = l ∧ RT w' (fun j => j < w'.heap.size) t none 0 [.int .i64 kd, .slice pa pn pc, .bool hs, .int .u64 v, .slice ba bn bc, .slice ka kn kc])
/-- what the inner build leaves, told alike for none and for some -/
theorem bld_all {w0 w : World} {a : Option Addr} {n c : Nat} {l : PL} (h : Prs w0 a n c l) (hs : PSrt l) (hk : ∀ x ∈ l, x.1.length ≤ 65535) (hn : n ≤ 1000000) (hb : Below w0.heap.size w0 w) : Calls Try.prog 109 #[.slice a n c, .int .i64 0] w fun e w' =>
    ∃ (kd : Int) (pa : Option Addr) (pn pc : Nat) (hs : Bool) (v : Int) (ba : Option Addr) (bn bc : Nat) (ka : Option Addr) (kn kc : Nat),
      e = .returned (.agg #[.int .i64 kd, .slice pa pn pc, .bool hs, .int .u64 v, .slice ba bn bc, .slice ka kn kc]) ∧ Below w.heap.size w w' ∧
      ((l = [] ∧ kd = 0 ∧ pn = 0 ∧ hs = false ∧ kn = 0) ∨ ∃ t, IsN t ∧ TOk t ∧ Can t ∧ tl t = l ∧ RT w' (Gn w0 w w') t none 0 [.int .i64 kd, .slice pa pn pc, .bool hs, .int .u64 v, .slice ba bn bc, .slice ka kn kc]) := by
  by_cases h0 : l = []
  · subst h0
    obtain rfl : n = 0 := h.len.symm
    exact (bld_none w a c 0).mono fun e w' ⟨e1, e2⟩ => ⟨0, none, 0, 0, false, 0, none, 0, 0, none, 0, 0, e1, e2, Or.inl ⟨rfl, rfl, rfl, rfl, rfl⟩⟩
  · have := bld_any (w0 := w0) l.length (by rw [h.len]; exact hn) l [] a n c w (Nat.le_refl _) h0 (by rw [pre_none]; exact h) hs (by rw [pre_none]; exact hk) hb
    exact Calls.mono this fun e w' ⟨t, kd, pa, pn, pc, hs, v, ba, bn, bc, ka, kn, kc, q1, q2, q3, q4, q5, q6, q7⟩ => ⟨kd, pa, pn, pc, hs, v, ba, bn, bc, ka, kn, kc, q1, q7, Or.inr ⟨t, q3, q4, q5, q6, q2⟩⟩
set_option maxHeartbeats 1000000 in
set_option maxRecDepth 100000 in
theorem doc_build {w : World} {a : Option Addr} {n c : Nat} {l : PL} (h : Prs w a n c l) (hs : PSrt l) (hk : ∀ x ∈ l, x.1.length ≤ 65535) (hn : n ≤ 1000000) : Calls Try.prog 65 #[.slice a n c] w (docPost l w) := by
  have hBd := Lib.hid (bld_all h hs hk hn ((Below.refl _ w).alloc (Nat.le_refl _) (.cells #[.int .i64 0, .slice none 0 0, .bool false, .int .u64 0, .slice none 0 0, .slice none 0 0] rnT)))
  have hW : Hid (Below w.heap.size w (rnW w)) := (Below.refl _ w).alloc (Nat.le_refl _) _
  have hsz : Hid ((rnW w).heap.size = w.heap.size + 1) := World.size_alloc _ _
  have hbx : Hid ((rnW w).heap[w.heap.size]? = some (.cells [.int .i64 0, .slice none 0 0, .bool false, .int .u64 0, .slice none 0 0, .slice none 0 0].toArray rnT (0, 0))) := six_new w _ _ _ _ _ _ rnT
  clear h hs hk
  go_enter Try.func65, Try.ntmps65
  go_wp2_with (go_at_call 109; refine hBd.out.mono ?_; rintro e w2 ⟨kd, pa, pn, pc, hs, v, ba, bn, bc, ka, kn, kc, rfl, hB, hR⟩; have hb2 := (hB.block w.heap.size (by have := hsz.out; show _ < (rnW w).heap.size; omega)).trans hbx.out; obtain ⟨x0, x1, x2, x3, x4, x5, g0, g1, g2, g3, g4, g5⟩ := six_facts hb2; have hB := Lib.hid hB; have hR := Lib.hid hR; have hb2 := Lib.hid hb2)
  obtain ⟨z1, z2⟩ := six_fin hb2.out (.int .i64 kd) (.slice pa pn pc) (.bool hs) (.int .u64 v) (.slice ba bn bc) (.slice ka kn kc) _ rfl
  obtain ⟨f0, f1, f2, f3, f4, f5, _⟩ := six_facts z1
  refine bodyPost_ret (v := .agg #[.int .i64 kd, .slice pa pn pc, .bool hs, .int .u64 v, .slice ba bn bc, .slice ka kn kc]) (by simp [results, Try.results65, go_sem, f0, f1, f2, f3, f4, f5]) rfl ?_
  have hbw := hW.out.trans (hB.out.mono hW.out.size)
  refine ⟨kd, pa, pn, pc, hs, v, ba, bn, bc, ka, kn, kc, rfl, ⟨z2.os.trans hbw.os, z2.tape.trans hbw.tape, z2.output.trans hbw.output, Nat.le_trans hbw.size z2.size, fun j hj => (z2.same j (Nat.lt_of_lt_of_le hj hbw.size) (by omega)).trans (hbw.block j hj)⟩, ?_⟩
  rcases hR.out with q | ⟨t, q1, q2, q3, q4, q5⟩
  · exact Or.inl q
  · exact Or.inr ⟨t, q1, q2, q3, q4, (q5.keep z2.size fun j hj => z2.same j hj.2 (by have := hsz.out; rcases hj.1 with q | q <;> (try (have q : (rnW w).heap.size ≤ j := q)) <;> omega)).mono fun j hj => Nat.lt_of_lt_of_le hj.2 z2.size⟩
end Go.Proofs.Ytgijnjdcpipfiaa
/- The document's Steps. -/
namespace Go.Proofs.Ytgijnjdcpipfiaa
open Go.RowKit
theorem tstep_hit : ∀ {L : List (Nat × Tr)} {i b : Nat} {t : Tr} (r : List Nat), L[i]? = some (b, t) → (∀ (q : Nat) (x : Nat × Tr), q < i → L[q]? = some x → x.1 ≠ b) → tstep (ofL L) (b :: r) = tstep t r
  | [], i, b, t, r, h, _ => by simp at h
  | y :: L, 0, b, t, r, h, _ => by
    obtain rfl : y = (b, t) := by simpa using h
    simp [ofL, tstep]
  | y :: L, i + 1, b, t, r, h, hq => by
    have h0 := hq 0 y (by omega) rfl
    simp only [ofL, tstep, if_neg h0]
    exact tstep_hit r (by simpa using h) fun q x hqi hx => hq (q + 1) x (by omega) (by simpa using hx)
theorem tstep_miss : ∀ {L : List (Nat × Tr)} {b : Nat} (r : List Nat), (∀ (q : Nat) (x : Nat × Tr), L[q]? = some x → x.1 ≠ b) → tstep (ofL L) (b :: r) = 0
  | [], b, r, _ => rfl
  | y :: L, b, r, h => by
    have h0 := h 0 y rfl
    simp only [ofL, tstep, if_neg h0]
    exact tstep_miss r fun q x hx => h (q + 1) x (by simpa using hx)
/-- a kid's six cells -/
theorem rt_at {w : World} {G : Nat → Prop} : ∀ {L : List (Nat × Tr)} {ka : Option Addr} {i : Nat}, RT w G (ofL L) ka i [] → ∀ q x, L[q]? = some x → ∃ g c, ka = some ⟨g, 0, none⟩ ∧ G g ∧ c.length = 6 ∧ (∀ j, j < 6 → w.cell? ⟨g, (i + q) * 6 + j, none⟩ = c[j]?) ∧ RT w G x.2 none 0 c
  | [], _, _, _, q, x, h => by simp at h
  | y :: L, ka, i, ⟨⟨g, c, h1, h2, h3, h4, h5⟩, h6⟩, 0, x, h => by
    obtain rfl : y = x := by simpa using h
    exact ⟨g, c, h1, h2, h3, by simpa using h4, h5⟩
  | y :: L, ka, i, ⟨_, h6⟩, q + 1, x, h => by
    obtain ⟨g, c, h1, h2, h3, h4, h5⟩ := rt_at h6 q x (by simpa using h)
    exact ⟨g, c, h1, h2, h3, fun j hj => by rw [← h4 j hj]; congr 3; omega, h5⟩
/-- a row by its list -/
theorem rt_chain {w : World} {G : Nat → Prop} {ks : Tr} {ka : Option Addr} (h : RT w G ks ka 0 []) (h1 : IsK ks) (h2 : TOk ks) : RT w G (ofL (chain ks)) ka 0 [] := by rw [ofL_chain ks h1 h2]; exact h
end Go.Proofs.Ytgijnjdcpipfiaa
/- canon.Depth. -/
namespace Go.Proofs.Ytgijnjdcpipfiaa
open Go.RowKit
end Go.Proofs.Ytgijnjdcpipfiaa
/- The law FindSteps. -/
namespace Go.Proofs.Ytgijnjdcpipfiaa
open Go.RowKit
theorem tdep_le : ∀ (t : Tr) (m : Nat), TOk t → Can t → (∀ p ∈ tl t, p.1.length ≤ m) → (IsN t → tdep t ≤ m + 1) ∧ (IsK t → tdep t ≤ m)
  | .nil, m, _, _, _ => ⟨fun h => h.elim, fun _ => Nat.zero_le _⟩
  | .kid b t r, m, ⟨h1, h2, h3, h4, h5, h6⟩, ⟨c1, c2⟩, h => ⟨fun h => h.elim, fun _ => by
    obtain ⟨x, hx⟩ := List.exists_mem_of_ne_nil _ (tl_ne t h2 h3 c1)
    have hm : ∀ p ∈ tl t, p.1.length + 1 ≤ m := fun p hp => by
      have := h (b :: p.1, p.2) (List.mem_append.2 (Or.inl (List.mem_map.2 ⟨p, hp, rfl⟩)))
      simpa using this
    have h0 := hm x hx
    have a1 := (tdep_le t (m - 1) h3 c1 fun p hp => by have := hm p hp; omega).1 h2
    have a2 := (tdep_le r m h5 c2 fun p hp => h p (List.mem_append.2 (Or.inr hp))).2 h4
    simp only [tdep]
    omega⟩
  | .node bs v has leaf ks, m, ⟨h1, h2, h3, h4, h5, h6, h7⟩, ⟨c1, c2⟩, h => ⟨fun _ => by
    have a := (tdep_le ks m h7 c1 fun p hp => by
      have := h (bs ++ p.1, p.2) (List.mem_append.2 (Or.inr (List.mem_map.2 ⟨p, hp, rfl⟩)))
      rw [List.length_append] at this
      omega).2 h6
    simp only [tdep]
    omega, fun h => h.elim⟩
theorem treeV_n {Q : List NP} {t : Tr} {v : Value} (h : TreeV Q t v) : t = .nil ∨ IsN t := by
  rcases h with ⟨h, _⟩ | ⟨h, _⟩
  · exact Or.inl h
  · exact Or.inr h
theorem nil_of_tl {t : Tr} (h : t = .nil ∨ IsN t) (h1 : TOk t) (h2 : Can t) (h3 : tl t = []) : t = .nil := by
  rcases h with h | h
  · exact h
  · exact absurd h3 (tl_ne t h h1 h2)
end Go.Proofs.Ytgijnjdcpipfiaa
/- The document's bytes of a tree. -/
namespace Go.Proofs.Ytgijnjdcpipfiaa
open Go.RowKit
theorem can_of_sh : ∀ (t t' : Tr), sh t = sh t' → TOk t → TOk t' → Can t → Can t' → t = t'
  | .nil, .nil, _, _, _, _, _ => rfl
  | .nil, .kid .., h, _, _, _, _ => by cases h
  | .nil, .node .., h, _, _, _, _ => by cases h
  | .kid .., .nil, h, _, _, _, _ => by cases h
  | .kid .., .node .., h, _, _, _, _ => by cases h
  | .node .., .nil, h, _, _, _, _ => by cases h
  | .node .., .kid .., h, _, _, _, _ => by cases h
  | .kid b t r, .kid b' t' r', h, ⟨_, _, o1, _, o2, _⟩, ⟨_, _, o1', _, o2', _⟩, ⟨c1, c2⟩, ⟨c1', c2'⟩ => by
    simp only [sh, Tr.kid.injEq] at h
    obtain ⟨e1, e2, e3⟩ := h
    rw [e1, can_of_sh t t' e2 o1 o1' c1 c1', can_of_sh r r' e3 o2 o2' c2 c2']
  | .node bs v has leaf ks, .node bs' v' has' leaf' ks', h, ⟨_, _, _, _, l1, _, o1⟩, ⟨_, _, _, _, l1', _, o1'⟩, ⟨c1, c2⟩, ⟨c1', c2'⟩ => by
    simp only [sh, Tr.node.injEq] at h
    obtain ⟨e1, e2, e3, _, e4⟩ := h
    have e5 := can_of_sh ks ks' e4 o1 o1' c1 c1'
    subst e1; subst e2; subst e3; subst e5
    have : leaf = leaf' := by
      cases leaf with
      | true =>
        cases leaf' with
        | true => rfl
        | false =>
          have := c2' rfl
          rw [(l1 rfl).2] at this
          cases has <;> simp [chain] at this
      | false =>
        cases leaf' with
        | false => rfl
        | true =>
          have := c2 rfl
          rw [(l1' rfl).2] at this
          cases has <;> simp [chain] at this
    rw [this]
/-- two canonical trees of the same pairs are the same -/
theorem can_eq {t t' : Tr} (h : IsN t) (h' : IsN t') (o : TOk t) (o' : TOk t') (c : Can t) (c' : Can t') (e : tl t = tl t') : t = t' :=
  can_of_sh t t' (sh_eq t t' (Or.inl ⟨h, h'⟩) o o' c c' e) o o' c c'
set_option maxHeartbeats 1000000 in
theorem doc_head (w : World) (pv bv kv : Value) (v : Int) (has leaf : Bool) (ks : Tr) : Calls Try.prog 139 #[.agg #[.int .i64 (rkind leaf ks : Nat), pv, .bool has, .int .u64 v, bv, kv]] w (belowPost (.int .u8 (headN has leaf (chain ks).length : Nat)) w) := by
  have hR : (rkind leaf ks = 1 ∧ headN has leaf (chain ks).length = 0) ∨ (rkind leaf ks = 4 ∧ headN has leaf (chain ks).length = (if has then 16 else 0) + 1) ∨ (rkind leaf ks = 16 ∧ headN has leaf (chain ks).length = (if has then 16 else 0) + 2) ∨ (rkind leaf ks = 48 ∧ headN has leaf (chain ks).length = (if has then 16 else 0) + 3) ∨ (rkind leaf ks = 256 ∧ headN has leaf (chain ks).length = (if has then 16 else 0) + 4) := by
    cases leaf with
    | true => exact Or.inl ⟨rfl, rfl⟩
    | false =>
      rw [headN_kind]
      have e : rkind false ks = kindOf (chain ks).length := rfl
      rw [e]
      rcases kindOf_cases (chain ks).length with e | e | e | e <;> rw [e] <;> simp
  generalize rkind leaf ks = rk at *
  generalize headN has leaf (chain ks).length = hd at *
  rcases hR with ⟨rfl, rfl⟩ | ⟨rfl, rfl⟩ | ⟨rfl, rfl⟩ | ⟨rfl, rfl⟩ | ⟨rfl, rfl⟩
  · obtain ⟨wb, hwb⟩ : ∃ wb, wb = w.alloc (.cells #[.int .i64 ((1 : Nat) : Int), pv, .bool has, .int .u64 v, bv, kv] rnT) := ⟨_, rfl⟩
    have hbox : wb.heap[w.heap.size]? = some (.cells [.int .i64 ((1 : Nat) : Int), pv, .bool has, .int .u64 v, bv, kv].toArray rnT (0, 0)) := by rw [hwb]; exact six_new w _ _ _ _ _ _ rnT
    have hB : Below w.heap.size w wb := by rw [hwb]; exact (Below.refl _ w).alloc (Nat.le_refl _) _
    have HB := Lib.hid hB
    obtain ⟨x0, x1, x2, x3, x4, x5, _⟩ := six_facts hbox
    clear hB hbox
    cases has
    · go_enter Try.func139, Try.ntmps139
      go_upto_region 1 with fail
      rw [show (w.alloc (.cells #[.int .i64 1, pv, .bool false, .int .u64 v, bv, kv] rnT)) = wb from hwb.symm]
      clear hwb
      go_wp2_with fail
      go_ret
      exact ⟨rfl, HB.out⟩
    · go_enter Try.func139, Try.ntmps139
      go_upto_region 1 with fail
      rw [show (w.alloc (.cells #[.int .i64 1, pv, .bool true, .int .u64 v, bv, kv] rnT)) = wb from hwb.symm]
      clear hwb
      go_wp2_with fail
      go_ret
      exact ⟨rfl, HB.out⟩

  · obtain ⟨wb, hwb⟩ : ∃ wb, wb = w.alloc (.cells #[.int .i64 ((4 : Nat) : Int), pv, .bool has, .int .u64 v, bv, kv] rnT) := ⟨_, rfl⟩
    have hbox : wb.heap[w.heap.size]? = some (.cells [.int .i64 ((4 : Nat) : Int), pv, .bool has, .int .u64 v, bv, kv].toArray rnT (0, 0)) := by rw [hwb]; exact six_new w _ _ _ _ _ _ rnT
    have hB : Below w.heap.size w wb := by rw [hwb]; exact (Below.refl _ w).alloc (Nat.le_refl _) _
    have HB := Lib.hid hB
    obtain ⟨x0, x1, x2, x3, x4, x5, _⟩ := six_facts hbox
    clear hB hbox
    cases has
    · go_enter Try.func139, Try.ntmps139
      go_upto_region 1 with fail
      rw [show (w.alloc (.cells #[.int .i64 4, pv, .bool false, .int .u64 v, bv, kv] rnT)) = wb from hwb.symm]
      clear hwb
      go_wp2_with fail
      go_ret
      exact ⟨rfl, HB.out⟩
    · go_enter Try.func139, Try.ntmps139
      go_upto_region 1 with fail
      rw [show (w.alloc (.cells #[.int .i64 4, pv, .bool true, .int .u64 v, bv, kv] rnT)) = wb from hwb.symm]
      clear hwb
      go_wp2_with fail
      go_ret
      exact ⟨rfl, HB.out⟩

  · obtain ⟨wb, hwb⟩ : ∃ wb, wb = w.alloc (.cells #[.int .i64 ((16 : Nat) : Int), pv, .bool has, .int .u64 v, bv, kv] rnT) := ⟨_, rfl⟩
    have hbox : wb.heap[w.heap.size]? = some (.cells [.int .i64 ((16 : Nat) : Int), pv, .bool has, .int .u64 v, bv, kv].toArray rnT (0, 0)) := by rw [hwb]; exact six_new w _ _ _ _ _ _ rnT
    have hB : Below w.heap.size w wb := by rw [hwb]; exact (Below.refl _ w).alloc (Nat.le_refl _) _
    have HB := Lib.hid hB
    obtain ⟨x0, x1, x2, x3, x4, x5, _⟩ := six_facts hbox
    clear hB hbox
    cases has
    · go_enter Try.func139, Try.ntmps139
      go_upto_region 1 with fail
      rw [show (w.alloc (.cells #[.int .i64 16, pv, .bool false, .int .u64 v, bv, kv] rnT)) = wb from hwb.symm]
      clear hwb
      go_wp2_with fail
      go_ret
      exact ⟨rfl, HB.out⟩
    · go_enter Try.func139, Try.ntmps139
      go_upto_region 1 with fail
      rw [show (w.alloc (.cells #[.int .i64 16, pv, .bool true, .int .u64 v, bv, kv] rnT)) = wb from hwb.symm]
      clear hwb
      go_wp2_with fail
      go_ret
      exact ⟨rfl, HB.out⟩

  · obtain ⟨wb, hwb⟩ : ∃ wb, wb = w.alloc (.cells #[.int .i64 ((48 : Nat) : Int), pv, .bool has, .int .u64 v, bv, kv] rnT) := ⟨_, rfl⟩
    have hbox : wb.heap[w.heap.size]? = some (.cells [.int .i64 ((48 : Nat) : Int), pv, .bool has, .int .u64 v, bv, kv].toArray rnT (0, 0)) := by rw [hwb]; exact six_new w _ _ _ _ _ _ rnT
    have hB : Below w.heap.size w wb := by rw [hwb]; exact (Below.refl _ w).alloc (Nat.le_refl _) _
    have HB := Lib.hid hB
    obtain ⟨x0, x1, x2, x3, x4, x5, _⟩ := six_facts hbox
    clear hB hbox
    cases has
    · go_enter Try.func139, Try.ntmps139
      go_upto_region 1 with fail
      rw [show (w.alloc (.cells #[.int .i64 48, pv, .bool false, .int .u64 v, bv, kv] rnT)) = wb from hwb.symm]
      clear hwb
      go_wp2_with fail
      go_ret
      exact ⟨rfl, HB.out⟩
    · go_enter Try.func139, Try.ntmps139
      go_upto_region 1 with fail
      rw [show (w.alloc (.cells #[.int .i64 48, pv, .bool true, .int .u64 v, bv, kv] rnT)) = wb from hwb.symm]
      clear hwb
      go_wp2_with fail
      go_ret
      exact ⟨rfl, HB.out⟩

  · obtain ⟨wb, hwb⟩ : ∃ wb, wb = w.alloc (.cells #[.int .i64 ((256 : Nat) : Int), pv, .bool has, .int .u64 v, bv, kv] rnT) := ⟨_, rfl⟩
    have hbox : wb.heap[w.heap.size]? = some (.cells [.int .i64 ((256 : Nat) : Int), pv, .bool has, .int .u64 v, bv, kv].toArray rnT (0, 0)) := by rw [hwb]; exact six_new w _ _ _ _ _ _ rnT
    have hB : Below w.heap.size w wb := by rw [hwb]; exact (Below.refl _ w).alloc (Nat.le_refl _) _
    have HB := Lib.hid hB
    obtain ⟨x0, x1, x2, x3, x4, x5, _⟩ := six_facts hbox
    clear hB hbox
    cases has
    · go_enter Try.func139, Try.ntmps139
      go_upto_region 1 with fail
      rw [show (w.alloc (.cells #[.int .i64 256, pv, .bool false, .int .u64 v, bv, kv] rnT)) = wb from hwb.symm]
      clear hwb
      go_wp2_with fail
      go_ret
      exact ⟨rfl, HB.out⟩
    · go_enter Try.func139, Try.ntmps139
      go_upto_region 1 with fail
      rw [show (w.alloc (.cells #[.int .i64 256, pv, .bool true, .int .u64 v, bv, kv] rnT)) = wb from hwb.symm]
      clear hwb
      go_wp2_with fail
      go_ret
      exact ⟨rfl, HB.out⟩
end Go.Proofs.Ytgijnjdcpipfiaa
/- Bytes behind bytes: append of any slice of bytes, also of none. -/
namespace Go.Proofs.Ytgijnjdcpipfiaa
open Go.RowKit
theorem run_append_no (w : World) (t ty : TypeId) (ht : Try.prog.underlying t = some (.slice u8T)) (b : Option Addr) (n cap c : Nat) (hle : n ≤ cap) : (Builtin.append_ #[t, t] ty #[.slice b n cap, .slice none 0 c]).run Try.prog w = .ok (.slice b n cap) w := by
  obtain ⟨i, hi, hz, hsize, hby⟩ := info_parts cloneB_info
  have hu : ∀ w, (underlying t).run Try.prog w = .ok (.slice u8T) w := fun w => by simp [underlying, go_sem, ht]
  have hs : ∀ w, (sizeOf u8T).run Try.prog w = .ok 1 w := fun w => by
    have hi' : Try.prog.info? u8T = some i := hi
    simp [sizeOf, typeInfo, go_sem, hi', hsize]
  cases b with
  | none =>
    simp only [Builtin.append_, Sem.run_bind, Result.andThen_ok, hu, hs, List.getElem?_toArray, List.getElem?_cons_zero, List.getElem?_cons_succ]
    simp [go_sem, hu, hs, hle, storeCells]
  | some p =>
    simp only [Builtin.append_, Sem.run_bind, Result.andThen_ok, hu, hs, List.getElem?_toArray, List.getElem?_cons_zero, List.getElem?_cons_succ]
    simp [go_sem, hu, hs, hle, storeCells]
theorem run_append_l {w : World} {v : Value} {n : Nat} {zs : List Nat} {bo : Option Nat} (h : OwnS 1 u8T w v n (bV zs) bo) {a : Option Addr} {m c : Nat} {ys : List Nat} (hS : Sl w a m c ys) (hn : n ≤ 1000000) (hm : m ≤ 1000000) (ty : TypeId) :
    ∃ v' w' bo', (Builtin.append_ #[27, 27] ty #[v, .slice a m c]).run Try.prog w = .ok v' w' ∧ OwnS 1 u8T w' v' (n + m) (bV zs ++ bV ys) bo' ∧ Mod (fun j => bo = some j) w w' ∧ NewOr w bo bo' := by
  have hl := hS.len
  cases a with
  | none =>
    obtain ⟨rfl, rfl⟩ := hS.nil rfl
    obtain rfl : ys = [] := List.eq_nil_of_length_eq_zero hl
    obtain ⟨b, cap, rfl, h1, _⟩ := h.len
    exact ⟨_, w, bo, run_append_no w 27 ty Try.underlying27 b n cap 0 h1, by simpa [bV] using h, Mod.refl _ _, Or.inl rfl⟩
  | some p =>
    obtain ⟨i, hi, hz, hsize, hby⟩ := info_parts cloneB_info
    exact run_append_s w 27 ty u8T i _ 1 1 Try.underlying27 hi hz hsize hby rfl (by omega) v n (bV zs) bo h p m c (bV ys) (by simp [bV, hl]) (sl_news hS (Below.refl _ w)) (bV_one ys) (by unfold maxLen; omega) (by omega)
theorem wpList_l {w : World} {ops : Array Oper} {rest : List Oper} {o : Oper} {a : Act} {Q : Exit → Act → World → Prop} (hgd : o.guard = none) (s x : Operand)
    (ho : o.op = .call { callee := .builtin .append, args := #[s, x], argTypes := #[27, 27] })
    {v : Value} {n : Nat} {zs : List Nat} {bo : Option Nat} (hs : a.eval s = v) (h : OwnS 1 u8T w v n (bV zs) bo) {a3 : Option Addr} {m c : Nat} {ys : List Nat} (hx : a.eval x = .slice a3 m c) (hS : Sl w a3 m c ys) (hn : n ≤ 1000000) (hm : m ≤ 1000000)
    (K : ∀ v' w' bo', Hid (OwnS 1 u8T w' v' (n + m) (bV zs ++ bV ys) bo') → Hid (Mod (fun j => bo = some j) w w') → Hid (NewOr w bo bo') → wpList Try.prog ops Q rest (a.put o.dst v') w') : wpList Try.prog ops Q (o :: rest) a w := by
  refine wpList_plain hgd fun K2 hK => ?_
  obtain ⟨v', w', bo', hr, h2, h3, h4⟩ := run_append_l h hS hn hm o.type
  unfold Oper.wp execOp
  simp only [ho, resolve, invoke, builtin, Sem.run_bind, Sem.run_pure, Result.andThen_ok, List.map_toArray, List.map_cons, List.map_nil, hs, hx, hr]
  exact hK _ _ (K v' w' bo' h2 h3 h4)
theorem step_l {w : World} {ops : Array Oper} {o : Oper} {a : Act} {K : Act → World → Prop} {Q : Exit → Act → World → Prop} {E : Prop} (hgd : o.guard = none) (s x : Operand)
    (ho : o.op = .call { callee := .builtin .append, args := #[s, x], argTypes := #[27, 27] })
    {v : Value} {n : Nat} {zs : List Nat} {bo : Option Nat} (hs : a.eval s = v) (h : OwnS 1 u8T w v n (bV zs) bo) {a3 : Option Addr} {m c : Nat} {ys : List Nat} (hx : a.eval x = .slice a3 m c) (hS : Sl w a3 m c ys) (hn : n ≤ 1000000) (hm : m ≤ 1000000)
    (h' : ∀ v' w' bo', Hid (OwnS 1 u8T w' v' (n + m) (bV zs ++ bV ys) bo') → Hid (Mod (fun j => bo = some j) w w') → Hid (NewOr w bo bo') → K (a.put o.dst v') w') :
    if Region.wanted o (yielded ops a.tmps) = true then Oper.wp Try.prog o a w K Q else E := by
  have hw : Region.wanted o (yielded ops a.tmps) = true := by simp [Region.wanted, hgd]
  rw [if_pos hw]
  obtain ⟨v', w', bo', hr, h2, h3, h4⟩ := run_append_l h hS hn hm o.type
  unfold Oper.wp execOp
  simp only [ho, resolve, invoke, builtin, Sem.run_bind, Sem.run_pure, Result.andThen_ok, List.map_toArray, List.map_cons, List.map_nil, hs, hx, hr]
  exact h' v' w' bo' h2 h3 h4
/-- bytes that are begun anew -/
theorem LayI.fresh {wb X w3 : World} {zs : List Nat} {v : Value} {M : Nat} {bo bo3 : Option Nat} (hb : Below wb.heap.size wb X) (hO : OwnS 1 u8T w3 v M (bV zs) bo3) (hM : Mod (fun j => bo = some j) X w3) (hN : NewOr X bo bo3) (hg : ∀ g, bo = some g → wb.heap.size ≤ g) : LayI none wb zs v M bo3 w3 := by
  have h1 : Below wb.heap.size wb w3 := hb.trans (mod_lo hM hg hb.size)
  refine ⟨hO, own_m hO, Mod.of_below h1, ?_⟩
  have h2 := newOr_lo hN hg hb.size
  cases bo3 with
  | none => exact Or.inl rfl
  | some g => exact Or.inr ⟨g, rfl, h2 g rfl⟩
theorem LayI.since {wb w3 : World} {zs : List Nat} {v : Value} {M : Nat} {bo3 : Option Nat} (h : LayI none wb zs v M bo3 w3) : Below wb.heap.size wb w3 ∧ ∀ g, bo3 = some g → wb.heap.size ≤ g :=
  h.lo (Below.refl _ _) (fun g e => by cases e)
theorem LayI.done0 {w wb w3 : World} {zs : List Nat} {v : Value} {M : Nat} {bo3 : Option Nat} (h : LayI none wb zs v M bo3 w3) (hb : Below w.heap.size w wb) : layPost none w zs (.returned v) w3 := by
  refine ⟨v, M, bo3, rfl, h.own, Mod.of_below (hb.trans (h.since.1.mono hb.size)), ?_⟩
  have := h.since.2
  cases bo3 with
  | none => exact Or.inl rfl
  | some g => exact Or.inr ⟨g, rfl, Nat.le_trans hb.size (this g rfl)⟩
theorem LayI.sl {wb w3 : World} {zs : List Nat} {v : Value} {M : Nat} {bo bo3 : Option Nat} (h : LayI bo wb zs v M bo3 w3) (h8 : ∀ x ∈ zs, x < 256) : ∃ a c, v = .slice a M c ∧ Sl w3 a M c zs := sl_of_own h.own h8
/-- a slice that stands below what is written stays -/
theorem Sl.modNew {w X w' : World} {a : Option Addr} {n c : Nat} {bs : List Nat} {bo : Option Nat} (h : Sl w a n c bs) (hb : Below w.heap.size w X) (hM : Mod (fun j => bo = some j) X w') (hg : ∀ g, bo = some g → w.heap.size ≤ g) : Sl w' a n c bs :=
  h.below (hb.trans (mod_lo hM hg hb.size))
end Go.Proofs.Ytgijnjdcpipfiaa
/- The document's bytes of a node. -/
namespace Go.Proofs.Ytgijnjdcpipfiaa
open Go.RowKit
def DnAsk (N : Nat) : Prop := ∀ (bs : List Nat) (v : Int) (has leaf : Bool) (ks : Tr) (c : List Value) {w : World} {G : Nat → Prop}, tdep (.node bs v has leaf ks) ≤ N → RT w G (.node bs v has leaf ks) none 0 c → (∀ j, G j → j < w.heap.size) → TOk (.node bs v has leaf ks) → Can (.node bs v has leaf ks) → (layT (.node bs v has leaf ks)).length ≤ 800000 → Calls Try.prog 111 #[.agg c.toArray] w (layPost none w (layT (.node bs v has leaf ks)))
theorem tdep_ofL : ∀ {L : List (Nat × Tr)} {x : Nat × Tr}, x ∈ L → tdep x.2 ≤ tdep (ofL L)
  | [], x, h => by simp at h
  | y :: L, x, h => by
    simp only [ofL, tdep]
    rcases List.mem_cons.1 h with rfl | h
    · omega
    · have := tdep_ofL h; omega
set_option maxHeartbeats 4000000 in
set_option maxRecDepth 100000 in
theorem dn_leaf (N : Nat) (IH : DnAsk N) (bs : List Nat) (y : Nat) (ks : Tr) (c : List Value) {w : World} {G : Nat → Prop} (hdp : tdep (.node bs (y : Nat) true true ks) ≤ N + 1) (hR : RT w G (.node bs (y : Nat) true true ks) none 0 c) (hG : ∀ j, G j → j < w.heap.size) (hO : TOk (.node bs (y : Nat) true true ks)) (hC : Can (.node bs (y : Nat) true true ks)) (htot : (layT (.node bs (y : Nat) true true ks)).length ≤ 800000) : Calls Try.prog 111 #[.agg c.toArray] w (layPost none w (layT (.node bs (y : Nat) true true ks))) := by
  obtain ⟨pa, pn, pc, ba, bn, bc, ra, rn, rc, rfl, h2, h3, rfl, h5, h6⟩ := hR
  have hb8 : Hid (∀ x ∈ layT (.node bs (y : Nat) true true ks), x < 256) := layT_byte _ hO
  obtain ⟨o1, o2, o3, o4, o5, o6, o7⟩ := hO
  obtain ⟨wb, hwb⟩ : ∃ wb, wb = w.alloc (.cells #[.int .i64 (rkind true ks : Nat), .slice pa pn pc, .bool true, .int .u64 (y : Nat), .slice ba bn bc, .slice ra (chain ks).length rc] rnT) := ⟨_, rfl⟩
  have hbox : wb.heap[w.heap.size]? = some (.cells [.int .i64 (rkind true ks : Nat), .slice pa pn pc, .bool true, .int .u64 (y : Nat), .slice ba bn bc, .slice ra (chain ks).length rc].toArray rnT (0, 0)) := by rw [hwb]; exact six_new w _ _ _ _ _ _ rnT
  have hB : Below w.heap.size w wb := by rw [hwb]; exact (Below.refl _ w).alloc (Nat.le_refl _) _
  have hpl := h2.sl.len
  have HB := Lib.hid hB
  obtain ⟨hd, hhd⟩ : ∃ hd, hd = headN true true (chain ks).length := ⟨_, rfl⟩
  have hHead := Lib.hid (fun X => doc_head X (.slice pa pn pc) (.slice ba bn bc) (.slice ra (chain ks).length rc) (y : Nat) true true ks)
  rw [← hhd] at hHead
  obtain ⟨m, hm⟩ : ∃ m, m = (chain ks).length := ⟨_, rfl⟩
  rw [← hm] at h5 hbox hwb hHead ⊢
  obtain ⟨KD, hrk⟩ : ∃ x : Int, x = ((rkind true ks : Nat) : Int) := ⟨_, rfl⟩
  rw [← hrk] at hHead hbox hwb ⊢
  have hall : Hid (∀ X, Below wb.heap.size wb X → X.cell? ⟨w.heap.size, 0, none⟩ = some (.int .i64 KD) ∧ X.cell? ⟨w.heap.size, 1, none⟩ = some (.slice pa pn pc) ∧ X.cell? ⟨w.heap.size, 2, none⟩ = some (.bool true) ∧ X.cell? ⟨w.heap.size, 3, none⟩ = some (.int .u64 (y : Nat)) ∧ X.cell? ⟨w.heap.size, 4, none⟩ = some (.slice ba bn bc) ∧ X.cell? ⟨w.heap.size, 5, none⟩ = some (.slice ra m rc)) := fun X hb => by
    obtain ⟨x0, x1, x2, x3, x4, x5, _⟩ := six_facts ((hb.block w.heap.size (Array.getElem?_eq_some_iff.1 hbox).1).trans hbox)
    exact ⟨x0, x1, x2, x3, x4, x5⟩
  have hS2 := Lib.hid (h2.sl.below hB)
  have hT : Hid ([hd] ++ numL pn ++ bs ++ (numL y) ++ ([]:List Nat) = layT (.node bs (y : Nat) true true ks)) := by
    show _ = _
    simp only [layT, Int.toNat_natCast]
    rw [hhd]
    (try rw [hm])
    rw [← hpl]
    simp
  have htl : Hid (1 + (numL pn).length + pn + (numL y).length + ([]:List Nat).length ≤ 800000) := by
    have := congrArg List.length hT.out
    simp only [List.length_append, List.length_cons, List.length_nil] at this
    show _ ≤ _
    (try simp only [List.length_append, List.length_cons, List.length_nil])
    omega
  obtain ⟨T, hTe⟩ : ∃ T, T = layT (.node bs (y : Nat) true true ks) := ⟨_, rfl⟩
  rw [← hTe] at hT htot hb8 ⊢
  have hpnl : pn ≤ 800000 := by have := htl.out; omega
  have hw : IntKind.u64.wrap ((pn : Nat) : Int) = (pn : Nat) := wrap_u64 (by omega)
  have hL10 : Hid ((numL pn).length ≤ 10) := numL_ten (by omega)
  have h1m : Hid (1 ≤ 1000000) := by show _ ≤ _; omega
  have hpm : Hid (pn ≤ 1000000) := by show _ ≤ _; omega
  have hn8 := Lib.hid (fun n => numL_byte n)
  have HT := Lib.hid htot
  have hy64 : Hid (y < 18446744073709551616) := by show _ < _; omega
  have HWB := Lib.hid (Below.refl wb.heap.size wb)
  have hk1 : (KD == 1) = true := by rw [beq_iff_eq]; exact hrk
  have hT2 : Hid ([hd] ++ numL pn ++ bs ++ numL y = T) := by show _ = _; rw [← hT.out]; simp
  clear hm hrk hhd hTe htot hbox h2 h3 h5 h6 o1 o2 o3 o4 o5 o6 o7 hC hG hpl hdp IH hB
  go_enter Try.func111, Try.ntmps111
  go_upto_region 1 with fail
  rw [← hwb]
  clear hwb
  go_cut [3] from 5 to 13 (fun s3 w' => ∃ M bo, LayI none wb ([hd] ++ numL pn) s3 M bo w')
  case first =>
    obtain ⟨x0, x1, x2, x3, x4, x5⟩ := hall.out wb (Below.refl _ _)
    go_region_law (first
      | (refine step_l (v := .slice (some ⟨w2.heap.size, 0, none⟩) 1 1) (a3 := a2) (m := M2) (c := c2) rfl (.tmp 7) (.tmp 12) rfl rfl hTwo.out rfl hS2m.out h1m.out hM2.out ?_; intro v3 w3 bo3 HO HM HN
         have I3 := Lib.hid (LayI.fresh (zs := [hd] ++ numL pn) B2m.out (by rw [bV_app]; exact HO.out) HM.out HN.out hg1.out)
         clear HO HM HN)
      | (refine step_l (v := .slice (some ⟨w1.heap.size, 0, none⟩) 1 1) (a3 := a2) (m := M2) (c := c2) rfl (.tmp 7) (.tmp 12) rfl rfl hOne.out rfl hS2n.out h1m.out hM2.out ?_; intro v3 w3 bo3 HO HM HN
         have I3 := Lib.hid (LayI.fresh (zs := [hd] ++ numL pn) B2.out (by rw [bV_app]; exact HO.out) HM.out HN.out hg1.out)
         clear HO HM HN)
      | (go_simp; go_at_call 110; refine (doc_Num w1 pn (by omega)).mono ?_; rintro e w2 ⟨v2, M2, bo2, rfl, e2, o2, m2, n2⟩
         obtain ⟨a2, c2, rfl, s2⟩ := sl_of_own o2 (fun x hx => hn8.out pn x (by simpa using hx))
         rw [List.nil_append] at s2
         have b2 := mod_lo m2 (fun g e => by cases e) (Nat.le_refl _)
         have b3 : Below w2.heap.size w2 (w2.alloc (.cells #[.int .u8 (hd : Nat)] 5)) := (Below.refl _ _).alloc (Nat.le_refl _) _
         have hS2m := Lib.hid (s2.below b3)
         have hTwo := Lib.hid (own_one w2 hd)
         have b4 := B1.out.trans (b2.mono B1.out.size)
         have B2m := Lib.hid (b4.trans (b3.mono b4.size))
         have hg1 : Hid (∀ g, some w2.heap.size = some g → wb.heap.size ≤ g) := fun g e => (by cases e; exact b4.size)
         have hM2 : Hid (M2 ≤ 1000000) := (by show _ ≤ _; have := hL10.out; rw [e2]; simp only [List.length_nil]; omega)
         clear e2 o2 m2 n2 s2 b2 b3 b4)
      | (go_simp; go_at_call 110; refine (doc_Num (w1.alloc (.cells #[.int .u8 (hd : Nat)] 5)) pn (by omega)).mono ?_; rintro e w2 ⟨v2, M2, bo2, rfl, e2, o2, m2, n2⟩
         obtain ⟨a2, c2, rfl, s2⟩ := sl_of_own o2 (fun x hx => hn8.out pn x (by simpa using hx))
         rw [List.nil_append] at s2
         have hS2n := Lib.hid s2
         have b2 := mod_lo m2 (fun g e => by cases e) (Nat.le_refl _)
         have hOne := Lib.hid ((own_one w1 hd).below b2)
         have B2 := Lib.hid ((B1.out.alloc B1.out.size _).trans (b2.mono (B1.out.alloc B1.out.size _).size))
         have hg1 : Hid (∀ g, some w1.heap.size = some g → wb.heap.size ≤ g) := fun g e => (by cases e; exact B1.out.size)
         have hM2 : Hid (M2 ≤ 1000000) := (by show _ ≤ _; have := hL10.out; rw [e2]; simp only [List.length_nil]; omega)
         clear e2 o2 m2 n2 s2 b2)
      | (go_simp; go_at_call 139; refine (hHead.out _).mono ?_; rintro e w1 ⟨rfl, b1⟩; have B1 := Lib.hid ((Below.refl _ wb).drew.trans b1); obtain ⟨_, z1, _⟩ := hall.out w1 B1.out; have z2 : ∀ o, (w1.alloc o).cell? ⟨w.heap.size, 1, none⟩ = some (.slice pa pn pc) := fun o => (hall.out (w1.alloc o) (B1.out.alloc B1.out.size o)).2.1; clear b1))
    all_goals
      go_wp2_with fail
      go_meet
    all_goals exact ⟨_, _, I3.out⟩
  case rest =>
    obtain ⟨M, bo, hI⟩ := hcut
    have I3 := Lib.hid hI
    have hM : Hid (M ≤ 1000000) := by show _ ≤ _; have := hI.len; have := htl.out; simp only [List.length_append, List.length_cons, List.length_nil] at *; omega
    obtain ⟨z0, z1, z2, z3, z4, z5⟩ := hall.out wc hI.since.1
    have hSp := Lib.hid (hS2.out.below hI.since.1)
    clear hI hHead
    go_wp2_with (first
      | (at_builtin; have hg := hS5; go_loud (refine wpList_l (v := .slice a4 M4 c4) (a3 := a5) (m := M5) (c := c5) rfl (.tmp 20) (.tmp 23) rfl rfl I5.out.own rfl hS5.out hM4.out hM5.out ?_); intro v6 w6 bo6 HO HM HN
         obtain ⟨M6, i6⟩ : ∃ M6, LayI none wb ([hd] ++ numL pn ++ bs ++ numL y) v6 M6 bo6 w6 := ⟨_, I5.out.app (Below.refl _ _) HO.out HM.out HN.out⟩
         have I6 := Lib.hid i6
         have hM6 : Hid (M6 ≤ 1000000) := (by show _ ≤ _; have := i6.len; have := htl.out; have := hS2.out.len; simp only [List.length_append, List.length_cons, List.length_nil] at *; omega)
         obtain ⟨a6, c6, hv6, _⟩ := i6.own.len
         subst hv6
         obtain ⟨q0, q1, q2, q3, q4, q5⟩ := hall.out w6 i6.since.1
         clear HO HM HN i6 hS5)
      | (go_at_call 110; refine (doc_Num w4 y hy64.out).mono ?_; rintro e w5 ⟨v5, M5, bo5, rfl, e2, o2, m2, n2⟩
         obtain ⟨a5, c5, rfl, s2⟩ := sl_of_own o2 (fun x hx => hn8.out y x (by simpa using hx))
         rw [List.nil_append] at s2
         have hS5 := Lib.hid s2
         have I5 := Lib.hid (I4.out.below (mod_lo m2 (fun g e => by cases e) (Nat.le_refl _)))
         have hM5 : Hid (M5 ≤ 1000000) := (by show _ ≤ _; have := numL_ten hy64.out; rw [e2]; simp only [List.length_nil]; omega)
         clear e2 o2 m2 n2 s2)
      | (at_builtin; go_loud (refine wpList_l (a3 := pa) (m := pn) (c := pc) rfl (.tmp 14) (.tmp 16) rfl rfl I3.out.own rfl hSp.out hM.out hpm.out ?_); intro v4 w4 bo4 HO HM HN
         obtain ⟨M4, i4⟩ : ∃ M4, LayI none wb ([hd] ++ numL pn ++ bs) v4 M4 bo4 w4 := ⟨_, I3.out.app (Below.refl _ _) HO.out HM.out HN.out⟩
         have I4 := Lib.hid i4
         have hM4 : Hid (M4 ≤ 1000000) := (by show _ ≤ _; have := i4.len; have := htl.out; have := hS2.out.len; simp only [List.length_append, List.length_cons, List.length_nil] at *; omega)
         obtain ⟨a4, c4, hv4, _⟩ := i4.own.len
         subst hv4
         obtain ⟨p0, p1, p2, p3, p4, p5⟩ := hall.out w4 i4.since.1
         clear HO HM HN i4))
    go_ret
    have := I6.out.done0 HB.out
    rw [hT2.out] at this
    exact this

set_option maxHeartbeats 4000000 in
set_option maxRecDepth 100000 in
theorem dn_val (N : Nat) (IH : DnAsk N) (bs : List Nat) (y : Nat) (ks : Tr) (c : List Value) {w : World} {G : Nat → Prop} (hdp : tdep (.node bs (y : Nat) true false ks) ≤ N + 1) (hR : RT w G (.node bs (y : Nat) true false ks) none 0 c) (hG : ∀ j, G j → j < w.heap.size) (hO : TOk (.node bs (y : Nat) true false ks)) (hC : Can (.node bs (y : Nat) true false ks)) (htot : (layT (.node bs (y : Nat) true false ks)).length ≤ 800000) : Calls Try.prog 111 #[.agg c.toArray] w (layPost none w (layT (.node bs (y : Nat) true false ks))) := by
  obtain ⟨pa, pn, pc, ba, bn, bc, ra, rn, rc, rfl, h2, h3, rfl, h5, h6⟩ := hR
  have hb8 : Hid (∀ x ∈ layT (.node bs (y : Nat) true false ks), x < 256) := layT_byte _ hO
  obtain ⟨o1, o2, o3, o4, o5, o6, o7⟩ := hO
  obtain ⟨wb, hwb⟩ : ∃ wb, wb = w.alloc (.cells #[.int .i64 (rkind false ks : Nat), .slice pa pn pc, .bool true, .int .u64 (y : Nat), .slice ba bn bc, .slice ra (chain ks).length rc] rnT) := ⟨_, rfl⟩
  have hbox : wb.heap[w.heap.size]? = some (.cells [.int .i64 (rkind false ks : Nat), .slice pa pn pc, .bool true, .int .u64 (y : Nat), .slice ba bn bc, .slice ra (chain ks).length rc].toArray rnT (0, 0)) := by rw [hwb]; exact six_new w _ _ _ _ _ _ rnT
  have hB : Below w.heap.size w wb := by rw [hwb]; exact (Below.refl _ w).alloc (Nat.le_refl _) _
  have hpl := h2.sl.len
  have HB := Lib.hid hB
  obtain ⟨hd, hhd⟩ : ∃ hd, hd = headN true false (chain ks).length := ⟨_, rfl⟩
  have hHead := Lib.hid (fun X => doc_head X (.slice pa pn pc) (.slice ba bn bc) (.slice ra (chain ks).length rc) (y : Nat) true false ks)
  rw [← hhd] at hHead
  obtain ⟨m, hm⟩ : ∃ m, m = (chain ks).length := ⟨_, rfl⟩
  rw [← hm] at h5 hbox hwb hHead ⊢
  obtain ⟨KD, hrk⟩ : ∃ x : Int, x = ((rkind false ks : Nat) : Int) := ⟨_, rfl⟩
  rw [← hrk] at hHead hbox hwb ⊢
  have hall : Hid (∀ X, Below wb.heap.size wb X → X.cell? ⟨w.heap.size, 0, none⟩ = some (.int .i64 KD) ∧ X.cell? ⟨w.heap.size, 1, none⟩ = some (.slice pa pn pc) ∧ X.cell? ⟨w.heap.size, 2, none⟩ = some (.bool true) ∧ X.cell? ⟨w.heap.size, 3, none⟩ = some (.int .u64 (y : Nat)) ∧ X.cell? ⟨w.heap.size, 4, none⟩ = some (.slice ba bn bc) ∧ X.cell? ⟨w.heap.size, 5, none⟩ = some (.slice ra m rc)) := fun X hb => by
    obtain ⟨x0, x1, x2, x3, x4, x5, _⟩ := six_facts ((hb.block w.heap.size (Array.getElem?_eq_some_iff.1 hbox).1).trans hbox)
    exact ⟨x0, x1, x2, x3, x4, x5⟩
  have hS2 := Lib.hid (h2.sl.below hB)
  have hT : Hid ([hd] ++ numL pn ++ bs ++ (numL y) ++ ((m - 1)::layT ks) = layT (.node bs (y : Nat) true false ks)) := by
    show _ = _
    simp only [layT, Int.toNat_natCast]
    rw [hhd]
    (try rw [hm])
    rw [← hpl]
    simp
  have htl : Hid (1 + (numL pn).length + pn + (numL y).length + ((m - 1)::layT ks).length ≤ 800000) := by
    have := congrArg List.length hT.out
    simp only [List.length_append, List.length_cons, List.length_nil] at this
    show _ ≤ _
    (try simp only [List.length_append, List.length_cons, List.length_nil])
    omega
  obtain ⟨T, hTe⟩ : ∃ T, T = layT (.node bs (y : Nat) true false ks) := ⟨_, rfl⟩
  rw [← hTe] at hT htot hb8 ⊢
  have hpnl : pn ≤ 800000 := by have := htl.out; omega
  have hw : IntKind.u64.wrap ((pn : Nat) : Int) = (pn : Nat) := wrap_u64 (by omega)
  have hL10 : Hid ((numL pn).length ≤ 10) := numL_ten (by omega)
  have h1m : Hid (1 ≤ 1000000) := by show _ ≤ _; omega
  have hpm : Hid (pn ≤ 1000000) := by show _ ≤ _; omega
  have hn8 := Lib.hid (fun n => numL_byte n)
  have HT := Lib.hid htot
  have hy64 : Hid (y < 18446744073709551616) := by show _ < _; omega
  have HWB := Lib.hid (Below.refl wb.heap.size wb)
  have hmm : 1 ≤ m := by
    have := hC.2 rfl
    rw [← hm] at this
    simp at this; omega
  have hm2 := chain256 o6 o7
  rw [← hm] at hm2
  have hrke : KD = ((kindOf m : Nat) : Int) := by rw [hrk, hm]; rfl
  have hk1 : (KD == 1) = false := by rw [beq_eq_false_iff_ne]; have := kindOf_cases m; omega
  obtain ⟨m1, hme⟩ : ∃ m1, m1 = m - 1 := ⟨_, rfl⟩
  have hw1 : IntKind.i64.wrap ((m : Int) - 1) = (m1 : Nat) := by rw [show (m : Int) - 1 = ((m1 : Nat) : Int) by omega]; exact IntWalk.i64_in _ (by omega)
  have hw2 : IntKind.u8.wrap (m1 : Int) = (m1 : Nat) := wrap_u8 (by omega)
  have hm1b : Hid (m1 < 256) := by show _ < _; omega
  have hT2 : Hid ([hd] ++ numL pn ++ bs ++ (numL y) ++ [m1] ++ layT ks = T) := by show _ = _; rw [← hT.out, hme]; simp
  obtain ⟨L, hL⟩ : ∃ L, L = chain ks := ⟨_, rfl⟩
  have hR6 := rt_chain h6 o6 o7
  have hOL : TOk (ofL L) := by rw [hL, ofL_chain ks o6 o7]; exact o7
  have hkL : Hid (ks = ofL L) := by show _ = _; rw [hL, ofL_chain ks o6 o7]
  rw [← hL] at h3 hR6
  have HmL : Hid (m = L.length) := by show _ = _; rw [hm, hL]
  have HCL : Hid (Can (ofL L)) := by rw [hL, ofL_chain ks o6 o7]; exact hC.1
  have HdL : Hid (tdep (ofL L) ≤ N) := by
    rw [hL, ofL_chain ks o6 o7]
    simp only [tdep] at hdp
    show _ ≤ _
    omega
  have H3 := Lib.hid h3
  have H6 := Lib.hid hR6
  have HOL := Lib.hid hOL
  have HG := Lib.hid hG
  have HIH := Lib.hid IH
  clear hrke hme hL hR6 hOL
  clear hm hrk hhd hTe htot hbox h2 h3 h5 h6 o1 o2 o3 o4 o5 o6 o7 hC hG hpl hdp IH hB
  go_enter Try.func111, Try.ntmps111
  go_upto_region 1 with fail
  rw [← hwb]
  clear hwb
  go_cut [3] from 5 to 13 (fun s3 w' => ∃ M bo, LayI none wb ([hd] ++ numL pn) s3 M bo w')
  case first =>
    obtain ⟨x0, x1, x2, x3, x4, x5⟩ := hall.out wb (Below.refl _ _)
    go_region_law (first
      | (refine step_l (v := .slice (some ⟨w2.heap.size, 0, none⟩) 1 1) (a3 := a2) (m := M2) (c := c2) rfl (.tmp 7) (.tmp 12) rfl rfl hTwo.out rfl hS2m.out h1m.out hM2.out ?_; intro v3 w3 bo3 HO HM HN
         have I3 := Lib.hid (LayI.fresh (zs := [hd] ++ numL pn) B2m.out (by rw [bV_app]; exact HO.out) HM.out HN.out hg1.out)
         clear HO HM HN)
      | (refine step_l (v := .slice (some ⟨w1.heap.size, 0, none⟩) 1 1) (a3 := a2) (m := M2) (c := c2) rfl (.tmp 7) (.tmp 12) rfl rfl hOne.out rfl hS2n.out h1m.out hM2.out ?_; intro v3 w3 bo3 HO HM HN
         have I3 := Lib.hid (LayI.fresh (zs := [hd] ++ numL pn) B2.out (by rw [bV_app]; exact HO.out) HM.out HN.out hg1.out)
         clear HO HM HN)
      | (go_simp; go_at_call 110; refine (doc_Num w1 pn (by omega)).mono ?_; rintro e w2 ⟨v2, M2, bo2, rfl, e2, o2, m2, n2⟩
         obtain ⟨a2, c2, rfl, s2⟩ := sl_of_own o2 (fun x hx => hn8.out pn x (by simpa using hx))
         rw [List.nil_append] at s2
         have b2 := mod_lo m2 (fun g e => by cases e) (Nat.le_refl _)
         have b3 : Below w2.heap.size w2 (w2.alloc (.cells #[.int .u8 (hd : Nat)] 5)) := (Below.refl _ _).alloc (Nat.le_refl _) _
         have hS2m := Lib.hid (s2.below b3)
         have hTwo := Lib.hid (own_one w2 hd)
         have b4 := B1.out.trans (b2.mono B1.out.size)
         have B2m := Lib.hid (b4.trans (b3.mono b4.size))
         have hg1 : Hid (∀ g, some w2.heap.size = some g → wb.heap.size ≤ g) := fun g e => (by cases e; exact b4.size)
         have hM2 : Hid (M2 ≤ 1000000) := (by show _ ≤ _; have := hL10.out; rw [e2]; simp only [List.length_nil]; omega)
         clear e2 o2 m2 n2 s2 b2 b3 b4)
      | (go_simp; go_at_call 110; refine (doc_Num (w1.alloc (.cells #[.int .u8 (hd : Nat)] 5)) pn (by omega)).mono ?_; rintro e w2 ⟨v2, M2, bo2, rfl, e2, o2, m2, n2⟩
         obtain ⟨a2, c2, rfl, s2⟩ := sl_of_own o2 (fun x hx => hn8.out pn x (by simpa using hx))
         rw [List.nil_append] at s2
         have hS2n := Lib.hid s2
         have b2 := mod_lo m2 (fun g e => by cases e) (Nat.le_refl _)
         have hOne := Lib.hid ((own_one w1 hd).below b2)
         have B2 := Lib.hid ((B1.out.alloc B1.out.size _).trans (b2.mono (B1.out.alloc B1.out.size _).size))
         have hg1 : Hid (∀ g, some w1.heap.size = some g → wb.heap.size ≤ g) := fun g e => (by cases e; exact B1.out.size)
         have hM2 : Hid (M2 ≤ 1000000) := (by show _ ≤ _; have := hL10.out; rw [e2]; simp only [List.length_nil]; omega)
         clear e2 o2 m2 n2 s2 b2)
      | (go_simp; go_at_call 139; refine (hHead.out _).mono ?_; rintro e w1 ⟨rfl, b1⟩; have B1 := Lib.hid ((Below.refl _ wb).drew.trans b1); obtain ⟨_, z1, _⟩ := hall.out w1 B1.out; have z2 : ∀ o, (w1.alloc o).cell? ⟨w.heap.size, 1, none⟩ = some (.slice pa pn pc) := fun o => (hall.out (w1.alloc o) (B1.out.alloc B1.out.size o)).2.1; clear b1))
    all_goals
      go_wp2_with fail
      go_meet
    all_goals exact ⟨_, _, I3.out⟩
  case rest =>
    obtain ⟨M, bo, hI⟩ := hcut
    have I3 := Lib.hid hI
    have hM : Hid (M ≤ 1000000) := by show _ ≤ _; have := hI.len; have := htl.out; simp only [List.length_append, List.length_cons, List.length_nil] at *; omega
    obtain ⟨z0, z1, z2, z3, z4, z5⟩ := hall.out wc hI.since.1
    have hSp := Lib.hid (hS2.out.below hI.since.1)
    clear hI hHead
    go_wp2_with (first
      | (at_builtin; have hg := hm1.out; go_loud (refine wpList_l (v := .slice a6 M6 c6) (a3 := some ⟨w6.heap.size, 0, none⟩) (m := 1) (c := 1) rfl (.tmp 29) (.tmp 35) rfl rfl hOwA.out rfl hOneA.out hM6.out h1m.out ?_); intro v7 w7 bo7 HO HM HN
         have I7 := Lib.hid (I6.out.app hAA.out HO.out HM.out HN.out)
         obtain ⟨a7, c7, hv7, _⟩ := I7.out.own.len
         subst hv7
         obtain ⟨y0, y1, y2, y3, y4, y5⟩ := hall.out w7 I7.out.since.1
         clear HO HM HN)
      | (at_builtin; have hg := hS5; go_loud (refine wpList_l (v := .slice a4 M4 c4) (a3 := a5) (m := M5) (c := c5) rfl (.tmp 20) (.tmp 23) rfl rfl I5.out.own rfl hS5.out hM4.out hM5.out ?_); intro v6 w6 bo6 HO HM HN
         obtain ⟨M6, i6⟩ : ∃ M6, LayI none wb ([hd] ++ numL pn ++ bs ++ numL y) v6 M6 bo6 w6 := ⟨_, I5.out.app (Below.refl _ _) HO.out HM.out HN.out⟩
         have I6 := Lib.hid i6
         have hM6 : Hid (M6 ≤ 1000000) := (by show _ ≤ _; have := i6.len; have := htl.out; have := hS2.out.len; simp only [List.length_append, List.length_cons, List.length_nil] at *; omega)
         obtain ⟨a6, c6, hv6, _⟩ := i6.own.len
         subst hv6
         obtain ⟨q0, q1, q2, q3, q4, q5⟩ := hall.out w6 i6.since.1
         have hm1 : Hid True := trivial
         have hAA : Hid (Below w6.heap.size w6 (w6.alloc (.cells #[.int .u8 (m1 : Nat)] 5))) := (Below.refl _ _).alloc (Nat.le_refl _) _
         have hOwA := Lib.hid (i6.own.below hAA.out)
         have hOneA := Lib.hid (sl_one w6 m1 5 hm1b.out)
         clear HO HM HN i6 hS5)
      | (go_at_call 110; refine (doc_Num w4 y hy64.out).mono ?_; rintro e w5 ⟨v5, M5, bo5, rfl, e2, o2, m2, n2⟩
         obtain ⟨a5, c5, rfl, s2⟩ := sl_of_own o2 (fun x hx => hn8.out y x (by simpa using hx))
         rw [List.nil_append] at s2
         have hS5 := Lib.hid s2
         have I5 := Lib.hid (I4.out.below (mod_lo m2 (fun g e => by cases e) (Nat.le_refl _)))
         have hM5 : Hid (M5 ≤ 1000000) := (by show _ ≤ _; have := numL_ten hy64.out; rw [e2]; simp only [List.length_nil]; omega)
         clear e2 o2 m2 n2 s2)
      | (at_builtin; go_loud (refine wpList_l (a3 := pa) (m := pn) (c := pc) rfl (.tmp 14) (.tmp 16) rfl rfl I3.out.own rfl hSp.out hM.out hpm.out ?_); intro v4 w4 bo4 HO HM HN
         obtain ⟨M4, i4⟩ : ∃ M4, LayI none wb ([hd] ++ numL pn ++ bs) v4 M4 bo4 w4 := ⟨_, I3.out.app (Below.refl _ _) HO.out HM.out HN.out⟩
         have I4 := Lib.hid i4
         have hM4 : Hid (M4 ≤ 1000000) := (by show _ ≤ _; have := i4.len; have := htl.out; have := hS2.out.len; simp only [List.length_append, List.length_cons, List.length_nil] at *; omega)
         obtain ⟨a4, c4, hv4, _⟩ := i4.own.len
         subst hv4
         obtain ⟨p0, p1, p2, p3, p4, p5⟩ := hall.out w4 i4.since.1
         clear HO HM HN i4))
    have hT3 : Hid (([hd]++numL pn++bs++numL y++[m1]) ++ layT (ofL (L.drop 0)) = T) := by
      show _ = _
      rw [← hT2.out, List.drop_zero, ← hkL.out]
      (try simp)
    have I7' : Hid (LayI none wb ([hd]++numL pn++bs++numL y++[m1]) (.slice a7 (M6 + 1) c7) (M6 + 1) bo7 w7) := I7.out
    generalize M6 + 1 = M7 at *
    clear I7 I3 I4 hT hT2 hm1 hAA hOwA hOneA hSp z0 z1 z2 z3 z4 z5 y0 y1 y2 y3 y4 y5
    go_loopw [3, 4] (fun s3 s4 wr => ∃ (i : Nat) (zs : List Nat) (M : Nat) (bo' : Option Nat) (a : Option Addr) (c : Nat), s3 = .slice a M c ∧ s4 = .int .i64 (i : Nat) ∧ i ≤ m ∧ Hid (LayI none wb zs s3 M bo' wr) ∧ Hid (zs ++ layT (ofL (L.drop i)) = T)) (fun _ s4 _ => (m - intOf s4).toNat)
    case atStart => exact ⟨0, _, _, _, _, _, rfl, rfl, Nat.zero_le _, I7', hT3⟩
    case round =>
      obtain ⟨i, zs, M, bo', a, c, rfl, rfl, him, hI, hz⟩ := hrel
      obtain ⟨x0, x1, x2, x3, x4, x5⟩ := hall.out wr hI.out.since.1
      by_cases hlt : i < m
      · have l1 : (i : Int) < (m : Int) := by omega
        have l0 : (0 : Int) ≤ (i : Int) := by omega
        have hiL : i < L.length := by rw [← HmL.out]; exact hlt
        have l2 : (i : Int) < (bn : Int) := by have := H3.out.sl.len; rw [List.length_map] at this; omega
        obtain ⟨y, hy⟩ : ∃ y, L[i]? = some y := ⟨_, List.getElem?_eq_getElem hiL⟩
        obtain ⟨pb, rfl, hz1, hz2⟩ := H3.out.sl.at_.2 i (by rw [List.length_map]; exact hiL)
        have hz3 : (L.map (·.1)).getD i 0 = y.1 := by rw [List.getD, List.getElem?_map, hy]; rfl
        rw [hz3] at hz2
        obtain ⟨g, c', hg1, hg2, hg3, hg4, hg5⟩ := rt_at H6.out i y hy
        have hdr : layT (ofL (L.drop i)) = y.1 :: (layT y.2 ++ layT (ofL (L.drop (i + 1)))) := by
          rw [List.drop_eq_getElem_cons hiL]
          have : L[i] = y := by rw [List.getElem?_eq_getElem hiL] at hy; exact Option.some.inj hy
          rw [this]; rfl
        obtain ⟨yb, yt⟩ := y
        have hym := List.mem_of_getElem? hy
        have hyT := ((tok_ofL L).1 HOL.out).1 (yb, yt) hym
        have hyC : Can yt := (can_ofL L).1 HCL.out (yb, yt) hym
        have hyD : tdep yt ≤ N := Nat.le_trans (tdep_ofL hym) HdL.out
        have hyb : yb < 256 := hyT.1
        have hz5 : Hid (zs ++ [yb] ++ layT yt ++ layT (ofL (L.drop (i + 1))) = T) := by show _ = _; rw [← hz.out, hdr]; simp
        have hzl : Hid (zs.length + 1 + (layT yt).length ≤ 800000) := by
          have := congrArg List.length hz5.out
          have := HT.out
          simp only [List.length_append, List.length_cons, List.length_nil] at *
          show _ ≤ _
          omega
        cases yt with
        | nil => exact hyT.2.1.elim
        | kid => exact hyT.2.1.elim
        | node bs' v' has' leaf' ks' =>
          have hg5 : RT w G (.node bs' v' has' leaf' ks') none 0 c' := hg5
          have hdn : Hid (∀ X, Below w.heap.size w X → Calls Try.prog 111 #[.agg c'.toArray] X (layPost none X (layT (.node bs' v' has' leaf' ks')))) := fun X hb =>
            HIH.out bs' v' has' leaf' ks' c' hyD (hg5.keep hb.size fun j hj => hb.block j (HG.out j hj)) (fun j hj => Nat.lt_of_lt_of_le (HG.out j hj) hb.size) hyT.2.2 hyC (by have := hzl.out; omega)
          have hy8 : Hid (∀ x ∈ layT (.node bs' v' has' leaf' ks'), x < 256) := layT_byte _ hyT.2.2
          obtain ⟨pa', pn', pc', ba', bn', bc', ka', kn', kc', hc', hx'⟩ := hg5
          clear hx'
          subst hc'
          obtain ⟨KD', hKD'⟩ : ∃ x : Int, x = ((rkind leaf' ks' : Nat) : Int) := ⟨_, rfl⟩
          rw [← hKD'] at hdn hg4
          generalize layT (.node bs' v' has' leaf' ks') = LT at *
          subst hg1
          rw [Nat.zero_add] at hg4
          have hS : Hid (∀ X, Below wb.heap.size wb X → X.cell? ⟨w.heap.size, 4, none⟩ = some (.slice (some pb) bn bc) ∧ X.cell? ⟨w.heap.size, 5, none⟩ = some (.slice (some ⟨g, 0, none⟩) m rc) ∧ X.cell? (pb.add i) = some (.int .u8 (yb : Nat)) ∧ X.cell? ⟨g, i * 6, none⟩ = some (.int .i64 KD') ∧ X.cell? ⟨g, i * 6 + 1, none⟩ = some (.slice pa' pn' pc') ∧ X.cell? ⟨g, i * 6 + 2, none⟩ = some (.bool has') ∧ X.cell? ⟨g, i * 6 + 3, none⟩ = some (.int .u64 v') ∧ X.cell? ⟨g, i * 6 + 4, none⟩ = some (.slice ba' bn' bc') ∧ X.cell? ⟨g, i * 6 + 5, none⟩ = some (.slice ka' kn' kc')) := fun X hb => by
            obtain ⟨_, _, _, _, p4, p5⟩ := hall.out X hb
            have hwX := HB.out.trans (hb.mono HB.out.size)
            have hgl := HG.out g hg2
            have e : ∀ j, X.cell? ⟨g, j, none⟩ = w.cell? ⟨g, j, none⟩ := fun j => hwX.cell (p := ⟨g, j, none⟩) hgl
            exact ⟨p4, p5, (hwX.cell hz1).trans hz2, by rw [e]; exact hg4 0 (by omega), by rw [e]; exact hg4 1 (by omega), by rw [e]; exact hg4 2 (by omega), by rw [e]; exact hg4 3 (by omega), by rw [e]; exact hg4 4 (by omega), by rw [e]; exact hg4 5 (by omega)⟩
          have hM : Hid (M ≤ 1000000) := by show _ ≤ _; have := hzl.out; have := hI.out.len; omega
          have hw9 : IntKind.i64.wrap (((i : Nat) : Int) + 1) = ((i + 1 : Nat) : Int) := by rw [show ((i : Nat) : Int) + 1 = ((i + 1 : Nat) : Int) by omega]; exact IntWalk.i64_in _ (by omega)
          have hob := Lib.hid (hI.out.own.below ((Below.refl _ wr).drew.alloc (Nat.le_refl _) (.cells #[.int .u8 (yb : Nat)] 5)))
          have hAl : Hid (Below wr.heap.size wr (wr.drew.alloc (.cells #[.int .u8 (yb : Nat)] 5))) := (Below.refl _ wr).drew.alloc (Nat.le_refl _) _
          have hAl0 : Hid (Below wb.heap.size wb (wr.drew.alloc (.cells #[.int .u8 (yb : Nat)] 5))) := hI.out.since.1.drew.alloc hI.out.since.1.size _
          have hAl1 : Hid (Below wb.heap.size wb wr.drew) := hI.out.since.1.drew
          have hOne : Hid (Sl (wr.drew.alloc (.cells #[.int .u8 (yb : Nat)] 5)) (some ⟨wr.heap.size, 0, none⟩) 1 1 [yb]) := sl_one wr.drew yb 5 hyb
          clear hy hz hz1 hz2 hz3 hiL hg4 hyT hdr hKD' hg3 hym hyC hyD hyb
          go_wp2_with fail
          go_region_held3 (fun w' => w'.cell? ⟨w.heap.size, 4, none⟩ = some (.slice (some pb) bn bc) ∧ w'.cell? ⟨w.heap.size, 5, none⟩ = some (.slice (some ⟨g, 0, none⟩) m rc) ∧ w'.cell? (pb.add i) = some (.int .u8 (yb : Nat)) ∧ w'.cell? ⟨g, i * 6, none⟩ = some (.int .i64 KD') ∧ w'.cell? ⟨g, i * 6 + 1, none⟩ = some (.slice pa' pn' pc') ∧ w'.cell? ⟨g, i * 6 + 2, none⟩ = some (.bool has') ∧ w'.cell? ⟨g, i * 6 + 3, none⟩ = some (.int .u64 v') ∧ w'.cell? ⟨g, i * 6 + 4, none⟩ = some (.slice ba' bn' bc') ∧ w'.cell? ⟨g, i * 6 + 5, none⟩ = some (.slice ka' kn' kc'))
            (first | exact hS.out _ I9.out.since.1 | exact hS.out _ I8.out.since.1 | exact hS.out _ I7.out.since.1 | exact hS.out _ hAl0.out | exact hS.out _ hAl1.out)
            (first
              | (refine step_l (v := .slice a7 (M + 1) c7) (a3 := a8) (m := M8) (c := c8) (by rfl) (.tmp 51) (.tmp 57) (by rfl) (by rfl) I8.out.own (by rfl) hS8.out hM7.out hM8.out ?_; intro v9 w9 bo9 HO HM HN
                 obtain ⟨M9, i9⟩ : ∃ M9, LayI none wb (zs ++ [yb] ++ LT) v9 M9 bo9 w9 := ⟨_, I8.out.app (Below.refl _ _) HO.out HM.out HN.out⟩
                 have I9 := Lib.hid i9
                 obtain ⟨a9, c9, hv9, _⟩ := i9.own.len
                 subst hv9
                 clear HO HM HN i9)
              | (refine step_l (v := .slice a M c) (a3 := some ⟨wr.heap.size, 0, none⟩) (m := 1) (c := 1) (by rfl) (.tmp 44) (.tmp 50) (by rfl) (by rfl) hob.out (by rfl) hOne.out hM.out h1m.out ?_; intro v7 w7 bo7 HO HM HN
                 have i7 := hI.out.app hAl.out HO.out HM.out HN.out
                 obtain ⟨a7, c7, hv7, _⟩ := i7.own.len
                 subst hv7
                 have I7 := Lib.hid i7
                 have hM7 : Hid (M + 1 ≤ 1000000) := (by show _ ≤ _; have := hzl.out; have := hI.out.len; omega)
                 have hdn7 := Lib.hid (hdn.out w7 (HB.out.trans (i7.since.1.mono HB.out.size)))
                 clear HO HM HN i7)
              | (go_simp; go_at_call 111; refine hdn7.out.mono ?_; rintro e w8 ⟨v8, M8, bo8, rfl, o8, m8, n8⟩
                 obtain ⟨a8, c8, rfl, s8⟩ := sl_of_own o8 hy8.out
                 have hS8 := Lib.hid s8
                 have I8 := Lib.hid (I7.out.below (mod_lo m8 (fun g e => by cases e) (Nat.le_refl _)))
                 have hM8 : Hid (M8 ≤ 1000000) := (by show _ ≤ _; have := hzl.out; have := s8.len; omega)
                 clear o8 m8 n8 s8))
          all_goals
            (try simp only [Exit.then, Exit.inBlock])
            go_wp2_with fail
          go_roundw
          case rel => exact ⟨i + 1, _, M9, bo9, a9, c9, rfl, (by first | rfl | go_num), by omega, I9, hz5⟩
          case measure => (simp [intOf]) <;> omega
      · have l1 : ¬ (i : Int) < (m : Int) := by omega
        obtain rfl : i = m := by omega
        go_wp2_with fail
        go_ret
        have := hI.out.done0 HB.out
        have e := hz.out
        rw [HmL.out, List.drop_length, show layT (ofL ([] : List (Nat × Tr))) = [] from rfl, List.append_nil] at e
        rw [e] at this
        exact this

set_option maxHeartbeats 4000000 in
set_option maxRecDepth 100000 in
theorem dn_no (N : Nat) (IH : DnAsk N) (bs : List Nat) (y : Nat) (ks : Tr) (c : List Value) {w : World} {G : Nat → Prop} (hdp : tdep (.node bs (y : Nat) false false ks) ≤ N + 1) (hR : RT w G (.node bs (y : Nat) false false ks) none 0 c) (hG : ∀ j, G j → j < w.heap.size) (hO : TOk (.node bs (y : Nat) false false ks)) (hC : Can (.node bs (y : Nat) false false ks)) (htot : (layT (.node bs (y : Nat) false false ks)).length ≤ 800000) : Calls Try.prog 111 #[.agg c.toArray] w (layPost none w (layT (.node bs (y : Nat) false false ks))) := by
  obtain ⟨pa, pn, pc, ba, bn, bc, ra, rn, rc, rfl, h2, h3, rfl, h5, h6⟩ := hR
  have hb8 : Hid (∀ x ∈ layT (.node bs (y : Nat) false false ks), x < 256) := layT_byte _ hO
  obtain ⟨o1, o2, o3, o4, o5, o6, o7⟩ := hO
  obtain ⟨wb, hwb⟩ : ∃ wb, wb = w.alloc (.cells #[.int .i64 (rkind false ks : Nat), .slice pa pn pc, .bool false, .int .u64 (y : Nat), .slice ba bn bc, .slice ra (chain ks).length rc] rnT) := ⟨_, rfl⟩
  have hbox : wb.heap[w.heap.size]? = some (.cells [.int .i64 (rkind false ks : Nat), .slice pa pn pc, .bool false, .int .u64 (y : Nat), .slice ba bn bc, .slice ra (chain ks).length rc].toArray rnT (0, 0)) := by rw [hwb]; exact six_new w _ _ _ _ _ _ rnT
  have hB : Below w.heap.size w wb := by rw [hwb]; exact (Below.refl _ w).alloc (Nat.le_refl _) _
  have hpl := h2.sl.len
  have HB := Lib.hid hB
  obtain ⟨hd, hhd⟩ : ∃ hd, hd = headN false false (chain ks).length := ⟨_, rfl⟩
  have hHead := Lib.hid (fun X => doc_head X (.slice pa pn pc) (.slice ba bn bc) (.slice ra (chain ks).length rc) (y : Nat) false false ks)
  rw [← hhd] at hHead
  obtain ⟨m, hm⟩ : ∃ m, m = (chain ks).length := ⟨_, rfl⟩
  rw [← hm] at h5 hbox hwb hHead ⊢
  obtain ⟨KD, hrk⟩ : ∃ x : Int, x = ((rkind false ks : Nat) : Int) := ⟨_, rfl⟩
  rw [← hrk] at hHead hbox hwb ⊢
  have hall : Hid (∀ X, Below wb.heap.size wb X → X.cell? ⟨w.heap.size, 0, none⟩ = some (.int .i64 KD) ∧ X.cell? ⟨w.heap.size, 1, none⟩ = some (.slice pa pn pc) ∧ X.cell? ⟨w.heap.size, 2, none⟩ = some (.bool false) ∧ X.cell? ⟨w.heap.size, 3, none⟩ = some (.int .u64 (y : Nat)) ∧ X.cell? ⟨w.heap.size, 4, none⟩ = some (.slice ba bn bc) ∧ X.cell? ⟨w.heap.size, 5, none⟩ = some (.slice ra m rc)) := fun X hb => by
    obtain ⟨x0, x1, x2, x3, x4, x5, _⟩ := six_facts ((hb.block w.heap.size (Array.getElem?_eq_some_iff.1 hbox).1).trans hbox)
    exact ⟨x0, x1, x2, x3, x4, x5⟩
  have hS2 := Lib.hid (h2.sl.below hB)
  have hT : Hid ([hd] ++ numL pn ++ bs ++ ([]:List Nat) ++ ((m - 1)::layT ks) = layT (.node bs (y : Nat) false false ks)) := by
    show _ = _
    simp only [layT, Int.toNat_natCast]
    rw [hhd]
    (try rw [hm])
    rw [← hpl]
    simp
  have htl : Hid (1 + (numL pn).length + pn + ([]:List Nat).length + ((m - 1)::layT ks).length ≤ 800000) := by
    have := congrArg List.length hT.out
    simp only [List.length_append, List.length_cons, List.length_nil] at this
    show _ ≤ _
    (try simp only [List.length_append, List.length_cons, List.length_nil])
    omega
  obtain ⟨T, hTe⟩ : ∃ T, T = layT (.node bs (y : Nat) false false ks) := ⟨_, rfl⟩
  rw [← hTe] at hT htot hb8 ⊢
  have hpnl : pn ≤ 800000 := by have := htl.out; omega
  have hw : IntKind.u64.wrap ((pn : Nat) : Int) = (pn : Nat) := wrap_u64 (by omega)
  have hL10 : Hid ((numL pn).length ≤ 10) := numL_ten (by omega)
  have h1m : Hid (1 ≤ 1000000) := by show _ ≤ _; omega
  have hpm : Hid (pn ≤ 1000000) := by show _ ≤ _; omega
  have hn8 := Lib.hid (fun n => numL_byte n)
  have HT := Lib.hid htot
  have hy64 : Hid (y < 18446744073709551616) := by show _ < _; omega
  have HWB := Lib.hid (Below.refl wb.heap.size wb)
  have hmm : 1 ≤ m := by
    have := hC.2 rfl
    rw [← hm] at this
    simp at this; omega
  have hm2 := chain256 o6 o7
  rw [← hm] at hm2
  have hrke : KD = ((kindOf m : Nat) : Int) := by rw [hrk, hm]; rfl
  have hk1 : (KD == 1) = false := by rw [beq_eq_false_iff_ne]; have := kindOf_cases m; omega
  obtain ⟨m1, hme⟩ : ∃ m1, m1 = m - 1 := ⟨_, rfl⟩
  have hw1 : IntKind.i64.wrap ((m : Int) - 1) = (m1 : Nat) := by rw [show (m : Int) - 1 = ((m1 : Nat) : Int) by omega]; exact IntWalk.i64_in _ (by omega)
  have hw2 : IntKind.u8.wrap (m1 : Int) = (m1 : Nat) := wrap_u8 (by omega)
  have hm1b : Hid (m1 < 256) := by show _ < _; omega
  have hT2 : Hid ([hd] ++ numL pn ++ bs ++ ([]:List Nat) ++ [m1] ++ layT ks = T) := by show _ = _; rw [← hT.out, hme]; simp
  obtain ⟨L, hL⟩ : ∃ L, L = chain ks := ⟨_, rfl⟩
  have hR6 := rt_chain h6 o6 o7
  have hOL : TOk (ofL L) := by rw [hL, ofL_chain ks o6 o7]; exact o7
  have hkL : Hid (ks = ofL L) := by show _ = _; rw [hL, ofL_chain ks o6 o7]
  rw [← hL] at h3 hR6
  have HmL : Hid (m = L.length) := by show _ = _; rw [hm, hL]
  have HCL : Hid (Can (ofL L)) := by rw [hL, ofL_chain ks o6 o7]; exact hC.1
  have HdL : Hid (tdep (ofL L) ≤ N) := by
    rw [hL, ofL_chain ks o6 o7]
    simp only [tdep] at hdp
    show _ ≤ _
    omega
  have H3 := Lib.hid h3
  have H6 := Lib.hid hR6
  have HOL := Lib.hid hOL
  have HG := Lib.hid hG
  have HIH := Lib.hid IH
  clear hrke hme hL hR6 hOL
  clear hm hrk hhd hTe htot hbox h2 h3 h5 h6 o1 o2 o3 o4 o5 o6 o7 hC hG hpl hdp IH hB
  go_enter Try.func111, Try.ntmps111
  go_upto_region 1 with fail
  rw [← hwb]
  clear hwb
  go_cut [3] from 5 to 13 (fun s3 w' => ∃ M bo, LayI none wb ([hd] ++ numL pn) s3 M bo w')
  case first =>
    obtain ⟨x0, x1, x2, x3, x4, x5⟩ := hall.out wb (Below.refl _ _)
    go_region_law (first
      | (refine step_l (v := .slice (some ⟨w2.heap.size, 0, none⟩) 1 1) (a3 := a2) (m := M2) (c := c2) rfl (.tmp 7) (.tmp 12) rfl rfl hTwo.out rfl hS2m.out h1m.out hM2.out ?_; intro v3 w3 bo3 HO HM HN
         have I3 := Lib.hid (LayI.fresh (zs := [hd] ++ numL pn) B2m.out (by rw [bV_app]; exact HO.out) HM.out HN.out hg1.out)
         clear HO HM HN)
      | (refine step_l (v := .slice (some ⟨w1.heap.size, 0, none⟩) 1 1) (a3 := a2) (m := M2) (c := c2) rfl (.tmp 7) (.tmp 12) rfl rfl hOne.out rfl hS2n.out h1m.out hM2.out ?_; intro v3 w3 bo3 HO HM HN
         have I3 := Lib.hid (LayI.fresh (zs := [hd] ++ numL pn) B2.out (by rw [bV_app]; exact HO.out) HM.out HN.out hg1.out)
         clear HO HM HN)
      | (go_simp; go_at_call 110; refine (doc_Num w1 pn (by omega)).mono ?_; rintro e w2 ⟨v2, M2, bo2, rfl, e2, o2, m2, n2⟩
         obtain ⟨a2, c2, rfl, s2⟩ := sl_of_own o2 (fun x hx => hn8.out pn x (by simpa using hx))
         rw [List.nil_append] at s2
         have b2 := mod_lo m2 (fun g e => by cases e) (Nat.le_refl _)
         have b3 : Below w2.heap.size w2 (w2.alloc (.cells #[.int .u8 (hd : Nat)] 5)) := (Below.refl _ _).alloc (Nat.le_refl _) _
         have hS2m := Lib.hid (s2.below b3)
         have hTwo := Lib.hid (own_one w2 hd)
         have b4 := B1.out.trans (b2.mono B1.out.size)
         have B2m := Lib.hid (b4.trans (b3.mono b4.size))
         have hg1 : Hid (∀ g, some w2.heap.size = some g → wb.heap.size ≤ g) := fun g e => (by cases e; exact b4.size)
         have hM2 : Hid (M2 ≤ 1000000) := (by show _ ≤ _; have := hL10.out; rw [e2]; simp only [List.length_nil]; omega)
         clear e2 o2 m2 n2 s2 b2 b3 b4)
      | (go_simp; go_at_call 110; refine (doc_Num (w1.alloc (.cells #[.int .u8 (hd : Nat)] 5)) pn (by omega)).mono ?_; rintro e w2 ⟨v2, M2, bo2, rfl, e2, o2, m2, n2⟩
         obtain ⟨a2, c2, rfl, s2⟩ := sl_of_own o2 (fun x hx => hn8.out pn x (by simpa using hx))
         rw [List.nil_append] at s2
         have hS2n := Lib.hid s2
         have b2 := mod_lo m2 (fun g e => by cases e) (Nat.le_refl _)
         have hOne := Lib.hid ((own_one w1 hd).below b2)
         have B2 := Lib.hid ((B1.out.alloc B1.out.size _).trans (b2.mono (B1.out.alloc B1.out.size _).size))
         have hg1 : Hid (∀ g, some w1.heap.size = some g → wb.heap.size ≤ g) := fun g e => (by cases e; exact B1.out.size)
         have hM2 : Hid (M2 ≤ 1000000) := (by show _ ≤ _; have := hL10.out; rw [e2]; simp only [List.length_nil]; omega)
         clear e2 o2 m2 n2 s2 b2)
      | (go_simp; go_at_call 139; refine (hHead.out _).mono ?_; rintro e w1 ⟨rfl, b1⟩; have B1 := Lib.hid ((Below.refl _ wb).drew.trans b1); obtain ⟨_, z1, _⟩ := hall.out w1 B1.out; have z2 : ∀ o, (w1.alloc o).cell? ⟨w.heap.size, 1, none⟩ = some (.slice pa pn pc) := fun o => (hall.out (w1.alloc o) (B1.out.alloc B1.out.size o)).2.1; clear b1))
    all_goals
      go_wp2_with fail
      go_meet
    all_goals exact ⟨_, _, I3.out⟩
  case rest =>
    obtain ⟨M, bo, hI⟩ := hcut
    have I3 := Lib.hid hI
    have hM : Hid (M ≤ 1000000) := by show _ ≤ _; have := hI.len; have := htl.out; simp only [List.length_append, List.length_cons, List.length_nil] at *; omega
    obtain ⟨z0, z1, z2, z3, z4, z5⟩ := hall.out wc hI.since.1
    have hSp := Lib.hid (hS2.out.below hI.since.1)
    clear hI hHead
    go_wp2_with (first
      | (at_builtin; have hg := hm1.out; go_loud (refine wpList_l (v := .slice a4 M4 c4) (a3 := some ⟨w4.heap.size, 0, none⟩) (m := 1) (c := 1) rfl (.tmp 29) (.tmp 35) rfl rfl hOwA.out rfl hOneA.out hM4.out h1m.out ?_); intro v7 w7 bo7 HO HM HN
         have I7 := Lib.hid (I4.out.app hAA.out HO.out HM.out HN.out)
         obtain ⟨a7, c7, hv7, _⟩ := I7.out.own.len
         subst hv7
         obtain ⟨y0, y1, y2, y3, y4, y5⟩ := hall.out w7 I7.out.since.1
         clear HO HM HN)
      | (at_builtin; go_loud (refine wpList_l (a3 := pa) (m := pn) (c := pc) rfl (.tmp 14) (.tmp 16) rfl rfl I3.out.own rfl hSp.out hM.out hpm.out ?_); intro v4 w4 bo4 HO HM HN
         obtain ⟨M4, i4⟩ : ∃ M4, LayI none wb ([hd] ++ numL pn ++ bs) v4 M4 bo4 w4 := ⟨_, I3.out.app (Below.refl _ _) HO.out HM.out HN.out⟩
         have I4 := Lib.hid i4
         have hM4 : Hid (M4 ≤ 1000000) := (by show _ ≤ _; have := i4.len; have := htl.out; have := hS2.out.len; simp only [List.length_append, List.length_cons, List.length_nil] at *; omega)
         obtain ⟨a4, c4, hv4, _⟩ := i4.own.len
         subst hv4
         obtain ⟨p0, p1, p2, p3, p4, p5⟩ := hall.out w4 i4.since.1
         have hm1 : Hid True := trivial
         have hAA : Hid (Below w4.heap.size w4 (w4.alloc (.cells #[.int .u8 (m1 : Nat)] 5))) := (Below.refl _ _).alloc (Nat.le_refl _) _
         have hOwA := Lib.hid (i4.own.below hAA.out)
         have hOneA := Lib.hid (sl_one w4 m1 5 hm1b.out)
         clear HO HM HN i4))
    have hT3 : Hid (([hd]++numL pn++bs++[m1]) ++ layT (ofL (L.drop 0)) = T) := by
      show _ = _
      rw [← hT2.out, List.drop_zero, ← hkL.out]
      (try simp)
    have I7' : Hid (LayI none wb ([hd]++numL pn++bs++[m1]) (.slice a7 (M4 + 1) c7) (M4 + 1) bo7 w7) := I7.out
    generalize M4 + 1 = M7 at *
    clear I7 I3 I4 hT hT2 hm1 hAA hOwA hOneA hSp z0 z1 z2 z3 z4 z5 y0 y1 y2 y3 y4 y5
    go_loopw [3, 4] (fun s3 s4 wr => ∃ (i : Nat) (zs : List Nat) (M : Nat) (bo' : Option Nat) (a : Option Addr) (c : Nat), s3 = .slice a M c ∧ s4 = .int .i64 (i : Nat) ∧ i ≤ m ∧ Hid (LayI none wb zs s3 M bo' wr) ∧ Hid (zs ++ layT (ofL (L.drop i)) = T)) (fun _ s4 _ => (m - intOf s4).toNat)
    case atStart => exact ⟨0, _, _, _, _, _, rfl, rfl, Nat.zero_le _, I7', hT3⟩
    case round =>
      obtain ⟨i, zs, M, bo', a, c, rfl, rfl, him, hI, hz⟩ := hrel
      obtain ⟨x0, x1, x2, x3, x4, x5⟩ := hall.out wr hI.out.since.1
      by_cases hlt : i < m
      · have l1 : (i : Int) < (m : Int) := by omega
        have l0 : (0 : Int) ≤ (i : Int) := by omega
        have hiL : i < L.length := by rw [← HmL.out]; exact hlt
        have l2 : (i : Int) < (bn : Int) := by have := H3.out.sl.len; rw [List.length_map] at this; omega
        obtain ⟨y, hy⟩ : ∃ y, L[i]? = some y := ⟨_, List.getElem?_eq_getElem hiL⟩
        obtain ⟨pb, rfl, hz1, hz2⟩ := H3.out.sl.at_.2 i (by rw [List.length_map]; exact hiL)
        have hz3 : (L.map (·.1)).getD i 0 = y.1 := by rw [List.getD, List.getElem?_map, hy]; rfl
        rw [hz3] at hz2
        obtain ⟨g, c', hg1, hg2, hg3, hg4, hg5⟩ := rt_at H6.out i y hy
        have hdr : layT (ofL (L.drop i)) = y.1 :: (layT y.2 ++ layT (ofL (L.drop (i + 1)))) := by
          rw [List.drop_eq_getElem_cons hiL]
          have : L[i] = y := by rw [List.getElem?_eq_getElem hiL] at hy; exact Option.some.inj hy
          rw [this]; rfl
        obtain ⟨yb, yt⟩ := y
        have hym := List.mem_of_getElem? hy
        have hyT := ((tok_ofL L).1 HOL.out).1 (yb, yt) hym
        have hyC : Can yt := (can_ofL L).1 HCL.out (yb, yt) hym
        have hyD : tdep yt ≤ N := Nat.le_trans (tdep_ofL hym) HdL.out
        have hyb : yb < 256 := hyT.1
        have hz5 : Hid (zs ++ [yb] ++ layT yt ++ layT (ofL (L.drop (i + 1))) = T) := by show _ = _; rw [← hz.out, hdr]; simp
        have hzl : Hid (zs.length + 1 + (layT yt).length ≤ 800000) := by
          have := congrArg List.length hz5.out
          have := HT.out
          simp only [List.length_append, List.length_cons, List.length_nil] at *
          show _ ≤ _
          omega
        cases yt with
        | nil => exact hyT.2.1.elim
        | kid => exact hyT.2.1.elim
        | node bs' v' has' leaf' ks' =>
          have hg5 : RT w G (.node bs' v' has' leaf' ks') none 0 c' := hg5
          have hdn : Hid (∀ X, Below w.heap.size w X → Calls Try.prog 111 #[.agg c'.toArray] X (layPost none X (layT (.node bs' v' has' leaf' ks')))) := fun X hb =>
            HIH.out bs' v' has' leaf' ks' c' hyD (hg5.keep hb.size fun j hj => hb.block j (HG.out j hj)) (fun j hj => Nat.lt_of_lt_of_le (HG.out j hj) hb.size) hyT.2.2 hyC (by have := hzl.out; omega)
          have hy8 : Hid (∀ x ∈ layT (.node bs' v' has' leaf' ks'), x < 256) := layT_byte _ hyT.2.2
          obtain ⟨pa', pn', pc', ba', bn', bc', ka', kn', kc', hc', hx'⟩ := hg5
          clear hx'
          subst hc'
          obtain ⟨KD', hKD'⟩ : ∃ x : Int, x = ((rkind leaf' ks' : Nat) : Int) := ⟨_, rfl⟩
          rw [← hKD'] at hdn hg4
          generalize layT (.node bs' v' has' leaf' ks') = LT at *
          subst hg1
          rw [Nat.zero_add] at hg4
          have hS : Hid (∀ X, Below wb.heap.size wb X → X.cell? ⟨w.heap.size, 4, none⟩ = some (.slice (some pb) bn bc) ∧ X.cell? ⟨w.heap.size, 5, none⟩ = some (.slice (some ⟨g, 0, none⟩) m rc) ∧ X.cell? (pb.add i) = some (.int .u8 (yb : Nat)) ∧ X.cell? ⟨g, i * 6, none⟩ = some (.int .i64 KD') ∧ X.cell? ⟨g, i * 6 + 1, none⟩ = some (.slice pa' pn' pc') ∧ X.cell? ⟨g, i * 6 + 2, none⟩ = some (.bool has') ∧ X.cell? ⟨g, i * 6 + 3, none⟩ = some (.int .u64 v') ∧ X.cell? ⟨g, i * 6 + 4, none⟩ = some (.slice ba' bn' bc') ∧ X.cell? ⟨g, i * 6 + 5, none⟩ = some (.slice ka' kn' kc')) := fun X hb => by
            obtain ⟨_, _, _, _, p4, p5⟩ := hall.out X hb
            have hwX := HB.out.trans (hb.mono HB.out.size)
            have hgl := HG.out g hg2
            have e : ∀ j, X.cell? ⟨g, j, none⟩ = w.cell? ⟨g, j, none⟩ := fun j => hwX.cell (p := ⟨g, j, none⟩) hgl
            exact ⟨p4, p5, (hwX.cell hz1).trans hz2, by rw [e]; exact hg4 0 (by omega), by rw [e]; exact hg4 1 (by omega), by rw [e]; exact hg4 2 (by omega), by rw [e]; exact hg4 3 (by omega), by rw [e]; exact hg4 4 (by omega), by rw [e]; exact hg4 5 (by omega)⟩
          have hM : Hid (M ≤ 1000000) := by show _ ≤ _; have := hzl.out; have := hI.out.len; omega
          have hw9 : IntKind.i64.wrap (((i : Nat) : Int) + 1) = ((i + 1 : Nat) : Int) := by rw [show ((i : Nat) : Int) + 1 = ((i + 1 : Nat) : Int) by omega]; exact IntWalk.i64_in _ (by omega)
          have hob := Lib.hid (hI.out.own.below ((Below.refl _ wr).drew.alloc (Nat.le_refl _) (.cells #[.int .u8 (yb : Nat)] 5)))
          have hAl : Hid (Below wr.heap.size wr (wr.drew.alloc (.cells #[.int .u8 (yb : Nat)] 5))) := (Below.refl _ wr).drew.alloc (Nat.le_refl _) _
          have hAl0 : Hid (Below wb.heap.size wb (wr.drew.alloc (.cells #[.int .u8 (yb : Nat)] 5))) := hI.out.since.1.drew.alloc hI.out.since.1.size _
          have hAl1 : Hid (Below wb.heap.size wb wr.drew) := hI.out.since.1.drew
          have hOne : Hid (Sl (wr.drew.alloc (.cells #[.int .u8 (yb : Nat)] 5)) (some ⟨wr.heap.size, 0, none⟩) 1 1 [yb]) := sl_one wr.drew yb 5 hyb
          clear hy hz hz1 hz2 hz3 hiL hg4 hyT hdr hKD' hg3 hym hyC hyD hyb
          go_wp2_with fail
          go_region_held3 (fun w' => w'.cell? ⟨w.heap.size, 4, none⟩ = some (.slice (some pb) bn bc) ∧ w'.cell? ⟨w.heap.size, 5, none⟩ = some (.slice (some ⟨g, 0, none⟩) m rc) ∧ w'.cell? (pb.add i) = some (.int .u8 (yb : Nat)) ∧ w'.cell? ⟨g, i * 6, none⟩ = some (.int .i64 KD') ∧ w'.cell? ⟨g, i * 6 + 1, none⟩ = some (.slice pa' pn' pc') ∧ w'.cell? ⟨g, i * 6 + 2, none⟩ = some (.bool has') ∧ w'.cell? ⟨g, i * 6 + 3, none⟩ = some (.int .u64 v') ∧ w'.cell? ⟨g, i * 6 + 4, none⟩ = some (.slice ba' bn' bc') ∧ w'.cell? ⟨g, i * 6 + 5, none⟩ = some (.slice ka' kn' kc'))
            (first | exact hS.out _ I9.out.since.1 | exact hS.out _ I8.out.since.1 | exact hS.out _ I7.out.since.1 | exact hS.out _ hAl0.out | exact hS.out _ hAl1.out)
            (first
              | (refine step_l (v := .slice a7 (M + 1) c7) (a3 := a8) (m := M8) (c := c8) (by rfl) (.tmp 51) (.tmp 57) (by rfl) (by rfl) I8.out.own (by rfl) hS8.out hM7.out hM8.out ?_; intro v9 w9 bo9 HO HM HN
                 obtain ⟨M9, i9⟩ : ∃ M9, LayI none wb (zs ++ [yb] ++ LT) v9 M9 bo9 w9 := ⟨_, I8.out.app (Below.refl _ _) HO.out HM.out HN.out⟩
                 have I9 := Lib.hid i9
                 obtain ⟨a9, c9, hv9, _⟩ := i9.own.len
                 subst hv9
                 clear HO HM HN i9)
              | (refine step_l (v := .slice a M c) (a3 := some ⟨wr.heap.size, 0, none⟩) (m := 1) (c := 1) (by rfl) (.tmp 44) (.tmp 50) (by rfl) (by rfl) hob.out (by rfl) hOne.out hM.out h1m.out ?_; intro v7 w7 bo7 HO HM HN
                 have i7 := hI.out.app hAl.out HO.out HM.out HN.out
                 obtain ⟨a7, c7, hv7, _⟩ := i7.own.len
                 subst hv7
                 have I7 := Lib.hid i7
                 have hM7 : Hid (M + 1 ≤ 1000000) := (by show _ ≤ _; have := hzl.out; have := hI.out.len; omega)
                 have hdn7 := Lib.hid (hdn.out w7 (HB.out.trans (i7.since.1.mono HB.out.size)))
                 clear HO HM HN i7)
              | (go_simp; go_at_call 111; refine hdn7.out.mono ?_; rintro e w8 ⟨v8, M8, bo8, rfl, o8, m8, n8⟩
                 obtain ⟨a8, c8, rfl, s8⟩ := sl_of_own o8 hy8.out
                 have hS8 := Lib.hid s8
                 have I8 := Lib.hid (I7.out.below (mod_lo m8 (fun g e => by cases e) (Nat.le_refl _)))
                 have hM8 : Hid (M8 ≤ 1000000) := (by show _ ≤ _; have := hzl.out; have := s8.len; omega)
                 clear o8 m8 n8 s8))
          all_goals
            (try simp only [Exit.then, Exit.inBlock])
            go_wp2_with fail
          go_roundw
          case rel => exact ⟨i + 1, _, M9, bo9, a9, c9, rfl, (by first | rfl | go_num), by omega, I9, hz5⟩
          case measure => (simp [intOf]) <;> omega
      · have l1 : ¬ (i : Int) < (m : Int) := by omega
        obtain rfl : i = m := by omega
        go_wp2_with fail
        go_ret
        have := hI.out.done0 HB.out
        have e := hz.out
        rw [HmL.out, List.drop_length, show layT (ofL ([] : List (Nat × Tr))) = [] from rfl, List.append_nil] at e
        rw [e] at this
        exact this
end Go.Proofs.Ytgijnjdcpipfiaa
/- The document's Encode. -/
namespace Go.Proofs.Ytgijnjdcpipfiaa
open Go.RowKit
theorem dn_any : ∀ N, DnAsk N
  | 0 => fun bs v has leaf ks c w G hd => absurd hd (by simp only [tdep]; omega)
  | N + 1 => fun bs v has leaf ks c w G hd hR hG hO hC hl => by
    obtain ⟨y, rfl⟩ : ∃ y : Nat, v = (y : Nat) := ⟨v.toNat, by have := hO.2.1; omega⟩
    cases leaf with
    | true =>
      have e := (hO.2.2.2.2.1 rfl).1
      subst e
      exact dn_leaf N (dn_any N) bs y ks c hd hR hG hO hC hl
    | false =>
      cases has with
      | true => exact dn_val N (dn_any N) bs y ks c hd hR hG hO hC hl
      | false => exact dn_no N (dn_any N) bs y ks c hd hR hG hO hC hl
theorem build_node {w : World} {a : Option Addr} {n c : Nat} {l : PL} {t : Tr} (h : Prs w a n c l) (hs : PSrt l) (hk : ∀ x ∈ l, x.1.length ≤ 65535) (hn : n ≤ 1000000) (hN : IsN t) (hO : TOk t) (hC : Can t) (he : tl t = l) (hlay : (layT t).length ≤ 800000) : Calls Try.prog 65 #[.slice a n c] w fun e w' => ∃ (kd : Int) (pa : Option Addr) (pn pc : Nat) (hs : Bool) (v : Int) (ba : Option Addr) (bn bc : Nat) (ka : Option Addr) (kn kc : Nat),
    e = .returned (.agg #[.int .i64 kd, .slice pa pn pc, .bool hs, .int .u64 v, .slice ba bn bc, .slice ka kn kc]) ∧ Below w.heap.size w w' ∧ Calls Try.prog 111 #[.agg #[.int .i64 kd, .slice pa pn pc, .bool hs, .int .u64 v, .slice ba bn bc, .slice ka kn kc]] w' (layPost none w' (layT t)) :=
  (doc_build h hs hk hn).mono fun e w' ⟨kd, pa, pn, pc, hs, v, ba, bn, bc, ka, kn, kc, q1, q2, q3⟩ => by
    refine ⟨kd, pa, pn, pc, hs, v, ba, bn, bc, ka, kn, kc, q1, q2, ?_⟩
    rcases q3 with ⟨q3, _⟩ | ⟨t', z1, z2, z3, z4, z5⟩
    · exact absurd (he.trans q3) (tl_ne t hN hO hC)
    · obtain rfl : t = t' := can_eq hN z1 hO z2 hC z3 (he.trans z4.symm)
      cases t with
      | nil => exact hN.elim
      | kid => exact hN.elim
      | node bs v' has leaf ks => exact dn_any _ bs v' has leaf ks _ (Nat.le_refl _) z5 (fun j hj => hj) hO hC hlay
set_option maxHeartbeats 1000000 in
set_option maxRecDepth 100000 in
theorem doc_encode {w : World} {a : Option Addr} {n c : Nat} {l : PL} {t : Tr} (h : Prs w a n c l) (hs : PSrt l) (hk : ∀ x ∈ l, x.1.length ≤ 65535) (hn : n ≤ 2000) (hN : t = .nil ∨ IsN t) (hO : TOk t) (hC : Can t) (he : tl t = l) (hlay : (layT t).length ≤ 700000) : Calls Try.prog 68 #[.slice a n c] w (encPost w (encL t)) := by
  obtain ⟨X1, hX1⟩ : ∃ X1, X1 = w.alloc (.cells #[.int .u8 1] 5) := ⟨_, rfl⟩
  have hO1 : OwnS 1 u8T X1 (.slice (some ⟨w.heap.size, 0, none⟩) 1 1) 1 (bV [1]) (some w.heap.size) := by rw [hX1]; exact own_one w 1
  have hA : Below w.heap.size w X1 := by rw [hX1]; exact (Below.refl _ w).alloc (Nat.le_refl _) _
  have HA := Lib.hid hA
  have HO1 := Lib.hid hO1
  have hln : (tl t).length = n := by rw [he]; exact h.len
  have hE8 : Hid (∀ x ∈ encL t, x < 256) := fun x hx => by
    unfold encL at hx
    simp only [List.mem_append, List.mem_singleton] at hx
    rcases hx with (rfl | hx) | hx
    · omega
    · exact numL_byte _ x hx
    · exact layT_byte t hO x hx
  have hn8 := Lib.hid (fun n => numL_byte n)
  have hNum := Lib.hid (doc_Num X1 n (by omega))
  have hw : IntKind.u64.wrap ((n : Nat) : Int) = (n : Nat) := wrap_u64 (by omega)
  have h1m : Hid (1 ≤ 1000000) := by show _ ≤ _; omega
  have hL10 : Hid ((numL n).length ≤ 10) := numL_ten (by omega)
  have hlay' := Lib.hid hlay
  by_cases h0 : n = 0
  · subst h0
    have ht : t = .nil := nil_of_tl hN hO hC (List.eq_nil_of_length_eq_zero hln)
    have hT : Hid (encL t = [1] ++ numL 0) := by show _ = _; rw [ht]; simp [encL, layT, tl]
    clear h hs hk he hN hO hC hln hlay hO1 hA ht
    go_enter Try.func68, Try.ntmps68
    go_wp2_with (first
      | (at_builtin; have hg := hS2; go_loud (refine wpList_l (v := .slice (some ⟨w.heap.size, 0, none⟩) 1 1) (a3 := a2) (m := M2) (c := c2) rfl (.tmp 4) (.tmp 8) rfl rfl hOne.out rfl hS2.out h1m.out hM2.out ?_); intro v3 w3 bo3 HO HM HN
         have i3 := LayI.fresh (zs := [1] ++ numL 0) hB2.out (by rw [bV_app]; exact HO.out) HM.out HN.out (fun g e => by cases e; exact Nat.le_refl _)
         rw [← hT.out] at i3
         obtain ⟨a3, c3, hv3, s3⟩ := i3.sl hE8.out
         subst hv3
         have S3 := Lib.hid s3
         have B3 := Lib.hid i3.since.1
         clear i3 s3 HO HM HN)
      | (rw [← hX1]; clear hX1; go_at_call 110; refine hNum.out.mono ?_; rintro e w2 ⟨v2, M2, bo2, rfl, e2, o2, m2, n2⟩
         obtain ⟨a2, c2, rfl, s2⟩ := sl_of_own o2 (fun x hx => hn8.out 0 x (by simpa using hx))
         rw [List.nil_append] at s2
         have hS2 := Lib.hid s2
         have b2 := mod_lo m2 (fun g e => by cases e) (Nat.le_refl _)
         have hOne := Lib.hid (HO1.out.below b2)
         have hB2 := Lib.hid (HA.out.trans (b2.mono HA.out.size))
         have hM2 : Hid (M2 ≤ 1000000) := (by show _ ≤ _; have := hL10.out; rw [e2]; simp only [List.length_nil]; omega)
         clear e2 o2 m2 n2 s2 b2))
    go_ret
    exact ⟨a3, _, c3, rfl, S3.out, B3.out⟩
  · have hN' : IsN t := by
      rcases hN with rfl | h
      · exact absurd (show n = 0 by rw [← hln]; rfl) h0
      · exact h
    have hBd : Hid (∀ X, Below w.heap.size w X → _) := fun X hb => build_node (h.below hb) hs hk (by omega) hN' hO hC he (by omega)
    have hT : Hid ([1] ++ numL n ++ layT t = encL t) := by show _ = _; rw [← hln]; rfl
    have hy8 : Hid (∀ x ∈ layT t, x < 256) := layT_byte t hO
    have hn0 : ((n : Int) == 0) = false := by rw [beq_eq_false_iff_ne]; omega
    clear h hs hk he hN hO hC hln hlay hO1 hA hN'
    generalize encL t = E at *
    generalize layT t = LT at *
    go_enter Try.func68, Try.ntmps68
    go_wp2_with (first
      | (at_builtin; have hg := hS5; go_loud (refine wpList_l (v := .slice a3 M3 c3) (a3 := a5) (m := M5) (c := c5) rfl (.tmp 14) (.tmp 17) rfl rfl I5.out.own rfl hS5.out hM3.out hM5.out ?_); intro v6 w6 bo6 HO HM HN
         obtain ⟨M6, i6⟩ : ∃ M6, LayI none w ([1] ++ numL n ++ LT) v6 M6 bo6 w6 := ⟨_, I5.out.app (Below.refl _ _) HO.out HM.out HN.out⟩
         rw [hT.out] at i6
         obtain ⟨a6, c6, hv6, s6⟩ := i6.sl hE8.out
         subst hv6
         have S6 := Lib.hid s6
         have B6 := Lib.hid i6.since.1
         clear i6 s6 HO HM HN)
      | (go_at_call 111; refine hNd.out.mono ?_; rintro e w5 ⟨v5, M5, bo5, rfl, o5, m5, n5⟩
         obtain ⟨a5, c5, rfl, s5⟩ := sl_of_own o5 hy8.out
         have hS5 := Lib.hid s5
         have I5 := Lib.hid (I4.out.below (mod_lo m5 (fun g e => by cases e) (Nat.le_refl _)))
         have hM5 : Hid (M5 ≤ 1000000) := (by show _ ≤ _; have := hlay'.out; have := s5.len; omega)
         clear o5 m5 n5 s5)
      | (go_at_call 65; refine (hBd.out _ B3.out).mono ?_; rintro e w4 ⟨kd, pa, pn, pc, hs, y, ba, bn, bc, ra, rn, rc, rfl, z1, z2⟩
         have hNd := Lib.hid z2
         have I4 := Lib.hid (I3.out.below z1)
         clear z1 z2)
      | (at_builtin; have hg := hS2; go_loud (refine wpList_l (v := .slice (some ⟨w.heap.size, 0, none⟩) 1 1) (a3 := a2) (m := M2) (c := c2) rfl (.tmp 4) (.tmp 8) rfl rfl hOne.out rfl hS2.out h1m.out hM2.out ?_); intro v3 w3 bo3 HO HM HN
         obtain ⟨M3, i3⟩ : ∃ M3, LayI none w ([1] ++ numL n) v3 M3 bo3 w3 := ⟨_, LayI.fresh (zs := [1] ++ numL n) hB2.out (by rw [bV_app]; exact HO.out) HM.out HN.out (fun g e => by cases e; exact Nat.le_refl _)⟩
         obtain ⟨a3, c3, hv3, _⟩ := i3.own.len
         subst hv3
         have hM3 : Hid (M3 ≤ 1000000) := (by show _ ≤ _; have := hL10.out; have := i3.len; simp only [List.length_append, List.length_cons, List.length_nil] at this; omega)
         have I3 := Lib.hid i3
         have B3 := Lib.hid i3.since.1
         clear i3 HO HM HN)
      | (rw [← hX1]; clear hX1; go_at_call 110; refine hNum.out.mono ?_; rintro e w2 ⟨v2, M2, bo2, rfl, e2, o2, m2, n2⟩
         obtain ⟨a2, c2, rfl, s2⟩ := sl_of_own o2 (fun x hx => hn8.out n x (by simpa using hx))
         rw [List.nil_append] at s2
         have hS2 := Lib.hid s2
         have b2 := mod_lo m2 (fun g e => by cases e) (Nat.le_refl _)
         have hOne := Lib.hid (HO1.out.below b2)
         have hB2 := Lib.hid (HA.out.trans (b2.mono HA.out.size))
         have hM2 : Hid (M2 ≤ 1000000) := (by show _ ≤ _; have := hL10.out; rw [e2]; simp only [List.length_nil]; omega)
         clear e2 o2 m2 n2 s2 b2))
    go_ret
    exact ⟨a6, _, c6, rfl, S6.out, B6.out⟩
end Go.Proofs.Ytgijnjdcpipfiaa
/- alive of law 32. -/
namespace Go.Proofs.Ytgijnjdcpipfiaa
open Go.RowKit
/-- what alive asks of its tree, in every later world -/
structure AlQ (w : World) (a : Addr) (E : Nat) : Prop where
  of : ∀ X, Below w.heap.size w X → Calls Try.prog 31 #[.pointer (some a)] X (belowPost (.agg #[.int .i64 2, .int .i64 1, .int .i64 1, .int .i64 0, .int .i64 0, .int .i64 0, .int .i64 1, .int .i64 2, .int .i64 2, .int .i64 1, .int .i64 (E : Nat)]) X)
  inner : ∀ X, Calls Try.prog 34 #[.agg #[.int .i64 2, .int .i64 1, .int .i64 1, .int .i64 0, .int .i64 0, .int .i64 0, .int .i64 1, .int .i64 2, .int .i64 2, .int .i64 1, .int .i64 (E : Nat)]] X (belowPost (.int .i64 1) X)
  nodes : ∀ X, Calls Try.prog 35 #[.agg #[.int .i64 2, .int .i64 1, .int .i64 1, .int .i64 0, .int .i64 0, .int .i64 0, .int .i64 1, .int .i64 2, .int .i64 2, .int .i64 1, .int .i64 (E : Nat)]] X (belowPost (.int .i64 2) X)
  shared : ∀ X, Below w.heap.size w X → Calls Try.prog 36 #[.pointer (some a), .pointer (some a)] X (belowPost (.int .i64 2) X)
theorem alq_of {w0 w : World} {Q : List NP} {t : Tr} {v : Option Addr} (hQ : StoreP NoB w0 w Q) (hT : TreeV Q t (.pointer v)) (hO : TOk t) (hC : Can t) (he : tl t = alL) : ∃ a E, v = some a ∧ AlQ w a E := by
  have hN : IsN t := hT.node (by rw [he]; simp [alL])
  obtain rfl : t = alT := can_eq hN trivial hO alT_ok hC alT_can (he.trans alT_l.symm)
  have hk : ∀ p ∈ tl alT, p.1.length ≤ 300 := by rw [alT_l]; intro x hx; simp [alL] at hx; rcases hx with rfl | rfl <;> simp
  have hOf : ∀ X, Below w.heap.size w X → _ := fun X hb => of_can (hQ.below hb) hT hO hC hk (by rw [alT_l]; simp [alL])
  generalize (encL alT).length = E at hOf
  have hst : stAdd alT 0 0 (stZ E) = ⟨2, 1, 1, 0, 0, 0, 1, 2, 2, 1, E⟩ := rfl
  rw [hst] at hOf
  have hno : ∀ X, Calls Try.prog 35 #[stV ⟨2, 1, 1, 0, 0, 0, 1, 2, 2, 1, E⟩] X (belowPost (.int .i64 ((2 : Nat) : Int)) X) := fun X => st_nodesC X 2 1 1 0 0 0 1 2 2 1 E (by omega) (by omega) (by omega) (by omega) (by omega)
  obtain ⟨a, rfl⟩ : ∃ a, v = some a := by
    rcases hT with ⟨h, _⟩ | ⟨_, hT⟩
    · cases h
    · obtain ⟨i, p, h0, h1, h2, _⟩ := hT
      exact ⟨_, by simpa using h2⟩
  exact ⟨a, E, rfl, hOf, fun X => st_innerC X 2 1 1 0 0 0 1 2 2 1 E (by omega) (by omega) (by omega) (by omega), hno, fun X hb => shared_top X (some a) (some a) 2 (shared_same X a ⟨2, 1, 1, 0, 0, 0, 1, 2, 2, 1, E⟩ 2 (fun Y hy => hOf Y (hb.trans (hy.mono hb.size))) hno)⟩
set_option maxHeartbeats 2000000 in
set_option maxRecDepth 100000 in
theorem alive32 (w : World) : Calls Try.prog 29 #[] w (belowPost (.bool true) w) := by
  obtain ⟨W3, hW3⟩ : ∃ W3, W3 = ((w.alloc (.cells #[.int .u8 1] 5)).alloc (.cells #[.int .u8 1, .int .u8 2] 5)).alloc (.cells #[.slice (some ⟨w.heap.size, 0, none⟩) 1 1, .int .u64 5, .slice (some ⟨w.heap.size + 1, 0, none⟩) 2 2, .int .u64 6] kpT) := ⟨_, rfl⟩
  have hB0 : Hid (Below w.heap.size w W3) := by rw [hW3]; exact (((Below.refl _ w).alloc (Nat.le_refl _) _).alloc (by simp) _).alloc (by simp; omega) _
  have hP : Hid (Calls Try.prog 32 #[.slice (some ⟨w.heap.size + 1 + 1, 0, none⟩) 2 2, .int .u64 1] W3 fun e w' => ∃ a E, e = .returned (.pointer (some a)) ∧ Below W3.heap.size W3 w' ∧ AlQ w' a E) := by
    have h := law_tree32 W3 (some ⟨w.heap.size + 1 + 1, 0, none⟩) 2 2 alL (by rw [hW3]; exact al_prs w 5 5 kpT) (by omega) al_srt (by intro x hx; simp [alL] at hx; rcases hx with rfl | rfl <;> simp)
    refine h.mono fun e w' ⟨t, v, Q, q1, q2, q3, q4, q5, q6⟩ => ?_
    obtain ⟨a, E, rfl, hA⟩ := alq_of q2 q3 q4 q5 q6
    exact ⟨a, E, q1, q2.below_, hA⟩
  go_enter Try.func29, Try.ntmps29
  go_wp2_with (first
    | (have g0 := B5
       go_at_call 36; refine (HA.out.shared _ B5.out).mono ?_; rintro e w6 ⟨rfl, z6⟩
       have B6 := Lib.hid (B5.out.trans (z6.mono B5.out.size))
       clear z6)
    | (have g0 := B4
       go_at_call 35; refine (HA.out.nodes _).mono ?_; rintro e w5 ⟨rfl, z5⟩
       have B5 := Lib.hid (B4.out.trans (z5.mono B4.out.size))
       clear z5)
    | (have g0 := B3
       go_at_call 34; refine (HA.out.inner _).mono ?_; rintro e w4 ⟨rfl, z4⟩
       have B4 := Lib.hid (B3.out.trans (z4.mono B3.out.size))
       have S4 := Lib.hid (S3.out.below z4)
       obtain ⟨d0, d1, d2, d3, d4, d5, d6, d7, d8, d9, d10⟩ := (show StIs stT _ _ ⟨2, 1, 1, 0, 0, 0, 1, 2, 2, 1, E⟩ from S4.out).all
       clear z4)
    | (have g0 := HA
       go_at_call 31; refine (HA.out.of w1 (Below.refl _ _)).mono ?_; rintro e w2 ⟨rfl, z2⟩
       have S3 := Lib.hid (show StIs stT (w2.alloc (.cells #[.int .i64 2, .int .i64 1, .int .i64 1, .int .i64 0, .int .i64 0, .int .i64 0, .int .i64 1, .int .i64 2, .int .i64 2, .int .i64 1, .int .i64 (E : Nat)] stT)) w2.heap.size ⟨2, 1, 1, 0, 0, 0, 1, 2, 2, 1, E⟩ from ⟨heap_alloc_new _ _⟩)
       have B3 := Lib.hid (z2.trans ((below_al w2 (.cells #[.int .i64 2, .int .i64 1, .int .i64 1, .int .i64 0, .int .i64 0, .int .i64 0, .int .i64 1, .int .i64 2, .int .i64 2, .int .i64 1, .int .i64 (E : Nat)] stT)).mono z2.size))
       obtain ⟨c0, c1, c2, c3, c4, c5, c6, c7, c8, c9, c10⟩ := (show StIs stT _ _ ⟨2, 1, 1, 0, 0, 0, 1, 2, 2, 1, E⟩ from S3.out).all
       clear z2)
    | (rw [← hW3]; clear hW3; go_at_call 32; refine hP.out.mono ?_; rintro e w1 ⟨a, E, rfl, z1, hA⟩
       have HA := Lib.hid hA
       have BW := Lib.hid (hB0.out.trans (z1.mono hB0.out.size))
       clear z1 hA))
  go_ret
  exact ⟨rfl, BW.out.trans (B6.out.mono BW.out.size)⟩
end Go.Proofs.Ytgijnjdcpipfiaa
/- stats.Shared of two trees that were made apart, of a tree and itself. -/
namespace Go.Proofs.Ytgijnjdcpipfiaa
open Go.RowKit
theorem nodes_apart {w1 w2 w3 w4 : World} {Q1 Q2 : List NP} (h1 : StoreP NoB w1 w2 Q1) (h2 : StoreP NoB w3 w4 Q2) (hb : w2.heap.size ≤ w3.heap.size) : ∀ (i j : Nat) (p q : NP), Q1[i]? = some p → Q2[j]? = some q → p.n ≠ q.n := fun i j p q hp hq e => by
  obtain ⟨pv, bo, kp, Sk, hd⟩ := h1.is hp
  have l1 := NdIs.lt hd
  obtain ⟨L, e2, h2⟩ := h2
  obtain ⟨d, hd2, e3⟩ : ∃ d, L[j]? = some d ∧ d.toNP = q := by
    rw [← e2, List.getElem?_map] at hq
    cases hL : L[j]? with
    | none => rw [hL] at hq; cases hq
    | some d => rw [hL] at hq; exact ⟨d, rfl, by simpa using hq⟩
  have l2 := h2.new j d hd2 d.n (Or.inl rfl)
  have e4 : d.n = q.n := by rw [← e3]
  omega
theorem sh_any {wb w01 w02 : World} {Q1 Q2 : List NP} (h1 : StoreP NoB w01 wb Q1) (h2 : StoreP NoB w02 wb Q2) (hne : ∀ (i j : Nat) (p q : NP), Q1[i]? = some p → Q2[j]? = some q → p.n ≠ q.n) : ∀ N, ShAsk wb Q1 Q2 N
  | N, .nil, _, _, _, _, _, _, _, hn, _, _, _, _, _, _, _, _ => hn.elim
  | N, .kid .., _, _, _, _, _, _, _, hn, _, _, _, _, _, _, _, _ => hn.elim
  | N, .node .., .nil, _, _, _, _, _, _, _, hn, _, _, _, _, _, _, _ => hn.elim
  | N, .node .., .kid .., _, _, _, _, _, _, _, hn, _, _, _, _, _, _, _ => hn.elim
  | 0, .node .., .node .., _, _, _, _, _, hd, _, _, _, _, _, _, _, _, _ => by simp only [tdep] at hd; omega
  | N + 1, .node bs1 v1 has1 leaf1 ks1, .node bs2 v2 has2 leaf2 ks2, a, b, g1, g2, w, hd, _, _, hT1, hT2, hO1, hO2, hg1, hg2, hB => by
    have IH := sh_any h1 h2 hne N
    simp only [tdep] at hd
    have hI1 : TreeIn Q1 0 (.node bs1 v1 has1 leaf1 ks1) (.pointer (some a)) [] := by
      rcases hT1 with ⟨h, _⟩ | ⟨_, h⟩
      · cases h
      · exact h
    have hI2 : TreeIn Q2 0 (.node bs2 v2 has2 leaf2 ks2) (.pointer (some b)) [] := by
      rcases hT2 with ⟨h, _⟩ | ⟨_, h⟩
      · cases h
      · exact h
    obtain ⟨n1, kk1, ea, N1, K1, x1, _⟩ := nodew_of h1 hI1 hO1
    obtain ⟨n2, kk2, eb, N2, K2, x2, _⟩ := nodew_of h2 hI2 hO2
    obtain rfl : a = ⟨n1, 0, none⟩ := by simpa using ea
    obtain rfl : b = ⟨n2, 0, none⟩ := by simpa using eb
    obtain ⟨i1, p1, _, hp1, hv1, hb1, _⟩ := id hI1
    obtain ⟨i2, p2, _, hp2, hv2, hb2, _⟩ := id hI2
    have en1 : n1 = p1.n := by simpa using hv1
    have en2 : n2 = p2.n := by simpa using hv2
    have hnn : n1 ≠ n2 := by rw [en1, en2]; exact hne i1 i2 p1 p2 hp1 hp2
    have hl1 : bs1.length ≤ 140737488355328 := by rw [← hb1]; exact (h1.fit hp1).2
    have hl2 : bs2.length ≤ 140737488355328 := by rw [← hb2]; exact (h2.fit hp2).2
    have e1 := hO1.2.2.2.2.2.1
    have e2 := hO2.2.2.2.2.2.1
    have o1 := hO1.2.2.2.2.2.2
    have o2 := hO2.2.2.2.2.2.2
    refine sh_node wb w n1 n2 bs1 bs2 g1 g2 Q1 (kk1, ks1) (kk1, ks1) hB hg1 hg2 hl1 hl2 N1.part N2.part (fun X hX => ?_) N1.next K1 x1 (fun c hc => ?_) (fun c hc => ?_)
    · obtain ⟨j, hj, hj0⟩ := ptr_info5
      obtain ⟨pv, bo, kp, Sk, hn1⟩ := (h1.below hX).is hp1
      obtain ⟨pv2, bo2, kp2, Sk2, hn2⟩ := (h2.below hX).is hp2
      rw [← en1] at hn1
      rw [← en2] at hn2
      exact eqIn_ptr_other X ptr_under hj hj0 (fun e => hnn (congrArg Addr.block e)) hn1.blk hn2.blk 9998
    · rcases kid_ap K2.tree K2.ok K2.isK c with e | ⟨t, k, e, q1, q2, q3, q4⟩
      · refine ⟨none, fun X hX => (N2.kid X c hX hc).mono fun e' w' ⟨z1, z2⟩ => ⟨by rw [z1]; exact congrArg Ending.returned e, z2⟩, fun X g hX hg => sh_nilR X _ g, fun X t k hX _ _ _ _ => sh_nilR X _ 0⟩
      · refine ⟨some ⟨k, 0, none⟩, fun X hX => (N2.kid X c hX hc).mono fun e' w' ⟨z1, z2⟩ => ⟨by rw [z1]; exact congrArg Ending.returned e, z2⟩, fun X g hX hg => ?_, fun X t' k' hX i1 i2 i3 i4 => ?_⟩
        · exact IH (.node bs1 v1 has1 leaf1 ks1) t ⟨n1, 0, none⟩ ⟨k, 0, none⟩ g 0 X (by simp only [tdep]; omega) trivial q1 hT1 q2 hO1 q3 hg (Nat.zero_le _) hX
        · exact IH t' t ⟨k', 0, none⟩ ⟨k, 0, none⟩ 0 0 X (by have i4 : tdep t' ≤ tdep ks1 := i4; omega) i1 q1 i2 q2 i3 q3 (Nat.zero_le _) (Nat.zero_le _) hX
    · rcases kid_ap K1.tree K1.ok K1.isK c with e | ⟨t, k, e, q1, q2, q3, q4⟩
      · refine ⟨none, fun X hX => (N1.kid X c hX hc).mono fun e' w' ⟨z1, z2⟩ => ⟨by rw [z1]; exact congrArg Ending.returned e, z2⟩, fun X g hX hg => sh_nilL X _ g⟩
      · refine ⟨some ⟨k, 0, none⟩, fun X hX => (N1.kid X c hX hc).mono fun e' w' ⟨z1, z2⟩ => ⟨by rw [z1]; exact congrArg Ending.returned e, z2⟩, fun X g hX hg => ?_⟩
        exact IH t (.node bs2 v2 has2 leaf2 ks2) ⟨k, 0, none⟩ ⟨n2, 0, none⟩ 0 g X (by simp only [tdep]; omega) q1 trivial q2 hT2 q3 hO2 (Nat.zero_le _) hg hX
/-- a tree that the law made -/
def TS (w0 w : World) (v : Option Addr) : Prop := ∃ (t : Tr) (Q : List NP), StoreP NoB w0 w Q ∧ TreeV Q t (.pointer v) ∧ TOk t ∧ Can t ∧ (∀ p ∈ tl t, p.1.length ≤ 300) ∧ (tl t).length ≤ 250
theorem TS.later {w0 w w' : World} {v : Option Addr} (h : TS w0 w v) (hb : Below w.heap.size w w') : TS w0 w' v := by
  obtain ⟨t, Q, q1, q2⟩ := h
  exact ⟨t, Q, q1.below hb, q2⟩
theorem ts_self {w0 w : World} {v : Option Addr} (h : TS w0 w v) : ∃ s N, (∀ X, Below w.heap.size w X → Calls Try.prog 31 #[.pointer v] X (belowPost (stV s) X)) ∧ (∀ X, Calls Try.prog 35 #[stV s] X (belowPost (.int .i64 (N : Nat)) X)) ∧ ∀ X, Below w.heap.size w X → Calls Try.prog 36 #[.pointer v, .pointer v] X (belowPost (.int .i64 (N : Nat)) X) := by
  obtain ⟨t, Q, q1, q2, q3, q4, q5, q6⟩ := h
  have hnz := treeV_nz q2
  have hw : tw t ≤ 1000000000000000000 := tw_bound hnz q3 q4 q5 (by omega) (n := 250) q6 (by omega)
  have hle := (stAdd_le t (way := 0) (deep := 0) (M := 0) (s := stZ (encL t).length) ⟨Nat.le_refl _, Nat.le_refl _, Nat.le_refl _, Nat.le_refl _, Nat.le_refl _, Nat.le_refl _, Nat.le_refl _, Nat.le_refl _, Nat.le_refl _, Nat.le_refl _⟩ (Nat.le_refl _)).mono (N := 1000000000000000000) (by omega)
  have hOf : ∀ X, Below w.heap.size w X → _ := fun X hb => of_can (q1.below hb) q2 q3 q4 q5 q6
  have hNo := fun X => st_nodes X _ hle (Nat.le_refl _)
  refine ⟨_, _, hOf, hNo, fun X hb => ?_⟩
  cases v with
  | some a => exact shared_top X _ _ _ (shared_same X a _ _ (fun Y hy => hOf Y (hb.trans (hy.mono hb.size))) hNo)
  | none =>
    have ht : t = .nil := by
      rcases q2 with ⟨h, _⟩ | ⟨h, hT⟩
      · exact h
      · cases t with
        | nil => rfl
        | kid => exact h.elim
        | node => obtain ⟨i, p, h0, h1, h2, _⟩ := hT; simp at h2
    subst ht
    exact shared_top X _ _ _ (shared_nil1 X none)
theorem ts_apart {w1 w2 w3 w4 : World} {a b : Option Addr} (h1 : TS w1 w2 a) (hb : Below w2.heap.size w2 w3) (h2 : TS w3 w4 b) (hb2 : Below w2.heap.size w2 w4) : ∀ X, Below w4.heap.size w4 X → Calls Try.prog 36 #[.pointer a, .pointer b] X (belowPost (.int .i64 ((0 : Nat) : Int)) X) := fun X hX => by
  obtain ⟨t, Q, q1, q2, q3, q4, q5, q6⟩ := h1
  obtain ⟨u, R, r1, r2, r3, r4, r5, r6⟩ := h2
  refine shared_top X a b 0 ?_
  cases a with
  | none => exact shared_nil1 X b
  | some a =>
    cases b with
    | none => exact shared_nil2 X a
    | some b =>
      have hn1 : IsN t := by
        rcases q2 with ⟨_, h⟩ | ⟨h, _⟩
        · cases h
        · exact h
      have hn2 : IsN u := by
        rcases r2 with ⟨_, h⟩ | ⟨h, _⟩
        · cases h
        · exact h
      exact sh_any ((q1.below hb2).below hX) (r1.below hX) (nodes_apart q1 r1 hb.size) _ t u a b 0 0 X (Nat.le_refl _) hn1 hn2 q2 r2 q3 r3 (Nat.zero_le _) (Nat.zero_le _) (Below.refl _ _)
theorem sort_ts {w : World} {a : Option Addr} {n c : Nat} {l : PL} (h : Prs w a n c l) (hn : n ≤ 150) (hk : ∀ x ∈ l, x.1.length ≤ 300) : Calls Try.prog 30 #[.slice a n c] w fun e w1 => ∃ a1 m c1, e = .returned (.slice a1 m c1) ∧ Below w.heap.size w w1 ∧ Calls Try.prog 32 #[.slice a1 m c1, .int .u64 1] w1 fun e w2 => ∃ v, e = .returned (.pointer v) ∧ Below w1.heap.size w1 w2 ∧ TS w1 w2 v := by
  refine (ref_sort w a n c l h (by omega)).mono ?_
  rintro e w1 ⟨v, l0, rfl, hP, hS⟩
  obtain ⟨a1, c1, rfl, hp⟩ := hP.prs
  have hl : l0.length ≤ n := by have := hS.len; rw [h.len] at this; exact this
  have hsh := hS.short hk
  refine ⟨a1, l0.length, c1, rfl, hP.below_, (law_tree32 w1 a1 l0.length c1 l0 hp (by omega) hS.srt (fun x hx => by have := hsh x hx; omega)).mono fun e w2 ⟨t, v, Q, q1, q2, q3, q4, q5, q6⟩ => ⟨v, q1, q2.below_, t, Q, q2, q3, q4, q5, by rw [q6]; exact hsh, by rw [q6]; omega⟩⟩
end Go.Proofs.Ytgijnjdcpipfiaa
/- The law StatsApart. -/
namespace Go.Proofs.Ytgijnjdcpipfiaa
open Go.RowKit
theorem far_pair {w : World} {a a' : Option Addr} {n n' c c' : Nat} {l l' : PL} (h : Prs w a n c l) (h' : Prs w a' n' c' l') : (decide (150 < n) || farL 300 l) = true ∨ (n ≤ 150 ∧ (∀ x ∈ l, x.1.length ≤ 300)) := by
  cases hb : (decide (150 < n) || farL 300 l) with
  | true => exact Or.inl rfl
  | false => exact Or.inr (far_m hb)
set_option maxHeartbeats 4000000 in
set_option maxRecDepth 100000 in
theorem StatsApart_any (w : World) (a : Option Addr) (n c : Nat) (l : PL) (h : Prs w a n c l) (a' : Option Addr) (n' c' : Nat) (l' : PL) (h' : Prs w a' n' c' l') : Calls Try.prog 6 #[.slice a n c, .slice a' n' c'] w (truePost w) := by
  have hF := Lib.hid (far_32 w a n c l h 150 (by omega))
  have hF' := Lib.hid (fun X (b : Below w.heap.size w X) => far_32 X a' n' c' l' (h'.below b) 150 (by omega))
  have hal := Lib.hid (fun w => alive32 w)
  cases hb : (decide (150 < n) || farL 300 l) with
  | true =>
    rw [hb] at hF
    clear h h' hb hF'
    go_enter Try.func6, Try.ntmps6
    go_wp2_with (first
      | (go_at_call 28; refine hF.out.mono ?_; rintro e w1 ⟨rfl, z1⟩; have B1 := Lib.hid z1; clear z1)
      | (go_at_call 29; refine (hal.out _).mono ?_; rintro e w2 ⟨rfl, z1⟩; have B2 := Lib.hid (B1.out.trans (z1.mono B1.out.size)); clear z1))
    go_ret
    exact ⟨rfl, B2.out⟩
  | false =>
    obtain ⟨h1, h3⟩ := far_m hb
    rw [hb] at hF
    cases hb' : (decide (150 < n') || farL 300 l') with
    | true =>
      simp only [hb'] at hF'
      clear h h' hb h3 hb' h1
      go_enter Try.func6, Try.ntmps6
      go_wp2_with (first
        | (have g0 := B1; go_at_call 28; refine (hF'.out _ B1.out).mono ?_; rintro e w2 ⟨rfl, z1⟩; have B2 := Lib.hid (B1.out.trans (z1.mono B1.out.size)); clear z1)
        | (go_at_call 28; refine hF.out.mono ?_; rintro e w1 ⟨rfl, z1⟩; have B1 := Lib.hid z1; clear z1)
        | (go_at_call 29; refine (hal.out _).mono ?_; rintro e w3 ⟨rfl, z1⟩; have B3 := Lib.hid (B2.out.trans (z1.mono B2.out.size)); clear z1))
      go_ret
      exact ⟨rfl, B3.out⟩
    | false =>
      obtain ⟨h1', h3'⟩ := far_m hb'
      simp only [hb'] at hF'
      have hso := Lib.hid (fun w1 (b1 : Below w.heap.size w w1) => sort_ts (h.below b1) h1 h3)
      have hso' := Lib.hid (fun w1 (b1 : Below w.heap.size w w1) => sort_ts (h'.below b1) h1' h3')
      clear h h' hb hb' h3 h3' h1 h1'
      go_enter Try.func6, Try.ntmps6
      go_upto_region 4 with (first
        | (have g0 := T8; go_at_call 32; refine T8.out.mono ?_; rintro e w9 ⟨v9, rfl, z1, z2⟩
           have S9 := Lib.hid z2
           have B9 := Lib.hid (B8.out.trans (z1.mono B8.out.size))
           have D9 := Lib.hid (D8.out.trans (z1.mono D8.out.size))
           have F9 := Lib.hid (F8.out.trans (z1.mono F8.out.size))
           clear z1 z2)
        | (have g0 := S7; go_at_call 30; refine (hso.out _ B7.out).mono ?_; rintro e w8 ⟨a8, m8, c8, rfl, z1, z2⟩
           have T8 := Lib.hid z2
           have B8 := Lib.hid (B7.out.trans (z1.mono B7.out.size))
           have D8 := Lib.hid (D7.out.trans (z1.mono D7.out.size))
           have F8 := Lib.hid z1
           clear z1 z2)
        | (have g0 := T6; go_at_call 32; refine T6.out.mono ?_; rintro e w7 ⟨v7, rfl, z1, z2⟩
           have S7 := Lib.hid z2
           have B7 := Lib.hid (B6.out.trans (z1.mono B6.out.size))
           have D7 := Lib.hid (D6.out.trans (z1.mono D6.out.size))
           clear z1 z2)
        | (have g0 := S5; go_at_call 30; refine (hso'.out _ B5.out).mono ?_; rintro e w6 ⟨a6, m6, c6, rfl, z1, z2⟩
           have T6 := Lib.hid z2
           have B6 := Lib.hid (B5.out.trans (z1.mono B5.out.size))
           have D6 := Lib.hid z1
           clear z1 z2)
        | (have g0 := T4; go_at_call 32; refine T4.out.mono ?_; rintro e w5 ⟨v5, rfl, z1, z2⟩
           have S5 := Lib.hid z2
           have B5 := Lib.hid (B4.out.trans (z1.mono B4.out.size))
           clear z1 z2)
        | (have g0 := B2; go_at_call 30; refine (hso.out _ B2.out).mono ?_; rintro e w4 ⟨a4, m4, c4, rfl, z1, z2⟩
           have T4 := Lib.hid z2
           have B4 := Lib.hid (B2.out.trans (z1.mono B2.out.size))
           clear z1 z2)
        | (have g0 := B1; go_at_call 28; refine (hF'.out _ B1.out).mono ?_; rintro e w2 ⟨rfl, z1⟩; have B2 := Lib.hid (B1.out.trans (z1.mono B1.out.size)); clear z1)
        | (go_at_call 28; refine hF.out.mono ?_; rintro e w1 ⟨rfl, z1⟩; have B1 := Lib.hid z1; clear z1))
      have D9' : Hid (Below w5.heap.size w5 w9) := D9.out
      obtain ⟨s, N, k1, k2, k3⟩ := ts_self (S5.out.later D9'.out)
      have K1 := Lib.hid k1
      have K2 := Lib.hid k2
      have K3 := Lib.hid k3
      have K4 : Hid (∀ X, Below w9.heap.size w9 X → Calls Try.prog 36 #[.pointer v5, .pointer v7] X (belowPost (.int .i64 0) X)) := fun X hX => ts_apart S5.out D6.out S7.out D7.out X (F9.out.trans (hX.mono F9.out.size))
      have K5 : Hid (∀ X, Below w9.heap.size w9 X → Calls Try.prog 36 #[.pointer v5, .pointer v9] X (belowPost (.int .i64 0) X)) := fun X hX => ts_apart S5.out D8.out S9.out D9.out X hX
      have K6 : Hid (∀ X, Calls Try.prog 36 #[.pointer v5, .pointer none] X (belowPost (.int .i64 0) X)) := fun X => by
        refine shared_top X v5 none 0 ?_
        cases v5 with
        | none => exact shared_nil1 X none
        | some v => exact shared_nil2 X v
      have K7 : Hid (∀ X, Calls Try.prog 36 #[.pointer none, .pointer v5] X (belowPost (.int .i64 0) X)) := fun X => shared_top X none v5 0 (shared_nil1 X v5)
      obtain ⟨sv, hsv⟩ : ∃ sv, Hid (stV s = sv) := ⟨_, rfl⟩
      have hB0 : Hid (Below w9.heap.size w9 w9) := Below.refl _ _
      clear k1 k2 k3 S5 S7 S9 D6 D7 D8 D9 D9' F8 F9 T4 T6 T8 hso hso' hF hF'
      rw [hsv.out] at K1 K2
      go_wp2_with (first
        | (have g0 := C7; go_at_call 29; refine (hal.out _).mono ?_; rintro e x8 ⟨rfl, z1⟩; have C8 := Lib.hid (C7.out.trans (z1.mono C7.out.size)); clear z1)
        | (have g0 := C6; go_at_call 36; refine (K7.out _).mono ?_; rintro e x7 ⟨rfl, z1⟩; have C7 := Lib.hid (C6.out.trans (z1.mono C6.out.size)); clear z1)
        | (have g0 := C5; go_at_call 36; refine (K6.out _).mono ?_; rintro e x6 ⟨rfl, z1⟩; have C6 := Lib.hid (C5.out.trans (z1.mono C5.out.size)); clear z1)
        | (have g0 := C4; go_at_call 36; refine (K5.out _ C4.out).mono ?_; rintro e x5 ⟨rfl, z1⟩; have C5 := Lib.hid (C4.out.trans (z1.mono C4.out.size)); clear z1)
        | (have g0 := C3; go_at_call 36; refine (K4.out _ C3.out).mono ?_; rintro e x4 ⟨rfl, z1⟩; have C4 := Lib.hid (C3.out.trans (z1.mono C3.out.size)); clear z1)
        | (have g0 := C2; go_at_call 35; refine (K2.out _).mono ?_; rintro e x3 ⟨rfl, z1⟩; have C3 := Lib.hid (C2.out.trans (z1.mono C2.out.size)); clear z1)
        | (have g0 := C1; go_at_call 31; refine (K1.out _ C1.out).mono ?_; rintro e x2 ⟨rfl, z1⟩; have C2 := Lib.hid (C1.out.trans (z1.mono C1.out.size)); clear z1)
        | (go_at_call 36; refine (K3.out _ hB0.out).mono ?_; rintro e x1 ⟨rfl, z1⟩; have C1 := Lib.hid z1; clear z1))
      go_ret
      exact ⟨rfl, B9.out.trans (C8.out.mono B9.out.size)⟩
end Go.Proofs.Ytgijnjdcpipfiaa
/- Arguments of rows: bytes, slices of pairs. -/
namespace Go.Proofs.Ytgijnjdcpipfiaa
open Go.ChangeShapes Go.WideShapes Go.ChangeAt Go.RowKit
section
variable {H : Type} {enc : TypeId × Value → H} {w : World} {base : Nat} {held : Bool}
/-- a slice of bytes that came in, by its cell -/
theorem open_slc {v : Value} {fuel : Nat} {x : DataW H × List MemPlace} (h : DataW.trod enc Try.prog w base (fun _ => true) held fuel 27 [v] = some x) :
    ∃ a n c bs, v = .slice a n c ∧ Sl w a n c bs := by
  rcases open_ints Try.underlying27 Try.underlying5 (by kernel_rfl) h with ⟨e, _⟩ | ⟨a, l, c, zs, e, _, hl, hm, hlen, _, hcell, hw⟩
  · obtain rfl : v = .slice none 0 0 := by simpa using e
    exact ⟨none, 0, 0, [], rfl, sl_nil w⟩
  · obtain rfl : v = .slice (some a) l c := by simpa using e
    have hlen' : zs.length = c := by simpa using hlen
    refine ⟨some a, l, c, (zs.take l).map Int.toNat, rfl, by simp; omega, ⟨?_, ?_⟩, hl, hm, fun e => by cases e⟩
    · intro y hy
      obtain ⟨n, hn, rfl⟩ := List.mem_map.1 hy
      have := wf_u8 (hw n (List.mem_of_mem_take hn))
      omega
    · intro i hi
      have hi' : i < l := by simp at hi; omega
      have hz : i < zs.length := by omega
      have hc := hcell i hz
      have hn := wf_u8 (hw zs[i] (List.getElem_mem _))
      have e : zs.getD i 0 = ((((zs.take l).map Int.toNat).getD i 0 : Nat) : Int) := by
        simp [List.getD, List.getElem?_take, hi', hz]
        omega
      refine ⟨a, rfl, cell_lt hc, ?_⟩
      rw [hc, e]
set_option maxRecDepth 100000 in
theorem open_sl {v : Value} {d : DataW H} {ps : List MemPlace} (h : DataW.Trod enc Try.prog w base (fun _ => true) held 27 v d ps) (hv : Value.okWide Try.prog w .any base 27 v) :
    ∃ a n c bs, v = .slice a n c ∧ Sl w a n c bs := by
  obtain ⟨a0, n0, c0, rfl⟩ := okWide_slice Try.underlying27 hv
  obtain ⟨fuel, h⟩ := h
  exact open_slc (x := (d, ps)) (show DataW.trod enc Try.prog w base (fun _ => true) held fuel 27 [.slice a0 n0 c0] = some (d, ps) from h)
set_option maxRecDepth 100000 in
/-- a slice of pairs that came in -/
theorem open_prs {v : Value} {d : DataW H} {ps : List MemPlace} (h : DataW.Trod enc Try.prog w base (fun _ => true) held 53 v d ps) (hv : Value.okWide Try.prog w .any base 53 v) :
    ∃ a n c l, v = .slice a n c ∧ Prs w a n c l := by
  obtain ⟨a0, n0, c0, rfl⟩ := okWide_slice Try.underlying53 hv
  obtain ⟨fuel, h⟩ := h
  have h : DataW.trod enc Try.prog w base (fun _ => true) held fuel 53 [.slice a0 n0 c0] = some (d, ps) := h
  rcases Go.Deep.open_slice_pairs Try.underlying53 Try.underlying88 (by kernel_rfl) rfl rfl (by kernel_rfl) (by kernel_rfl) h with ⟨e, _⟩ | ⟨a, l, c, m, n, V0, V1, D0, D1, P0, P1, e, _, hl, hm, hmm, _, hx⟩
  · obtain ⟨rfl, rfl, rfl⟩ : a0 = none ∧ n0 = 0 ∧ c0 = 0 := by simpa using e
    exact ⟨none, 0, 0, [], rfl, prs_nil w⟩
  · obtain ⟨rfl, rfl, rfl⟩ : a0 = some a ∧ n0 = l ∧ c0 = c := by simpa using e
    have hlm : n0 ≤ m := by rw [hmm]; simp only [if_true]; exact hl
    have key : ∀ i, i < n0 → ∃ y : List Nat × Int, (0 ≤ y.2 ∧ y.2 < 18446744073709551616) ∧ PrC w a i y := fun i hi => by
      obtain ⟨h0, h1, t0, t1⟩ := hx i (by omega)
      obtain ⟨b, k, c, bs, e0, s0⟩ := open_slc t0
      obtain ⟨z, e1, _, wz⟩ := DataW.trod_int Try.underlying26 t1
      have e1 : V1 i = .int .u64 z := by simpa using e1
      have := wf_u64 wz
      have hadd : (a.add (i * 2 + 1)) = ⟨(a.add (i * 2)).block, (a.add (i * 2)).off + 1, none⟩ := by
        rw [← Go.Deep.add_add]
        simp [Addr.add]
      refine ⟨(bs, z), ⟨this.1, by show z < _; omega⟩, cell_lt h0, b, k, c, by rw [h0, e0], by rw [← hadd, h1, e1], s0⟩
    obtain ⟨f, hf⟩ := Go.Deep.choose_lt key
    have hget : ∀ i, i < n0 → ((List.range n0).map f).getD i ([], 0) = f i := fun i hi => by
      rw [List.getD_eq_getElem?_getD, List.getElem?_eq_getElem (by simpa using hi)]; simp
    refine ⟨some a, n0, c0, (List.range n0).map f, rfl, by simp, hl, hm, (fun e => by cases e), fun x hx => ?_, fun i hi => ⟨a, rfl, ?_⟩⟩
    · obtain ⟨i, hi, rfl⟩ := List.mem_map.1 hx
      exact (hf i (List.mem_range.1 hi)).1
    · have hi' : i < n0 := by simpa using hi
      rw [hget i hi']
      exact (hf i hi').2
end
end Go.Proofs.Ytgijnjdcpipfiaa
