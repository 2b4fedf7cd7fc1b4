/- canon.shape of any tree; What the laws of the chapters 17, 30, 32 ask of pairs: whether they are too many; their tree; What the texts on numbers of trees share; canon.Shape; canon.each at any tree, for callbacks that are told each node; canon.Fine; canon.Points; alive of law 13; Rows of canon's laws: the table that is laid, numbers that come in; Nodes made since a world, and the blocks that they lie in: what else was made since then stays as it was, while nodes are made and written to; Nodes told node by node: the tree that they make. No program; Nodes told node by node, in memory. No program; law13.raws: nodes that are told; law13.raws: the walk; law13.raws: the walk; A tree's shape tells the tree; so a tree is fine just if its shape is that of the canonical tree of its pairs. No program; How many nodes, how long a shape, how long a way. No program; law CanonFine: the walk; law CanonFine: the walk; Rows of canon's laws: told nodes that come in. -/
import Derived.Test.YtgijnjdcpipfiaaDoorJ3
import Derived.Test.YtgijnjdcpipfiaaDoorTie
import Derived.Test.YtgijnjdcpipfiaaDoorCards
import Derived.ProofKit
import Derived.OpenShut
import Derived.ShutString
import Derived.ChangeOld
import Derived.Below
import Derived.SizedLaws
import Derived.Lay
import Derived.LaidMore
import Derived.SevenTiedAt
import Derived.Stop.Joined
import Derived.Shelf.Vars
import Derived.Lib.LaidTab
import Derived.Test.YtgijnjdcpipfiaaDoorJ2
import Derived.Deep.RegionHeld3
import Derived.Deep.Cut
import Derived.Deep.SlicePairs
set_option linter.unusedVariables false
set_option linter.unusedSimpArgs false
/- canon.shape of any tree. -/
namespace Go.Proofs.YtgijnjdcpipfiaaDoor
open Go.RowKit
theorem sb_writeS {B b : Nat} {l : List UInt8} {w : World} (h : SB B b l w) {s : ByteArray} {ls : List UInt8} (hs : s = ⟨ls.toArray⟩) (hl : l.length + ls.length ≤ 100000000) (hB : B ≤ w.heap.size) : Calls Tryd.prog 46 #[.pointer (some ⟨b, 0, none⟩), .string s] w fun e w' => (∃ x, e = .returned (.tuple #[.int .i64 x, .nilIface])) ∧ SB B b (l ++ ls) w' ∧ Below B w w' := by
  subst hs
  exact sb_write h ls (by omega) hB
theorem cat_str (a b : List UInt8) : (⟨a.toArray⟩ : ByteArray) ++ ⟨b.toArray⟩ = ⟨(a ++ b).toArray⟩ := by
  apply ByteArray.ext
  simp
/-- a part, wherever it is laid -/
def partAny (bs : List Nat) (n : Nat) (w : World) (e : Ending) (w' : World) : Prop := ∃ a, e = .returned (.slice (some a) n n) ∧ Sl w' (some a) n n bs ∧ Below w.heap.size w w'
def ShpAsk (wb : World) (Q : List NP) (N : Nat) : Prop := ∀ (t : Tr) (w : World) (v : Option Addr) (b : Nat) (l : List UInt8), (tdep t ≤ N ∧ tway t ≤ 400000) → IsN t → TreeV Q t (.pointer v) → TOk t → l.length + (shp t).length ≤ 40000000 → Below wb.heap.size wb w → SB wb.heap.size b l w →
  Calls Tryd.prog 28 #[.pointer (some ⟨b, 0, none⟩), .pointer v] w fun e w' => e = .returned (.tuple #[]) ∧ SB wb.heap.size b (l ++ shp t) w' ∧ Below wb.heap.size wb w'
set_option maxHeartbeats 4000000 in
set_option maxRecDepth 100000 in
theorem shp_leaf {wb w : World} {n b : Nat} {bs : List Nat} {y m : Nat} {kk : KV} {l : List UInt8} (hbs : bs.length ≤ 400000) (hT : PTab wb) (hN : NodeW wb n bs (y : Nat) true true m kk) (h8 : ∀ x ∈ bs, x < 256) (hy : y < 18446744073709551616) (hl : l.length + (1 + (2 * bs.length + (decU y).length + 1)) ≤ 40000000) (hB : Below wb.heap.size wb w) (hS : SB wb.heap.size b l w) :
    Calls Tryd.prog 28 #[.pointer (some ⟨b, 0, none⟩), .pointer (some ⟨n, 0, none⟩)] w fun e w' => e = .returned (.tuple #[]) ∧ SB wb.heap.size b (l ++ [76] ++ u8s (hexL bs) ++ (61 :: decU y)) w' ∧ Below wb.heap.size wb w' := by
  obtain ⟨st, hst⟩ : ∃ s : ByteArray, s = ⟨(u8s (hexL bs)).toArray⟩ := ⟨_, rfl⟩
  obtain ⟨sv, hsv⟩ : ∃ s : ByteArray, s = ⟨(decU y).toArray⟩ := ⟨_, rfl⟩
  obtain ⟨s3, hs3⟩ : ∃ s : ByteArray, s = ⟨(61 :: decU y).toArray⟩ := ⟨_, rfl⟩
  have hcat : (⟨#[61]⟩ : ByteArray) ++ sv = s3 := by rw [hsv, hs3]; exact cat_str [61] (decU y)
  have hll : (u8s (hexL bs)).length = 2 * bs.length := by simp [u8s, hexL_len]
  have hdl := decU_len hy
  have hsz : ¬ 9223372036854775807 < 1 + sv.size := by rw [hsv, show (⟨(decU y).toArray⟩ : ByteArray).size = (decU y).length by simp [ByteArray.size]]; omega
  have hPart : Hid (∀ X, Below wb.heap.size wb X → Calls Tryd.prog 41 #[.pointer (some ⟨n, 0, none⟩)] X (partAny bs bs.length X)) := fun X hb => (hN.part X hb).mono fun e w' ⟨e1, e2, e3⟩ => ⟨_, e1, e2, e3⟩
  have hVal := Lib.hid hN.val
  have hKind : Hid (∀ X, Below wb.heap.size wb X → Calls Tryd.prog 25 #[.pointer (some ⟨n, 0, none⟩)] X fun e w' => e = .returned (.int .i64 1) ∧ X = w') := fun X hb => hN.kind X hb
  have hText : Hid (∀ X a, Sl X (some a) bs.length bs.length bs → Calls Tryd.prog 48 #[.slice (some a) bs.length bs.length] X (belowPost (.string st) X)) := fun X a h => by rw [hst]; exact keys_text h (by omega)
  have hUint : Hid (∀ X, Below wb.heap.size wb X → Calls Tryd.prog 49 #[.int .u64 (y : Nat), .int .i64 10] X (belowPost (.string sv) X)) := fun X hb => by rw [hsv]; exact format_uint y hy X (hT.below hb)
  have hW1 : Hid (Calls Tryd.prog 46 #[.pointer (some ⟨b, 0, none⟩), .string ⟨#[76]⟩] w fun e w' => (∃ x, e = .returned (.tuple #[.int .i64 x, .nilIface])) ∧ SB wb.heap.size b (l ++ [76]) w' ∧ Below wb.heap.size w w') := sb_writeS hS rfl (by simp; omega) hB.size
  have hW2 : Hid (∀ X, SB wb.heap.size b (l ++ [76]) X → wb.heap.size ≤ X.heap.size → Calls Tryd.prog 46 #[.pointer (some ⟨b, 0, none⟩), .string st] X fun e w' => (∃ x, e = .returned (.tuple #[.int .i64 x, .nilIface])) ∧ SB wb.heap.size b (l ++ [76] ++ u8s (hexL bs)) w' ∧ Below wb.heap.size X w') := fun X h1 h2 => sb_writeS h1 hst (by simp [hll]; omega) h2
  have hW3 : Hid (∀ X, SB wb.heap.size b (l ++ [76] ++ u8s (hexL bs)) X → wb.heap.size ≤ X.heap.size → Calls Tryd.prog 46 #[.pointer (some ⟨b, 0, none⟩), .string s3] X fun e w' => (∃ x, e = .returned (.tuple #[.int .i64 x, .nilIface])) ∧ SB wb.heap.size b (l ++ [76] ++ u8s (hexL bs) ++ (61 :: decU y)) w' ∧ Below wb.heap.size X w') := fun X h1 h2 => sb_writeS h1 hs3 (by simp [hll]; omega) h2
  have HB := Lib.hid hB
  generalize l ++ [76] ++ u8s (hexL bs) ++ (61 :: decU y) = l3 at *
  generalize l ++ [76] ++ u8s (hexL bs) = l2 at *
  generalize l ++ [76] = l1 at *
  generalize bs.length = k at *
  clear hst hsv hs3 hll hdl hN h8 hy hl hB hS hT
  go_enter Tryd.func28, Tryd.ntmps28
  go_wp2_with (first
    | (have g0 := B5; go_at_call 46; refine (hW3.out _ S5.out B5.out.size).mono ?_; rintro e w6 ⟨⟨x6, rfl⟩, q1, q2⟩
       have S6 := Lib.hid q1
       have B6 := Lib.hid (B5.out.trans q2)
       clear q1 q2)
    | (have g0 := B4; go_at_call 49; refine (hUint.out _ B4.out).mono ?_; rintro e w5 ⟨rfl, q⟩
       have S5 := Lib.hid (S4.out.below q)
       have B5 := Lib.hid (B4.out.trans (q.mono B4.out.size))
       clear q)
    | (have g0 := B3; go_at_call 46; refine (hW2.out _ S3.out B3.out.size).mono ?_; rintro e w4 ⟨⟨x4, rfl⟩, q1, q2⟩
       have S4 := Lib.hid q1
       have B4 := Lib.hid (B3.out.trans q2)
       clear q1 q2)
    | (have g0 := B2; go_at_call 48; refine (hText.out _ _ P2.out).mono ?_; rintro e w3 ⟨rfl, q⟩
       have S3 := Lib.hid (S2.out.below q)
       have B3 := Lib.hid (B2.out.trans (q.mono B2.out.size))
       clear q)
    | (have g0 := B1; go_at_call 41; refine (hPart.out _ B1.out).mono ?_; rintro e w2 ⟨a2, rfl, q0, q⟩
       have P2 := Lib.hid q0
       have S2 := Lib.hid (S1.out.below q)
       have B2 := Lib.hid (B1.out.trans (q.mono B1.out.size))
       clear q q0)
    | (go_at_call 46; refine hW1.out.mono ?_; rintro e w1 ⟨⟨x1, rfl⟩, q1, q2⟩
       have S1 := Lib.hid q1
       have B1 := Lib.hid (HB.out.trans q2)
       clear q1 q2)
    | (go_at_call 25; refine (hKind.out _ (by first | exact B6.out | exact HB.out)).mono ?_; rintro e w0 ⟨rfl, rfl⟩)
    | (go_at_call 22; refine (hVal.out _ HB.out).mono ?_; rintro e w0 ⟨rfl, rfl⟩))
  (try simp only [Exit.inBlock, Exit.then])
  refine bodyPost_ret (results_none rfl _ _ _) rfl ?_
  exact ⟨rfl, S6.out, B6.out⟩
set_option maxHeartbeats 4000000 in
set_option maxRecDepth 100000 in
theorem shp_in_true {wb w : World} {Q : List NP} {N n b y m : Nat} {bs : List Nat} {kk : KV} {ks : Tr} {l : List UInt8} (IH : ShpAsk wb Q N) (hT : PTab wb) (hN : NodeW wb n bs (y : Nat) true false m kk) (hm : m ≤ 256) (hks : Kids Q kk ks ks [] kk) (hx0 : knxt kk 0 = kk.head?) (h8 : ∀ x ∈ bs, x < 256) (hy : y < 18446744073709551616) (hd : tdep ks ≤ N ∧ tway ks ≤ 400000) (hbs : bs.length ≤ 400000)
    (hl : l.length + ((decU (kindOf m) ++ [60]).length + (2 * bs.length + ((if true then 61 :: decU y else []).length + ((shp ks).length + 1)))) ≤ 40000000) (hB : Below wb.heap.size wb w) (hS : SB wb.heap.size b l w) :
    Calls Tryd.prog 28 #[.pointer (some ⟨b, 0, none⟩), .pointer (some ⟨n, 0, none⟩)] w fun e w' => e = .returned (.tuple #[]) ∧ SB wb.heap.size b (l ++ (decU (kindOf m) ++ [60]) ++ u8s (hexL bs) ++ (if true then 61 :: decU y else []) ++ shp ks ++ [62]) w' ∧ Below wb.heap.size wb w' := by
  simp only [Bool.false_eq_true, if_false, if_true, List.length_cons, List.length_nil] at hl
  obtain ⟨kd, hkd⟩ : ∃ kd, kd = kindOf m := ⟨_, rfl⟩
  rw [← hkd] at hl ⊢
  have hk1 : ((kd : Int) == 1) = false := by rw [beq_eq_false_iff_ne, hkd]; have := kindOf_cases m; omega
  have hkd64 : kd ≤ 256 := by rw [hkd]; have := kindOf_cases m; omega
  obtain ⟨sk, hsk⟩ : ∃ s : ByteArray, s = ⟨(decU kd).toArray⟩ := ⟨_, rfl⟩
  obtain ⟨s1, hs1⟩ : ∃ s : ByteArray, s = ⟨(decU kd ++ [60]).toArray⟩ := ⟨_, rfl⟩
  obtain ⟨st, hst⟩ : ∃ s : ByteArray, s = ⟨(u8s (hexL bs)).toArray⟩ := ⟨_, rfl⟩
  obtain ⟨sv, hsv⟩ : ∃ s : ByteArray, s = ⟨(decU y).toArray⟩ := ⟨_, rfl⟩
  obtain ⟨s3, hs3⟩ : ∃ s : ByteArray, s = ⟨(61 :: decU y).toArray⟩ := ⟨_, rfl⟩
  have hcat1 : sk ++ (⟨#[60]⟩ : ByteArray) = s1 := by rw [hsk, hs1]; exact cat_str (decU kd) [60]
  have hcat : (⟨#[61]⟩ : ByteArray) ++ sv = s3 := by rw [hsv, hs3]; exact cat_str [61] (decU y)
  have hll : (u8s (hexL bs)).length = 2 * bs.length := by simp [u8s, hexL_len]
  have hdl := decU_len hy
  have hdk := decU_len (n := kd) (by omega)
  have hsz : ¬ 9223372036854775807 < 1 + sv.size := by rw [hsv, show (⟨(decU y).toArray⟩ : ByteArray).size = (decU y).length by simp [ByteArray.size]]; omega
  have hsz1 : ¬ 9223372036854775807 < sk.size + 1 := by rw [hsk, show (⟨(decU kd).toArray⟩ : ByteArray).size = (decU kd).length by simp [ByteArray.size]]; omega
  have hPart : Hid (∀ X, Below wb.heap.size wb X → Calls Tryd.prog 41 #[.pointer (some ⟨n, 0, none⟩)] X (partAny bs bs.length X)) := fun X hb => (hN.part X hb).mono fun e w' ⟨e1, e2, e3⟩ => ⟨_, e1, e2, e3⟩
  have hVal := Lib.hid hN.val
  have hKind : Hid (∀ X, Below wb.heap.size wb X → Calls Tryd.prog 25 #[.pointer (some ⟨n, 0, none⟩)] X fun e w' => e = .returned (.int .i64 (kd : Nat)) ∧ X = w') := fun X hb => by rw [hkd]; exact hN.kind X hb
  have hNx := Lib.hid hN.next
  have hN0 : Hid (∀ X, Below wb.heap.size wb X → Calls Tryd.prog 35 #[.pointer (some ⟨n, 0, none⟩), .int .i64 0] X fun e w' => e = .returned (.tuple #[.int .u8 (hdB kk : Nat), hdK kk]) ∧ Below X.heap.size X w') := fun X hb => by
    have := hNx.out X 0 hb (by omega) (by omega)
    rw [hx0, stepV_head] at this
    exact this
  have hText : Hid (∀ X a, Sl X (some a) bs.length bs.length bs → Calls Tryd.prog 48 #[.slice (some a) bs.length bs.length] X (belowPost (.string st) X)) := fun X a h => by rw [hst]; exact keys_text h (by omega)
  have hUint : Hid (∀ X, Below wb.heap.size wb X → Calls Tryd.prog 49 #[.int .u64 (y : Nat), .int .i64 10] X (belowPost (.string sv) X)) := fun X hb => by rw [hsv]; exact format_uint y hy X (hT.below hb)
  have hItoa : Hid (∀ X, Below wb.heap.size wb X → Calls Tryd.prog 47 #[.int .i64 (kd : Nat)] X (belowPost (.string sk) X)) := fun X hb => by rw [hsk]; exact itoa_nat kd (by omega) X (hT.below hb)
  have hW1 : Hid (∀ X, SB wb.heap.size b l X → wb.heap.size ≤ X.heap.size → Calls Tryd.prog 46 #[.pointer (some ⟨b, 0, none⟩), .string s1] X fun e w' => (∃ x, e = .returned (.tuple #[.int .i64 x, .nilIface])) ∧ SB wb.heap.size b (l ++ (decU kd ++ [60])) w' ∧ Below wb.heap.size X w') := fun X h1 h2 => sb_writeS h1 hs1 (by omega) h2
  have hW2 : Hid (∀ X, SB wb.heap.size b (l ++ (decU kd ++ [60])) X → wb.heap.size ≤ X.heap.size → Calls Tryd.prog 46 #[.pointer (some ⟨b, 0, none⟩), .string st] X fun e w' => (∃ x, e = .returned (.tuple #[.int .i64 x, .nilIface])) ∧ SB wb.heap.size b (l ++ (decU kd ++ [60]) ++ u8s (hexL bs)) w' ∧ Below wb.heap.size X w') := fun X h1 h2 => sb_writeS h1 hst (by rw [List.length_append, hll]; omega) h2
  have hW3 : Hid (∀ X, SB wb.heap.size b (l ++ (decU kd ++ [60]) ++ u8s (hexL bs)) X → wb.heap.size ≤ X.heap.size → Calls Tryd.prog 46 #[.pointer (some ⟨b, 0, none⟩), .string s3] X fun e w' => (∃ x, e = .returned (.tuple #[.int .i64 x, .nilIface])) ∧ SB wb.heap.size b (l ++ (decU kd ++ [60]) ++ u8s (hexL bs) ++ (61 :: decU y)) w' ∧ Below wb.heap.size X w') := fun X h1 h2 => sb_writeS h1 hs3 (by rw [List.length_append, List.length_append, hll, List.length_cons]; omega) h2
  obtain ⟨l3, hl3⟩ : ∃ l3, l3 = l ++ (decU kd ++ [60]) ++ u8s (hexL bs) ++ (if true then 61 :: decU y else []) := ⟨_, rfl⟩
  have hlen3 : Hid (l3.length + ((shp ks).length + 1) ≤ 40000000) := by
    show _ ≤ _
    rw [hl3, List.length_append, List.length_append, List.length_append, hll]
    simp only [Bool.false_eq_true, if_false, if_true, List.length_cons, List.length_nil]
    omega
  have HB := Lib.hid hB
  have HS := Lib.hid hS
  have HIH := Lib.hid IH
  have Hd := Lib.hid hd
  have HKs := Lib.hid hks
  rw [← hl3]
  simp only [if_true] at hl3
  rw [← hl3] at hW3
  generalize hS0 : shp ks = s0 at *
  have hst0 : Hid (([] : List UInt8) ++ shp ks = s0) := by show _ = _; rw [List.nil_append, hS0]
  generalize l ++ (decU kd ++ [60]) = l1 at *
  try generalize l1 ++ u8s (hexL bs) = l2 at *
  generalize bs.length = k at *
  clear hst hsv hs3 hsk hs1 hll hdl hdk hN h8 hy hl hB hS hkd hks hx0 hd IH hl3 hS0
  go_enter Tryd.func28, Tryd.ntmps28
  go_wp2_with (first
    | (have g0 := B6; go_at_call 35; refine (hN0.out _ B6.out).mono ?_; rintro e w7 ⟨rfl, q⟩
       have S7 := Lib.hid (S6.out.below q)
       have B7 := Lib.hid (B6.out.trans (q.mono B6.out.size))
       clear q)
    | (have g0 := B5; go_at_call 46; refine (hW3.out _ S5.out B5.out.size).mono ?_; rintro e w6 ⟨⟨x6, rfl⟩, q1, q2⟩
       have S6 := Lib.hid q1
       have B6 := Lib.hid (B5.out.trans q2)
       clear q1 q2)
    | (have g0 := B4; go_at_call 49; refine (hUint.out _ B4.out).mono ?_; rintro e w5 ⟨rfl, q⟩
       have S5 := Lib.hid (S4.out.below q)
       have B5 := Lib.hid (B4.out.trans (q.mono B4.out.size))
       clear q)
    | (have g0 := B3; go_at_call 46; refine (hW2.out _ S3.out B3.out.size).mono ?_; rintro e w4 ⟨⟨x4, rfl⟩, q1, q2⟩
       have S4 := Lib.hid q1
       have B4 := Lib.hid (B3.out.trans q2)
       clear q1 q2)
    | (have g0 := B2; go_at_call 48; refine (hText.out _ _ P2.out).mono ?_; rintro e w3 ⟨rfl, q⟩
       have S3 := Lib.hid (S2.out.below q)
       have B3 := Lib.hid (B2.out.trans (q.mono B2.out.size))
       clear q)
    | (have g0 := B1; go_at_call 41; refine (hPart.out _ B1.out).mono ?_; rintro e w2 ⟨a2, rfl, q0, q⟩
       have P2 := Lib.hid q0
       have S2 := Lib.hid (S1.out.below q)
       have B2 := Lib.hid (B1.out.trans (q.mono B1.out.size))
       clear q q0)
    | (have g0 := B0; go_at_call 46; refine (hW1.out _ S0.out B0.out.size).mono ?_; rintro e w1 ⟨⟨x1, rfl⟩, q1, q2⟩
       have S1 := Lib.hid q1
       have B1 := Lib.hid (B0.out.trans q2)
       clear q1 q2)
    | (go_at_call 47; refine (hItoa.out _ HB.out).mono ?_; rintro e w0 ⟨rfl, q⟩
       have S0 := Lib.hid (HS.out.below q)
       have B0 := Lib.hid (HB.out.trans (q.mono HB.out.size))
       clear q)
    | (go_at_call 25; refine (hKind.out _ (by first | exact B6.out | exact B4.out | exact HB.out)).mono ?_; rintro e wk ⟨rfl, rfl⟩)
    | (go_at_call 22; refine (hVal.out _ HB.out).mono ?_; rintro e wk ⟨rfl, rfl⟩))
  go_loopw [6, 7] (fun v6 v7 wr => ∃ (r : Tr) (A lr : KV) (dn : List UInt8), v6 = .int .u8 (hdB lr : Nat) ∧ v7 = hdK lr ∧ Hid (dn ++ shp r = s0) ∧ Hid (tdep r ≤ N ∧ tway r ≤ 400000) ∧ Hid (Kids Q kk ks r A lr) ∧ Hid (SB wb.heap.size b (l3 ++ dn) wr) ∧ Hid (Below wb.heap.size wb wr)) (fun v6 v7 _ => match v7 with | .pointer none => 0 | _ => 256 - (intOf v6).toNat)
  case atStart => exact ⟨ks, [], kk, [], rfl, rfl, hst0, Hd, HKs, by rw [List.append_nil]; exact S7, B7⟩
  case round =>
    clear hst0 Hd HKs S7 B7 hN0
    obtain ⟨r, A, lr, dn, rfl, rfl, hE, hdr, hKd, hSr, hBr⟩ := hrel
    by_cases hl : lr = []
    · subst hl
      obtain rfl := hKd.out.done
      have hW9 : Hid (Calls Tryd.prog 46 #[.pointer (some ⟨b, 0, none⟩), .string ⟨#[62]⟩] wr fun e w' => (∃ x, e = .returned (.tuple #[.int .i64 x, .nilIface])) ∧ SB wb.heap.size b (l3 ++ s0 ++ [62]) w' ∧ Below wb.heap.size wr w') := by
        have e := hE.out
        rw [show shp .nil = [] from rfl, List.append_nil] at e
        have h := hSr.out
        rw [e] at h
        exact sb_writeS h rfl (by have := hlen3.out; rw [List.length_append]; simp; omega) hBr.out.size
      rw [show hdK ([] : KV) = .pointer none from rfl]
      go_wp2_with (go_at_call 46; refine hW9.out.mono ?_; rintro e w9 ⟨⟨x9, rfl⟩, q1, q2⟩; have S9 := Lib.hid q1; have B9 := Lib.hid (hBr.out.trans q2); clear q1 q2)
      go_end0
      exact ⟨rfl, S9.out, B9.out⟩
    · obtain ⟨b', t, r', x, lr', rfl, rfl, hb1, hx1, hb256, ⟨k', rfl⟩, hTV, hIN, hOk, hnext, hkn⟩ := hKd.out.next hl
      rw [hb1, hx1]
      have hE2 : Hid (dn ++ (58 :: u8s (hexL [b'])) ++ shp t ++ shp r' = s0) := by show _ = _; rw [← hE.out]; simp [shp]
      have hlen := congrArg List.length hE2.out
      simp only [List.length_append] at hlen
      obtain ⟨st', hst'⟩ : ∃ s : ByteArray, s = ⟨(u8s (hexL [b'])).toArray⟩ := ⟨_, rfl⟩
      obtain ⟨s5, hs5⟩ : ∃ s : ByteArray, s = ⟨(58 :: u8s (hexL [b'])).toArray⟩ := ⟨_, rfl⟩
      have hcat5 : (⟨#[58]⟩ : ByteArray) ++ st' = s5 := by rw [hst', hs5]; exact cat_str [58] (u8s (hexL [b']))
      have hsz5 : ¬ 9223372036854775807 < 1 + st'.size := by rw [hst', show (⟨(u8s (hexL [b'])).toArray⟩ : ByteArray).size = (u8s (hexL [b'])).length by simp [ByteArray.size]]; simp [u8s, hexL_len]
      have hA : Hid (Below wr.heap.size wr (wr.alloc (.cells #[.int .u8 (b' : Nat)] 5))) := (Below.refl _ wr).alloc (Nat.le_refl _) _
      have hTx : Hid (Calls Tryd.prog 48 #[.slice (some ⟨wr.heap.size, 0, none⟩) 1 1] (wr.alloc (.cells #[.int .u8 (b' : Nat)] 5)) fun e w' => e = .returned (.string st') ∧ Below wr.heap.size wr w') := by
        refine (keys_text (sl_one wr b' 5 hb256) (by omega)).mono fun e w' ⟨q1, q2⟩ => ⟨by rw [hst']; exact q1, hA.out.trans (q2.mono hA.out.size)⟩
      have hW5 : Hid (∀ X, SB wb.heap.size b (l3 ++ dn) X → wb.heap.size ≤ X.heap.size → Calls Tryd.prog 46 #[.pointer (some ⟨b, 0, none⟩), .string s5] X fun e w' => (∃ x, e = .returned (.tuple #[.int .i64 x, .nilIface])) ∧ SB wb.heap.size b (l3 ++ dn ++ (58 :: u8s (hexL [b']))) w' ∧ Below wb.heap.size X w') := fun X h1 h2 => sb_writeS h1 hs5 (by have := hlen3.out; rw [List.length_append]; omega) h2
      have hSh : Hid (∀ X, Below wb.heap.size wb X → SB wb.heap.size b (l3 ++ dn ++ (58 :: u8s (hexL [b']))) X → Calls Tryd.prog 28 #[.pointer (some ⟨b, 0, none⟩), .pointer (some ⟨k', 0, none⟩)] X fun e w' => e = .returned (.tuple #[]) ∧ SB wb.heap.size b (l3 ++ dn ++ (58 :: u8s (hexL [b'])) ++ shp t) w' ∧ Below wb.heap.size wb w') := fun X h1 h2 =>
        HIH.out t X _ b _ (by have h2 := hdr.out; simp only [tdep, tway] at h2; omega) hIN hTV hOk (by have := hlen3.out; rw [List.length_append, List.length_append]; omega) h1 h2
      have hd2 : Hid (tdep r' ≤ N ∧ tway r' ≤ 400000) := by show _ ∧ _; have h2 := hdr.out; simp only [tdep, tway] at h2; omega
      have hN2 : Hid (∀ X, Below wb.heap.size wb X → Calls Tryd.prog 35 #[.pointer (some ⟨n, 0, none⟩), .int .i64 ((b' + 1 : Nat) : Int)] X fun e w' => e = .returned (.tuple #[.int .u8 (hdB lr' : Nat), hdK lr']) ∧ Below X.heap.size X w') := fun X hb' => by
        have := hNx.out X ((b' + 1 : Nat) : Int) hb' (by omega) (by omega)
        rw [show (((b' + 1 : Nat) : Int)) = (b' : Int) + 1 by omega, hkn, stepV_head] at this
        exact this
      have hK2 := Lib.hid hnext
      have hwb : IntKind.i64.wrap ((b' : Int) + 1) = ((b' + 1 : Nat) : Int) := by rw [show (b' : Int) + 1 = ((b' + 1 : Nat) : Int) by omega]; exact IntWalk.i64_in _ (by omega)
      have hwc : IntKind.i64.wrap (b' : Int) = (b' : Int) := IntWalk.i64_in _ (by omega)
      have hms := Lib.hid (kids_rest hnext)
      have hSA := Lib.hid hSr.out
      have he9 : Hid (l3 ++ dn ++ (58 :: u8s (hexL [b'])) ++ shp t = l3 ++ (dn ++ (58 :: u8s (hexL [b'])) ++ shp t)) := by show _ = _; simp
      generalize l3 ++ dn ++ (58 :: u8s (hexL [b'])) ++ shp t = l9 at *
      generalize l3 ++ dn ++ (58 :: u8s (hexL [b'])) = l8 at *
      generalize l3 ++ dn = l7 at *
      clear hTV hIN hOk hnext hkn hKd hl hb1 hx1 hdr hst' hs5 hlen hE
      go_wp2_with (first
        | (have g0 := B8; go_at_call 35; refine (hN2.out _ B8.out).mono ?_; rintro e w9 ⟨rfl, z⟩
           have S9 := Lib.hid (S8.out.below z)
           have B9 := Lib.hid (B8.out.trans (z.mono B8.out.size))
           clear z)
        | (have g0 := B7; go_at_call 28; refine (hSh.out _ B7.out S7.out).mono ?_; rintro e w8 ⟨rfl, z1, z2⟩
           have S8 := Lib.hid z1
           have B8 := Lib.hid z2
           clear z1 z2)
        | (have g0 := B6; go_at_call 46; refine (hW5.out _ S6.out B6.out.size).mono ?_; rintro e w7 ⟨⟨x7, rfl⟩, q1, q2⟩
           have S7 := Lib.hid q1
           have B7 := Lib.hid (B6.out.trans q2)
           clear q1 q2)
        | (go_at_call 48; refine hTx.out.mono ?_; rintro e w6 ⟨rfl, q⟩
           have S6 := Lib.hid (hSA.out.below q)
           have B6 := Lib.hid (hBr.out.trans (q.mono hBr.out.size))
           clear q))
      rw [he9.out] at S9
      go_roundw
      case rel => exact ⟨r', A ++ [(b', .pointer (some ⟨k', 0, none⟩))], lr', _, rfl, rfl, hE2, hd2, hK2, S9, B9⟩
      case measure =>
        cases lr' with
        | nil => simp [hdK, hdB, intOf]; omega
        | cons y l => have := hms.out y (by simp); simp [hdK, hdB, intOf]; split <;> omega

set_option maxHeartbeats 4000000 in
set_option maxRecDepth 100000 in
theorem shp_in_false {wb w : World} {Q : List NP} {N n b y m : Nat} {bs : List Nat} {kk : KV} {ks : Tr} {l : List UInt8} (IH : ShpAsk wb Q N) (hT : PTab wb) (hN : NodeW wb n bs (y : Nat) false false m kk) (hm : m ≤ 256) (hks : Kids Q kk ks ks [] kk) (hx0 : knxt kk 0 = kk.head?) (h8 : ∀ x ∈ bs, x < 256) (hy : y < 18446744073709551616) (hd : tdep ks ≤ N ∧ tway ks ≤ 400000) (hbs : bs.length ≤ 400000)
    (hl : l.length + ((decU (kindOf m) ++ [60]).length + (2 * bs.length + ((if false then 61 :: decU y else []).length + ((shp ks).length + 1)))) ≤ 40000000) (hB : Below wb.heap.size wb w) (hS : SB wb.heap.size b l w) :
    Calls Tryd.prog 28 #[.pointer (some ⟨b, 0, none⟩), .pointer (some ⟨n, 0, none⟩)] w fun e w' => e = .returned (.tuple #[]) ∧ SB wb.heap.size b (l ++ (decU (kindOf m) ++ [60]) ++ u8s (hexL bs) ++ (if false then 61 :: decU y else []) ++ shp ks ++ [62]) w' ∧ Below wb.heap.size wb w' := by
  simp only [Bool.false_eq_true, if_false, if_true, List.length_cons, List.length_nil] at hl
  obtain ⟨kd, hkd⟩ : ∃ kd, kd = kindOf m := ⟨_, rfl⟩
  rw [← hkd] at hl ⊢
  have hk1 : ((kd : Int) == 1) = false := by rw [beq_eq_false_iff_ne, hkd]; have := kindOf_cases m; omega
  have hkd64 : kd ≤ 256 := by rw [hkd]; have := kindOf_cases m; omega
  obtain ⟨sk, hsk⟩ : ∃ s : ByteArray, s = ⟨(decU kd).toArray⟩ := ⟨_, rfl⟩
  obtain ⟨s1, hs1⟩ : ∃ s : ByteArray, s = ⟨(decU kd ++ [60]).toArray⟩ := ⟨_, rfl⟩
  obtain ⟨st, hst⟩ : ∃ s : ByteArray, s = ⟨(u8s (hexL bs)).toArray⟩ := ⟨_, rfl⟩
  obtain ⟨sv, hsv⟩ : ∃ s : ByteArray, s = ⟨(decU y).toArray⟩ := ⟨_, rfl⟩
  obtain ⟨s3, hs3⟩ : ∃ s : ByteArray, s = ⟨(61 :: decU y).toArray⟩ := ⟨_, rfl⟩
  have hcat1 : sk ++ (⟨#[60]⟩ : ByteArray) = s1 := by rw [hsk, hs1]; exact cat_str (decU kd) [60]
  have hcat : (⟨#[61]⟩ : ByteArray) ++ sv = s3 := by rw [hsv, hs3]; exact cat_str [61] (decU y)
  have hll : (u8s (hexL bs)).length = 2 * bs.length := by simp [u8s, hexL_len]
  have hdl := decU_len hy
  have hdk := decU_len (n := kd) (by omega)
  have hsz : ¬ 9223372036854775807 < 1 + sv.size := by rw [hsv, show (⟨(decU y).toArray⟩ : ByteArray).size = (decU y).length by simp [ByteArray.size]]; omega
  have hsz1 : ¬ 9223372036854775807 < sk.size + 1 := by rw [hsk, show (⟨(decU kd).toArray⟩ : ByteArray).size = (decU kd).length by simp [ByteArray.size]]; omega
  have hPart : Hid (∀ X, Below wb.heap.size wb X → Calls Tryd.prog 41 #[.pointer (some ⟨n, 0, none⟩)] X (partAny bs bs.length X)) := fun X hb => (hN.part X hb).mono fun e w' ⟨e1, e2, e3⟩ => ⟨_, e1, e2, e3⟩
  have hVal := Lib.hid hN.val
  have hKind : Hid (∀ X, Below wb.heap.size wb X → Calls Tryd.prog 25 #[.pointer (some ⟨n, 0, none⟩)] X fun e w' => e = .returned (.int .i64 (kd : Nat)) ∧ X = w') := fun X hb => by rw [hkd]; exact hN.kind X hb
  have hNx := Lib.hid hN.next
  have hN0 : Hid (∀ X, Below wb.heap.size wb X → Calls Tryd.prog 35 #[.pointer (some ⟨n, 0, none⟩), .int .i64 0] X fun e w' => e = .returned (.tuple #[.int .u8 (hdB kk : Nat), hdK kk]) ∧ Below X.heap.size X w') := fun X hb => by
    have := hNx.out X 0 hb (by omega) (by omega)
    rw [hx0, stepV_head] at this
    exact this
  have hText : Hid (∀ X a, Sl X (some a) bs.length bs.length bs → Calls Tryd.prog 48 #[.slice (some a) bs.length bs.length] X (belowPost (.string st) X)) := fun X a h => by rw [hst]; exact keys_text h (by omega)
  have hUint : Hid (∀ X, Below wb.heap.size wb X → Calls Tryd.prog 49 #[.int .u64 (y : Nat), .int .i64 10] X (belowPost (.string sv) X)) := fun X hb => by rw [hsv]; exact format_uint y hy X (hT.below hb)
  have hItoa : Hid (∀ X, Below wb.heap.size wb X → Calls Tryd.prog 47 #[.int .i64 (kd : Nat)] X (belowPost (.string sk) X)) := fun X hb => by rw [hsk]; exact itoa_nat kd (by omega) X (hT.below hb)
  have hW1 : Hid (∀ X, SB wb.heap.size b l X → wb.heap.size ≤ X.heap.size → Calls Tryd.prog 46 #[.pointer (some ⟨b, 0, none⟩), .string s1] X fun e w' => (∃ x, e = .returned (.tuple #[.int .i64 x, .nilIface])) ∧ SB wb.heap.size b (l ++ (decU kd ++ [60])) w' ∧ Below wb.heap.size X w') := fun X h1 h2 => sb_writeS h1 hs1 (by omega) h2
  have hW2 : Hid (∀ X, SB wb.heap.size b (l ++ (decU kd ++ [60])) X → wb.heap.size ≤ X.heap.size → Calls Tryd.prog 46 #[.pointer (some ⟨b, 0, none⟩), .string st] X fun e w' => (∃ x, e = .returned (.tuple #[.int .i64 x, .nilIface])) ∧ SB wb.heap.size b (l ++ (decU kd ++ [60]) ++ u8s (hexL bs)) w' ∧ Below wb.heap.size X w') := fun X h1 h2 => sb_writeS h1 hst (by rw [List.length_append, hll]; omega) h2
  have hW3 : Hid (∀ X, SB wb.heap.size b (l ++ (decU kd ++ [60]) ++ u8s (hexL bs)) X → wb.heap.size ≤ X.heap.size → Calls Tryd.prog 46 #[.pointer (some ⟨b, 0, none⟩), .string s3] X fun e w' => (∃ x, e = .returned (.tuple #[.int .i64 x, .nilIface])) ∧ SB wb.heap.size b (l ++ (decU kd ++ [60]) ++ u8s (hexL bs) ++ (61 :: decU y)) w' ∧ Below wb.heap.size X w') := fun X h1 h2 => sb_writeS h1 hs3 (by rw [List.length_append, List.length_append, hll, List.length_cons]; omega) h2
  obtain ⟨l3, hl3⟩ : ∃ l3, l3 = l ++ (decU kd ++ [60]) ++ u8s (hexL bs) ++ (if false then 61 :: decU y else []) := ⟨_, rfl⟩
  have hlen3 : Hid (l3.length + ((shp ks).length + 1) ≤ 40000000) := by
    show _ ≤ _
    rw [hl3, List.length_append, List.length_append, List.length_append, hll]
    simp only [Bool.false_eq_true, if_false, if_true, List.length_cons, List.length_nil]
    omega
  have HB := Lib.hid hB
  have HS := Lib.hid hS
  have HIH := Lib.hid IH
  have Hd := Lib.hid hd
  have HKs := Lib.hid hks
  rw [← hl3]
  simp only [Bool.false_eq_true, if_false, List.append_nil] at hl3
  rw [← hl3] at hW2
  clear hW3 hUint hcat hsz
  generalize hS0 : shp ks = s0 at *
  have hst0 : Hid (([] : List UInt8) ++ shp ks = s0) := by show _ = _; rw [List.nil_append, hS0]
  generalize l ++ (decU kd ++ [60]) = l1 at *
  try generalize l1 ++ u8s (hexL bs) = l2 at *
  generalize bs.length = k at *
  clear hst hsv hs3 hsk hs1 hll hdl hdk hN h8 hy hl hB hS hkd hks hx0 hd IH hl3 hS0
  go_enter Tryd.func28, Tryd.ntmps28
  go_wp2_with (first
    | (have g0 := B4; go_at_call 35; refine (hN0.out _ B4.out).mono ?_; rintro e w7 ⟨rfl, q⟩
       have S7 := Lib.hid (S4.out.below q)
       have B7 := Lib.hid (B4.out.trans (q.mono B4.out.size))
       clear q)
    | (have g0 := B3; go_at_call 46; refine (hW2.out _ S3.out B3.out.size).mono ?_; rintro e w4 ⟨⟨x4, rfl⟩, q1, q2⟩
       have S4 := Lib.hid q1
       have B4 := Lib.hid (B3.out.trans q2)
       clear q1 q2)
    | (have g0 := B2; go_at_call 48; refine (hText.out _ _ P2.out).mono ?_; rintro e w3 ⟨rfl, q⟩
       have S3 := Lib.hid (S2.out.below q)
       have B3 := Lib.hid (B2.out.trans (q.mono B2.out.size))
       clear q)
    | (have g0 := B1; go_at_call 41; refine (hPart.out _ B1.out).mono ?_; rintro e w2 ⟨a2, rfl, q0, q⟩
       have P2 := Lib.hid q0
       have S2 := Lib.hid (S1.out.below q)
       have B2 := Lib.hid (B1.out.trans (q.mono B1.out.size))
       clear q q0)
    | (have g0 := B0; go_at_call 46; refine (hW1.out _ S0.out B0.out.size).mono ?_; rintro e w1 ⟨⟨x1, rfl⟩, q1, q2⟩
       have S1 := Lib.hid q1
       have B1 := Lib.hid (B0.out.trans q2)
       clear q1 q2)
    | (go_at_call 47; refine (hItoa.out _ HB.out).mono ?_; rintro e w0 ⟨rfl, q⟩
       have S0 := Lib.hid (HS.out.below q)
       have B0 := Lib.hid (HB.out.trans (q.mono HB.out.size))
       clear q)
    | (go_at_call 25; refine (hKind.out _ (by first | exact B6.out | exact B4.out | exact HB.out)).mono ?_; rintro e wk ⟨rfl, rfl⟩)
    | (go_at_call 22; refine (hVal.out _ HB.out).mono ?_; rintro e wk ⟨rfl, rfl⟩))
  go_loopw [6, 7] (fun v6 v7 wr => ∃ (r : Tr) (A lr : KV) (dn : List UInt8), v6 = .int .u8 (hdB lr : Nat) ∧ v7 = hdK lr ∧ Hid (dn ++ shp r = s0) ∧ Hid (tdep r ≤ N ∧ tway r ≤ 400000) ∧ Hid (Kids Q kk ks r A lr) ∧ Hid (SB wb.heap.size b (l3 ++ dn) wr) ∧ Hid (Below wb.heap.size wb wr)) (fun v6 v7 _ => match v7 with | .pointer none => 0 | _ => 256 - (intOf v6).toNat)
  case atStart => exact ⟨ks, [], kk, [], rfl, rfl, hst0, Hd, HKs, by rw [List.append_nil]; exact S7, B7⟩
  case round =>
    clear hst0 Hd HKs S7 B7 hN0
    obtain ⟨r, A, lr, dn, rfl, rfl, hE, hdr, hKd, hSr, hBr⟩ := hrel
    by_cases hl : lr = []
    · subst hl
      obtain rfl := hKd.out.done
      have hW9 : Hid (Calls Tryd.prog 46 #[.pointer (some ⟨b, 0, none⟩), .string ⟨#[62]⟩] wr fun e w' => (∃ x, e = .returned (.tuple #[.int .i64 x, .nilIface])) ∧ SB wb.heap.size b (l3 ++ s0 ++ [62]) w' ∧ Below wb.heap.size wr w') := by
        have e := hE.out
        rw [show shp .nil = [] from rfl, List.append_nil] at e
        have h := hSr.out
        rw [e] at h
        exact sb_writeS h rfl (by have := hlen3.out; rw [List.length_append]; simp; omega) hBr.out.size
      rw [show hdK ([] : KV) = .pointer none from rfl]
      go_wp2_with (go_at_call 46; refine hW9.out.mono ?_; rintro e w9 ⟨⟨x9, rfl⟩, q1, q2⟩; have S9 := Lib.hid q1; have B9 := Lib.hid (hBr.out.trans q2); clear q1 q2)
      go_end0
      exact ⟨rfl, S9.out, B9.out⟩
    · obtain ⟨b', t, r', x, lr', rfl, rfl, hb1, hx1, hb256, ⟨k', rfl⟩, hTV, hIN, hOk, hnext, hkn⟩ := hKd.out.next hl
      rw [hb1, hx1]
      have hE2 : Hid (dn ++ (58 :: u8s (hexL [b'])) ++ shp t ++ shp r' = s0) := by show _ = _; rw [← hE.out]; simp [shp]
      have hlen := congrArg List.length hE2.out
      simp only [List.length_append] at hlen
      obtain ⟨st', hst'⟩ : ∃ s : ByteArray, s = ⟨(u8s (hexL [b'])).toArray⟩ := ⟨_, rfl⟩
      obtain ⟨s5, hs5⟩ : ∃ s : ByteArray, s = ⟨(58 :: u8s (hexL [b'])).toArray⟩ := ⟨_, rfl⟩
      have hcat5 : (⟨#[58]⟩ : ByteArray) ++ st' = s5 := by rw [hst', hs5]; exact cat_str [58] (u8s (hexL [b']))
      have hsz5 : ¬ 9223372036854775807 < 1 + st'.size := by rw [hst', show (⟨(u8s (hexL [b'])).toArray⟩ : ByteArray).size = (u8s (hexL [b'])).length by simp [ByteArray.size]]; simp [u8s, hexL_len]
      have hA : Hid (Below wr.heap.size wr (wr.alloc (.cells #[.int .u8 (b' : Nat)] 5))) := (Below.refl _ wr).alloc (Nat.le_refl _) _
      have hTx : Hid (Calls Tryd.prog 48 #[.slice (some ⟨wr.heap.size, 0, none⟩) 1 1] (wr.alloc (.cells #[.int .u8 (b' : Nat)] 5)) fun e w' => e = .returned (.string st') ∧ Below wr.heap.size wr w') := by
        refine (keys_text (sl_one wr b' 5 hb256) (by omega)).mono fun e w' ⟨q1, q2⟩ => ⟨by rw [hst']; exact q1, hA.out.trans (q2.mono hA.out.size)⟩
      have hW5 : Hid (∀ X, SB wb.heap.size b (l3 ++ dn) X → wb.heap.size ≤ X.heap.size → Calls Tryd.prog 46 #[.pointer (some ⟨b, 0, none⟩), .string s5] X fun e w' => (∃ x, e = .returned (.tuple #[.int .i64 x, .nilIface])) ∧ SB wb.heap.size b (l3 ++ dn ++ (58 :: u8s (hexL [b']))) w' ∧ Below wb.heap.size X w') := fun X h1 h2 => sb_writeS h1 hs5 (by have := hlen3.out; rw [List.length_append]; omega) h2
      have hSh : Hid (∀ X, Below wb.heap.size wb X → SB wb.heap.size b (l3 ++ dn ++ (58 :: u8s (hexL [b']))) X → Calls Tryd.prog 28 #[.pointer (some ⟨b, 0, none⟩), .pointer (some ⟨k', 0, none⟩)] X fun e w' => e = .returned (.tuple #[]) ∧ SB wb.heap.size b (l3 ++ dn ++ (58 :: u8s (hexL [b'])) ++ shp t) w' ∧ Below wb.heap.size wb w') := fun X h1 h2 =>
        HIH.out t X _ b _ (by have h2 := hdr.out; simp only [tdep, tway] at h2; omega) hIN hTV hOk (by have := hlen3.out; rw [List.length_append, List.length_append]; omega) h1 h2
      have hd2 : Hid (tdep r' ≤ N ∧ tway r' ≤ 400000) := by show _ ∧ _; have h2 := hdr.out; simp only [tdep, tway] at h2; omega
      have hN2 : Hid (∀ X, Below wb.heap.size wb X → Calls Tryd.prog 35 #[.pointer (some ⟨n, 0, none⟩), .int .i64 ((b' + 1 : Nat) : Int)] X fun e w' => e = .returned (.tuple #[.int .u8 (hdB lr' : Nat), hdK lr']) ∧ Below X.heap.size X w') := fun X hb' => by
        have := hNx.out X ((b' + 1 : Nat) : Int) hb' (by omega) (by omega)
        rw [show (((b' + 1 : Nat) : Int)) = (b' : Int) + 1 by omega, hkn, stepV_head] at this
        exact this
      have hK2 := Lib.hid hnext
      have hwb : IntKind.i64.wrap ((b' : Int) + 1) = ((b' + 1 : Nat) : Int) := by rw [show (b' : Int) + 1 = ((b' + 1 : Nat) : Int) by omega]; exact IntWalk.i64_in _ (by omega)
      have hwc : IntKind.i64.wrap (b' : Int) = (b' : Int) := IntWalk.i64_in _ (by omega)
      have hms := Lib.hid (kids_rest hnext)
      have hSA := Lib.hid hSr.out
      have he9 : Hid (l3 ++ dn ++ (58 :: u8s (hexL [b'])) ++ shp t = l3 ++ (dn ++ (58 :: u8s (hexL [b'])) ++ shp t)) := by show _ = _; simp
      generalize l3 ++ dn ++ (58 :: u8s (hexL [b'])) ++ shp t = l9 at *
      generalize l3 ++ dn ++ (58 :: u8s (hexL [b'])) = l8 at *
      generalize l3 ++ dn = l7 at *
      clear hTV hIN hOk hnext hkn hKd hl hb1 hx1 hdr hst' hs5 hlen hE
      go_wp2_with (first
        | (have g0 := B8; go_at_call 35; refine (hN2.out _ B8.out).mono ?_; rintro e w9 ⟨rfl, z⟩
           have S9 := Lib.hid (S8.out.below z)
           have B9 := Lib.hid (B8.out.trans (z.mono B8.out.size))
           clear z)
        | (have g0 := B7; go_at_call 28; refine (hSh.out _ B7.out S7.out).mono ?_; rintro e w8 ⟨rfl, z1, z2⟩
           have S8 := Lib.hid z1
           have B8 := Lib.hid z2
           clear z1 z2)
        | (have g0 := B6; go_at_call 46; refine (hW5.out _ S6.out B6.out.size).mono ?_; rintro e w7 ⟨⟨x7, rfl⟩, q1, q2⟩
           have S7 := Lib.hid q1
           have B7 := Lib.hid (B6.out.trans q2)
           clear q1 q2)
        | (go_at_call 48; refine hTx.out.mono ?_; rintro e w6 ⟨rfl, q⟩
           have S6 := Lib.hid (hSA.out.below q)
           have B6 := Lib.hid (hBr.out.trans (q.mono hBr.out.size))
           clear q))
      rw [he9.out] at S9
      go_roundw
      case rel => exact ⟨r', A ++ [(b', .pointer (some ⟨k', 0, none⟩))], lr', _, rfl, rfl, hE2, hd2, hK2, S9, B9⟩
      case measure =>
        cases lr' with
        | nil => simp [hdK, hdB, intOf]; omega
        | cons y l => have := hms.out y (by simp); simp [hdK, hdB, intOf]; split <;> omega
theorem shp_any {wb w0 : World} {Q : List NP} (hT : PTab wb) (hQ : StoreP NoB w0 wb Q) : ∀ N, ShpAsk wb Q N
  | N, .nil, _, _, _, _, _, hn, _, _, _, _, _ => hn.elim
  | N, .kid .., _, _, _, _, _, hn, _, _, _, _, _ => hn.elim
  | 0, .node .., _, _, _, _, hd, _, _, _, _, _, _ => by simp only [tdep] at hd; omega
  | N + 1, .node bs v has leaf ks, w, a, b, l, hd, hn, hV, hO, hl, hB, hS => by
    have hI : TreeIn Q 0 (.node bs v has leaf ks) (.pointer a) [] := by
      rcases hV with ⟨h, _⟩ | ⟨_, h⟩
      · cases h
      · exact h
    obtain ⟨n, kk, rfl, N1, K1, x1, _⟩ := nodew_of hQ hI hO
    obtain ⟨y, rfl⟩ : ∃ y : Nat, v = (y : Nat) := ⟨v.toNat, by have := hO.2.1; omega⟩
    have hy : y < 18446744073709551616 := by have := hO.2.2.1; omega
    have h8 := hO.1
    have hm := chain256 hO.2.2.2.2.2.1 hO.2.2.2.2.2.2
    have hkc := krowC_chain ks hO.2.2.2.2.2.1
    have hll : (u8s (hexL bs)).length = 2 * bs.length := by simp [u8s, hexL_len]
    simp only [tdep, tway] at hd
    cases leaf with
    | true =>
      obtain ⟨e1, e2⟩ := hO.2.2.2.2.1 rfl
      subst e1; subst e2
      simp only [shp, if_true, Int.toNat_natCast, List.length_append, List.length_cons, List.length_nil, hll] at hl
      have := shp_leaf (l := l) (b := b) (by omega) hT N1 h8 hy (by omega) hB hS
      simp only [shp, if_true, Int.toNat_natCast, List.append_nil]
      simp only [List.append_assoc] at this
      exact this
    | false =>
      simp only [shp, Bool.false_eq_true, if_false, Int.toNat_natCast, hkc, List.length_append, List.length_cons, List.length_nil, hll] at hl
      cases has with
      | true =>
        have := shp_in_true (l := l) (b := b) (shp_any hT hQ N) hT N1 hm K1 x1 h8 hy (by omega) (by omega) (by simp only [if_true, List.length_append, List.length_cons, List.length_nil] at hl ⊢; omega) hB hS
        simp only [shp, Bool.false_eq_true, if_false, if_true, Int.toNat_natCast, hkc]
        simp only [if_true, List.append_assoc] at this
        simp only [List.append_assoc]
        exact this
      | false =>
        have := shp_in_false (l := l) (b := b) (shp_any hT hQ N) hT N1 hm K1 x1 h8 hy (by omega) (by omega) (by simp only [Bool.false_eq_true, if_false, List.length_append, List.length_cons, List.length_nil] at hl ⊢; omega) hB hS
        simp only [shp, Bool.false_eq_true, if_false, Int.toNat_natCast, hkc]
        simp only [Bool.false_eq_true, if_false, List.append_assoc] at this
        simp only [List.append_assoc]
        exact this
end Go.Proofs.YtgijnjdcpipfiaaDoor
/- What the laws of the chapters 17, 30, 32 ask of pairs: whether they are too many; their tree. -/
namespace Go.Proofs.YtgijnjdcpipfiaaDoor
open Go.RowKit
theorem far_m {m n : Nat} {l : PL} (h : (decide (m < n) || farL 300 l) = false) : n ≤ m ∧ ∀ x ∈ l, x.1.length ≤ 300 := by
  simp only [Bool.or_eq_false_iff, decide_eq_false_iff_not] at h
  refine ⟨by omega, fun x hx => ?_⟩
  have := h.2
  unfold farL at this
  rw [List.any_eq_false] at this
  have := this x hx
  simp at this
  exact this
end Go.Proofs.YtgijnjdcpipfiaaDoor
/- What the texts on numbers of trees share. -/
namespace Go.Proofs.YtgijnjdcpipfiaaDoor
open Go.RowKit
theorem below_al (w : World) (o : Obj) : Below w.heap.size w (w.alloc o) := (Below.refl _ w).alloc (Nat.le_refl _) o
theorem treeV_nz {Q : List NP} {t : Tr} {v : Value} (h : TreeV Q t v) : t = .nil ∨ IsN t := by
  rcases h with ⟨h, _⟩ | ⟨h, _⟩
  · exact Or.inl h
  · exact Or.inr h
end Go.Proofs.YtgijnjdcpipfiaaDoor
/- canon.Shape. -/
namespace Go.Proofs.YtgijnjdcpipfiaaDoor
open Go.RowKit
theorem shape_nil {w w1 : World} {b : Nat} (hS : SB w.heap.size b [] w1) (hB : Below w.heap.size w w1) : Calls Tryd.prog 28 #[.pointer (some ⟨b, 0, none⟩), .pointer none] w1 fun e w' => e = .returned (.tuple #[]) ∧ SB w.heap.size b [46] w' ∧ Below w.heap.size w w' := by
  have hW : Hid (Calls Tryd.prog 46 #[.pointer (some ⟨b, 0, none⟩), .string ⟨#[46]⟩] w1 fun e w' => (∃ x, e = .returned (.tuple #[.int .i64 x, .nilIface])) ∧ SB w.heap.size b [46] w' ∧ Below w.heap.size w1 w') := sb_writeS hS (ls := [46]) rfl (by simp) hB.size
  have HB := Lib.hid hB
  clear hS hB
  go_enter Tryd.func28, Tryd.ntmps28
  go_wp2_with (go_at_call 46; refine hW.out.mono ?_; rintro e w9 ⟨⟨x9, rfl⟩, q1, q2⟩; have S9 := Lib.hid q1; have B9 := Lib.hid (HB.out.trans q2); clear q1 q2)
  (try simp only [Exit.inBlock, Exit.then])
  refine bodyPost_ret (results_none rfl _ _ _) rfl ?_
  exact ⟨rfl, S9.out, B9.out⟩
theorem canon_shape {w0 w : World} {Q : List NP} {t : Tr} {v : Option Addr} (hT : PTab w) (hQ : StoreP NoB w0 w Q) (hV : TreeV Q t (.pointer v)) (hO : TOk t) (hl : (shp t).length ≤ 40000000) (hw : tway t ≤ 400000) : Calls Tryd.prog 10 #[.pointer v] w (belowPost (.string ⟨(shpT t).toArray⟩) w) := by
  have hA : Below w.heap.size w (w.alloc (.cells #[.pointer none, .slice none 0 0] sbT)) := (Below.refl _ w).alloc (Nat.le_refl _) _
  have hSh : Hid (Calls Tryd.prog 28 #[.pointer (some ⟨w.heap.size, 0, none⟩), .pointer v] (w.alloc (.cells #[.pointer none, .slice none 0 0] sbT)) fun e w' => e = .returned (.tuple #[]) ∧ SB w.heap.size w.heap.size (shpT t) w' ∧ Below w.heap.size w w') := by
    rcases treeV_nz hV with h | h
    · subst h
      obtain rfl : v = none := by
        rcases hV with ⟨_, h⟩ | ⟨h, _⟩
        · simpa using h
        · exact h.elim
      exact shape_nil (SB.new w) hA
    · have := shp_any hT hQ _ t _ v w.heap.size [] ⟨Nat.le_refl _, hw⟩ h hV hO (by simpa using hl) hA (SB.new w)
      have e : shpT t = shp t := by
        cases t with
        | nil => exact h.elim
        | kid => rfl
        | node => rfl
      rw [e]
      exact this
  clear hA hT hQ hV hO hl hw
  generalize shpT t = l at *
  go_enter Tryd.func10, Tryd.ntmps10
  go_wp2_with (first
    | (go_at_call 28; refine hSh.out.mono ?_; rintro e w1 ⟨rfl, q1, q2⟩
       have S1 := Lib.hid q1
       have B1 := Lib.hid q2
       clear q1 q2)
    | (go_at_call 29; refine (sb_string S1.out B1.out.size).mono ?_; rintro e w2 ⟨rfl, q⟩
       have B2 := Lib.hid (B1.out.trans q)
       clear q))
  go_ret
  exact ⟨rfl, B2.out⟩
end Go.Proofs.YtgijnjdcpipfiaaDoor
/- canon.each at any tree, for callbacks that are told each node. -/
namespace Go.Proofs.YtgijnjdcpipfiaaDoor
open Go.RowKit
/-- what is told of a tree behind some bytes, node by node -/
def tv {α : Type} (tell : List Nat → Int → Bool → Bool → Nat → List α) : Tr → List Nat → List α
  | .nil, _ => []
  | .kid b t r, k => tv tell t (k ++ [b]) ++ tv tell r k
  | .node bs v has leaf ks, k => tell (k ++ bs) v has leaf (chain ks).length ++ tv tell ks (k ++ bs)
/-- what a callback does, at a node -/
def CbTell {α : Type} (tell : List Nat → Int → Bool → Bool → Nat → List α) (S : (Nat → Prop) → List α → World → Prop) (w : World) (fn : FuncId) (m : Nat) : Prop :=
  ∀ F L X (n : Nat) bs (val : Int) has leaf mm kk (a : Option Addr) (nn c : Nat) key, S F L X → NodeW X n bs val has leaf mm kk → Sl X a nn c key → nn ≤ 900000 → 0 ≤ val → val < 18446744073709551616 → mm ≤ 256 → Below w.heap.size w X → L.length ≤ 2000 →
    Calls Tryd.prog fn #[.slice a nn c, .pointer (some ⟨n, 0, none⟩), .pointer (some ⟨m, 0, none⟩)] X fun e X' => e = .returned (.tuple #[]) ∧ ∃ F', S F' (L ++ tell key val has leaf mm) X' ∧ Mod F X X' ∧ ∀ j, F' j → F j ∨ X.heap.size ≤ j
/-- what each is asked for at a tree -/
def EachAskG {α : Type} (tell : List Nat → Int → Bool → Bool → Nat → List α) (S : (Nat → Prop) → List α → World → Prop) (w : World) (cf : Value) (N : Nat) : Prop := ∀ (t : Tr) {w0 : World} {Q : List NP} {p : Option Addr}, tdep t ≤ N → StoreP NoB w0 w Q → TreeIn Q 0 t (.pointer p) [] → IsN t → TOk t → ∀ {X : World} {v : Value} {k : List Nat} {bo : Option Nat} {cap : Nat} {F : Nat → Prop} {L : List α} {bf bd : Nat}, EaS S w bf bd cf (eachF bf bd) v k bo cap F L X → (∀ x ∈ k, x < 256) → k.length + tway t ≤ 900000 → L.length + (tv tell t k).length ≤ 2000 →
  Calls Tryd.prog 40 #[v, .pointer p, .pointer (some ⟨bf, 0, none⟩), .pointer (some ⟨bd, 0, none⟩)] X fun e X' => e = .returned (.tuple #[]) ∧ ∃ F', EaS S w bf bd cf (eachF bf bd) v k bo cap F' (L ++ tv tell t k) X' ∧ Ext bo F X X' F'
set_option maxHeartbeats 4000000 in
set_option maxRecDepth 100000 in
theorem each1G_fn {α : Type} {tell : List Nat → Int → Bool → Bool → Nat → List α} {S : (Nat → Prop) → List α → World → Prop} {w : World} {m : Nat} (hS : CbT S w.heap.size) (hf : CbTell tell S w (24) m) (N : Nat) (IH : EachAskG tell S w (.func (.func 24) #[] #[.pointer (some ⟨m, 0, none⟩)]) N)
    {w0 X : World} {Q : List NP} (hQ : StoreP NoB w0 w Q) {n : Nat} {bs : List Nat} {val : Int} {has leaf : Bool} {mm : Nat} {kk : KV} {ks : Tr} (h : NodeW w n bs val has leaf mm kk) (hKs : Kids Q kk ks ks [] kk) (hk0 : knxt kk 0 = kk.head?) (hdp : tdep ks ≤ N) (hb8 : ∀ x ∈ bs, x < 256) (hv0 : 0 ≤ val) (hv1 : val < 18446744073709551616) (hmm : mm ≤ 256)
    {v : Value} {k : List Nat} {bo : Option Nat} {cap : Nat} {F : Nat → Prop} {L : List α} {bf bd : Nat} (hE : EaS S w bf bd (.func (.func 24) #[] #[.pointer (some ⟨m, 0, none⟩)]) (eachF bf bd) v k bo cap F L X) (hk8 : ∀ x ∈ k, x < 256) (hway : k.length + (bs.length + tway ks) ≤ 900000) {T : List α} (hT : T = L ++ tell (k ++ bs) val has leaf mm ++ tv tell ks (k ++ bs)) (htot : T.length ≤ 2000) :
    Calls Tryd.prog 40 #[v, .pointer (some ⟨n, 0, none⟩), .pointer (some ⟨bf, 0, none⟩), .pointer (some ⟨bd, 0, none⟩)] X fun e X' => e = .returned (.tuple #[]) ∧ ∃ F', EaS S w bf bd (.func (.func 24) #[] #[.pointer (some ⟨m, 0, none⟩)]) (eachF bf bd) v k bo cap F' T X' ∧ Ext bo F X X' F' := by
  have hPart := Lib.hid (h.part X hE.since)
  have HN := Lib.hid h
  have HS := Lib.hid hS
  have HF := Lib.hid hf
  have HQ := Lib.hid hQ
  have HE := Lib.hid hE
  have hn0 : Hid (∀ X, Below w.heap.size w X → Calls Tryd.prog 35 #[.pointer (some ⟨n, 0, none⟩), .int .i64 0] X fun e w' => e = .returned (.tuple #[.int .u8 (hdB kk : Nat), hdK kk]) ∧ Below X.heap.size X w') := fun X hX => by
    have := h.next X 0 hX (by omega) (by omega)
    rw [hk0, stepV_head] at this
    exact this
  obtain ⟨kb, hkbe⟩ : ∃ kb, kb = k ++ bs := ⟨_, rfl⟩
  have HKe := Lib.hid hkbe
  have hT2 : Hid (L ++ tell kb val has leaf mm ++ tv tell ks kb = T) := by rw [hkbe]; exact hT.symm
  have hLl : Hid (L.length ≤ 2000) := by show _ ≤ _; have := congrArg List.length hT; simp only [List.length_append] at this; omega
  have HT := Lib.hid htot
  have hKs0 := Lib.hid hKs
  have hkl : Hid (k.length ≤ 1000000) := by show _ ≤ _; omega
  have hbl : Hid (bs.length ≤ 1000000) := by show _ ≤ _; omega
  have h1m : Hid (1 ≤ 1000000) := by show _ ≤ _; omega
  have hkb : Hid (∀ x ∈ kb, x < 256) := fun x hx => by
    rw [hkbe] at hx
    rcases List.mem_append.1 hx with hx | hx
    · exact hk8 x hx
    · exact hb8 x hx
  have hkbl : Hid (kb.length + tway ks ≤ 900000) := by show _ ≤ _; rw [hkbe, List.length_append]; omega
  have hv := Lib.hid (And.intro hv0 hv1)
  have Hmm := Lib.hid hmm
  clear h hKs hk0 hb8 hv0 hv1 hmm hE hk8 hway hT htot hS hf hQ hkbe
  go_enter Tryd.func40, Tryd.ntmps40
  go_wp2_with (first
    | (go_at_call 35; refine (hn0.out _ B3.out).mono ?_; rintro e w4 ⟨rfl, z1⟩; have E4 := Lib.hid (E3.out.below HS.out z1); have Y4 := Lib.hid (Y3.out.trans (Ext.of_below z1)); clear z1)
    | (go_at_call 24; refine (HF.out _ _ _ _ _ _ _ _ _ _ _ _ _ _ E2.out.st hNX.out hSl.out (by have := hkbl.out; omega) hv.out.1 hv.out.2 Hmm.out E2.out.since hLl.out).mono ?_; rintro e w3 ⟨rfl, F3, s3, m3, f3⟩
       obtain ⟨q1, q2⟩ := E2.out.told HS.out s3 m3 f3
       have E3 := Lib.hid q1
       have Y3 := Lib.hid q2
       have B3 := Lib.hid q1.since
       clear s3 m3 f3 q1 q2)
    | (at_builtin; go_loud (refine wpList_append_way (v := v) rfl (.tmp 10) (.tmp 12) rfl rfl E1.out.way ⟨X.heap.size, 0, none⟩ bs.length bs.length bs rfl rfl hnews.out hkl.out hbl.out ?_); intro v2 w2 bo2 cap2 HW HG HM HK
       obtain ⟨q1, q2⟩ := E1.out.app HS.out HW.out HG.out HM.out
       rw [← HKe.out] at q1
       have E2 := Lib.hid q1
       have hNX := Lib.hid (HN.out.below q1.since)
       obtain ⟨a2, hv2, sl2⟩ := q1.way.sl hkb.out
       subst hv2
       have hSl := Lib.hid sl2
       have cbf := q1.xf
       clear q1 q2 sl2 HW)
    | (go_at_call 41; refine hPart.out.mono ?_; rintro e w1 ⟨rfl, s1, b1⟩
       have E1 := Lib.hid (HE.out.below HS.out b1)
       have B1 := Lib.hid b1
       have hnews := Lib.hid (sl_news s1 (Below.refl _ w1))
       clear s1 b1))
  have E4' := E4
  have Y4' := Y4
  clear E4 Y4 Y3 E3 E2 B3 hNX hSl cbf hnews hn0 hPart hLl hbl
  go_loopw [6, 7] (fun v6 v7 wr => ∃ (F1 : Nat → Prop) (L1 : List α) (r : Tr) (A lr : KV), v6 = .int .u8 (hdB lr : Nat) ∧ v7 = hdK lr ∧ Hid (EaS S w bf bd (.func (.func 24) #[] #[.pointer (some ⟨m, 0, none⟩)]) (eachF bf bd) (.slice a2 kb.length cap2) kb bo2 cap2 F1 L1 wr) ∧ Hid (Ext bo2 F w2 wr F1) ∧ Hid (Kids Q kk ks r A lr) ∧ Hid (L1 ++ tv tell r kb = T) ∧ Hid (tdep r ≤ N ∧ kb.length + tway r ≤ 900000)) (fun v6 v7 _ => match v7 with | .pointer none => 0 | _ => 256 - (intOf v6).toNat)
  case atStart => exact ⟨F3, _, ks, [], kk, rfl, rfl, E4', Y4', hKs0, hT2, hdp, hkbl.out⟩
  case round =>
    clear E4' Y4' hKs0 hT2 hkbl
    obtain ⟨F1, L1, r, A, lr, rfl, rfl, hE, hY, hKd, hL, hdr⟩ := hrel
    by_cases hl : lr = []
    · subst hl
      obtain rfl := hKd.out.done
      rw [show hdK ([] : KV) = .pointer none from rfl]
      go_wp2_with fail
      go_end0
      have e := hL.out
      simp only [tv, List.append_nil] at e
      have q := hE.out
      rw [HKe.out, e] at q
      obtain ⟨q1, q2⟩ := E1.out.back HS.out HG.out HM.out HK.out q hY.out
      exact ⟨rfl, F1, q1, (Ext.of_below B1.out).trans q2⟩
    · obtain ⟨b, t, r', x, lr', rfl, rfl, hb1, hx1, hb256, ⟨kn, rfl⟩, hTV, hIN, hOk, hnext, hkn⟩ := hKd.out.next hl
      rw [hb1, hx1]
      obtain ⟨kb2, hkb2⟩ : ∃ kb2, kb2 = kb ++ [b] := ⟨_, rfl⟩
      have HK2 := Lib.hid hkb2
      have hL2 : Hid (L1 ++ tv tell t kb2 ++ tv tell r' kb = T) := by show _ = _; rw [← hL.out, hkb2]; simp [tv]
      have hLl : Hid (L1.length + (tv tell t kb2).length ≤ 2000) := by
        have := congrArg List.length hL2.out
        have := HT.out
        simp only [List.length_append] at *
        show _ ≤ _
        omega
      have hdr1 := hdr.out.1
      have hdr2 := hdr.out.2
      simp only [tdep] at hdr1
      simp only [tway] at hdr2
      have hTI : TreeIn Q 0 t (.pointer (some ⟨kn, 0, none⟩)) [] := by
        rcases hTV with ⟨_, e⟩ | ⟨_, e⟩
        · cases e
        · exact e
      have hk2 : Hid (∀ x ∈ kb2, x < 256) := fun x hx => by
        rw [hkb2] at hx
        rcases List.mem_append.1 hx with hx | hx
        · exact hkb.out x hx
        · obtain rfl := List.mem_singleton.1 hx; exact hb256
      have hRec : Hid (∀ w8 v8 bo8 cap8, EaS S w bf bd (.func (.func 24) #[] #[.pointer (some ⟨m, 0, none⟩)]) (eachF bf bd) v8 kb2 bo8 cap8 F1 L1 w8 → Calls Tryd.prog 40 #[v8, .pointer (some ⟨kn, 0, none⟩), .pointer (some ⟨bf, 0, none⟩), .pointer (some ⟨bd, 0, none⟩)] w8 fun e X' => e = .returned (.tuple #[]) ∧ ∃ F', EaS S w bf bd (.func (.func 24) #[] #[.pointer (some ⟨m, 0, none⟩)]) (eachF bf bd) v8 kb2 bo8 cap8 F' (L1 ++ tv tell t kb2) X' ∧ Ext bo8 F1 w8 X' F') := fun w8 v8 bo8 cap8 q =>
        IH t (by omega) HQ.out hTI hIN hOk q hk2.out (by rw [hkb2, List.length_append, List.length_singleton]; omega) hLl.out
      have hN2 : Hid (∀ wr', Below w.heap.size w wr' → Calls Tryd.prog 35 #[.pointer (some ⟨n, 0, none⟩), .int .i64 ((b + 1 : Nat) : Int)] wr' fun e w' => e = .returned (.tuple #[.int .u8 (hdB lr' : Nat), hdK lr']) ∧ Below wr'.heap.size wr' w') := fun wr' hb' => by
        have := HN.out.next wr' ((b + 1 : Nat) : Int) hb' (by omega) (by omega)
        rw [show (((b + 1 : Nat) : Int)) = (b : Int) + 1 by omega, hkn, stepV_head] at this
        exact this
      have hK2 := Lib.hid hnext
      have hwb : IntKind.i64.wrap ((b : Int) + 1) = ((b + 1 : Nat) : Int) := by rw [show (b : Int) + 1 = ((b + 1 : Nat) : Int) by omega]; exact IntWalk.i64_in _ (by omega)
      have hwc : IntKind.i64.wrap (b : Int) = (b : Int) := IntWalk.i64_in _ (by omega)
      have hms : Hid (∀ p ∈ lr', b < p.1 ∧ p.1 < 256) := kids_rest hnext
      have hdr3 : Hid (tdep r' ≤ N ∧ kb.length + tway r' ≤ 900000) := And.intro (by omega) (by omega)
      have hkbL : Hid (kb.length ≤ 1000000) := by show _ ≤ _; omega
      have hAd : Hid (Below wr.heap.size wr (wr.alloc (.cells #[.int .u8 (b : Nat)] 5)).drew) := ((Below.refl _ wr).alloc (Nat.le_refl _) _).drew
      have hEA := Lib.hid (hE.out.below HS.out hAd.out)
      have hnews : Hid (∀ j u, (bV [b])[j]? = some u → (wr.alloc (.cells #[.int .u8 (b : Nat)] 5)).drew.cell? ((⟨wr.heap.size, 0, none⟩ : Addr).add j) = some u) := news_alloc wr [.int .u8 (b : Nat)] 5
      have cd0 := hE.out.xd
      have cdA : ∀ o, (wr.alloc o).cell? ⟨bd, 0, none⟩ = some (eachF bf bd) := fun o => (hE.out.below HS.out ((Below.refl _ wr).alloc (Nat.le_refl _) o)).xd
      unfold eachF at cd0 cdA
      clear hTV hTI hIN hOk hnext hkn hKd hl hb1 hx1 hdr hdr1 hdr2 hL hkb2
      go_wp2_with fail
      go_region_law (first
        | (refine step_append_way (v := .slice a2 kb.length cap2) rfl (.tmp 34) (.tmp 36) rfl rfl hEA.out.way ⟨wr.heap.size, 0, none⟩ 1 1 [b] rfl rfl hnews.out hkbL.out h1m.out ?_; intro v8 w8 bo8 cap8 HW8 HG8 HM8 HK8
           obtain ⟨q1, q2⟩ := hEA.out.app HS.out HW8.out HG8.out HM8.out
           rw [← HK2.out] at q1
           have E8 := Lib.hid q1
           have cd8 := q1.xd
           unfold eachF at cd8
           clear q1 q2)
        | (go_simp; go_at_call 40; refine (hRec.out _ _ _ _ E8.out).mono ?_; rintro e w9 ⟨rfl, F9, q9, y9⟩
           have E9 := Lib.hid (hEA.out.back HS.out HG8.out HM8.out HK8.out (by rw [← HK2.out]; exact q9) y9)
           clear q9 y9))
      all_goals
        go_wp2_with (go_at_call 35; refine (hN2.out _ E9.out.1.since).mono ?_; rintro e w10 ⟨rfl, z1⟩; have E10 := Lib.hid (E9.out.1.below HS.out z1); have Y10 := Lib.hid (hY.out.trans ((Ext.of_below hAd.out).trans (E9.out.2.trans (Ext.of_below z1)))); clear z1)
        go_roundw
        case rel => exact ⟨F9, _, r', A ++ [(b, .pointer (some ⟨kn, 0, none⟩))], lr', rfl, rfl, E10, Y10, hK2, hL2, hdr3⟩
        case measure =>
          cases lr' with
          | nil => simp [hdK, hdB, intOf]; omega
          | cons y l => have := hms.out y (by simp); simp [hdK, hdB, intOf]; split <;> omega
theorem eachAnyG_fn {α : Type} {tell : List Nat → Int → Bool → Bool → Nat → List α} {S : (Nat → Prop) → List α → World → Prop} {w : World} {m : Nat} (hS : CbT S w.heap.size) (hf : CbTell tell S w (24) m) : ∀ N, EachAskG tell S w (.func (.func 24) #[] #[.pointer (some ⟨m, 0, none⟩)]) N
  | 0 => fun t w0 Q p hd hQ hT hN hO => by
    cases t with
    | nil => exact hN.elim
    | kid => exact hN.elim
    | node => simp only [tdep] at hd; omega
  | N + 1 => fun t w0 Q p hd hQ hT hN hO X v k bo cap F L bf bd hE hk8 hway htot => by
    cases t with
    | nil => exact hN.elim
    | kid => exact hN.elim
    | node bs val has leaf ks =>
      simp only [tdep] at hd
      simp only [tway] at hway
      obtain ⟨n, kk, rfl, h1, h2, h3, _⟩ := nodew_of hQ hT hO
      have hm2 := chain256 hO.2.2.2.2.2.1 hO.2.2.2.2.2.2
      obtain ⟨o1, o2, o3, _⟩ := hO
      refine each1G_fn hS hf N (eachAnyG_fn hS hf N) hQ h1 h2 h3 (by omega) o1 o2 o3 hm2 hE hk8 hway (T := L ++ tv tell (.node bs val has leaf ks) k) ?_ (by rw [List.length_append]; exact htot)
      simp only [tv, List.append_assoc]
theorem eachTopG_fn {α : Type} {tell : List Nat → Int → Bool → Bool → Nat → List α} {S : (Nat → Prop) → List α → World → Prop} {w w0 X : World} {m : Nat} (hS : CbT S w.heap.size) (hf : CbTell tell S w (24) m) {t : Tr} {Q : List NP} {p : Option Addr} (hQ : StoreP NoB w0 w Q) (hT : TreeV Q t (.pointer p)) (hO : TOk t) (hb : Below w.heap.size w X) {F : Nat → Prop} (hs : S F [] X) (hway : tway t ≤ 900000) (htot : (tv tell t []).length ≤ 2000) :
    Calls Tryd.prog 20 #[.pointer p, .func (.func 24) #[] #[.pointer (some ⟨m, 0, none⟩)]] X fun e X' => e = .returned (.tuple #[]) ∧ ∃ F', S F' (tv tell t []) X' ∧ Mod F X X' ∧ ∀ j, F' j → F j ∨ X.heap.size ≤ j := by
  obtain ⟨w1, hw1⟩ : ∃ w1, w1 = X.alloc (.cells #[.func (.func 24) #[] #[.pointer (some ⟨m, 0, none⟩)]] 59) := ⟨_, rfl⟩
  have hbx : w1.heap[X.heap.size]? = some (.cells [.func (.func 24) #[] #[.pointer (some ⟨m, 0, none⟩)]].toArray 59 (0, 0)) := by rw [hw1]; exact heap_alloc_new X _
  have hA1 : Below X.heap.size X w1 := by rw [hw1]; exact (Below.refl _ X).alloc (Nat.le_refl _) _
  have hs1 : w1.heap.size = X.heap.size + 1 := by rw [hw1, World.size_alloc]
  have hE : Hid (∀ t', Calls Tryd.prog 40 #[.slice none 0 0, .pointer p, .pointer (some ⟨X.heap.size, 0, none⟩), .pointer (some ⟨w1.heap.size, 0, none⟩)] (w1.alloc (.cells #[eachF X.heap.size w1.heap.size] t')) fun e X' => e = .returned (.tuple #[]) ∧ ∃ F', S F' (tv tell t []) X' ∧ Mod F X X' ∧ ∀ j, F' j → F j ∨ X.heap.size ≤ j) := fun t' => by
    have hA2 : Below w1.heap.size w1 (w1.alloc (.cells #[eachF X.heap.size w1.heap.size] t')) := (Below.refl _ w1).alloc (Nat.le_refl _) _
    have hA : Below X.heap.size X (w1.alloc (.cells #[eachF X.heap.size w1.heap.size] t')) := hA1.trans (hA2.mono hA1.size)
    have hF : ∀ b, X.heap.size ≤ b → ¬ F b := fun b h q => by have := hS.high F [] X hs b q; omega
    rcases hT with ⟨rfl, e⟩ | ⟨hn, hT⟩
    · obtain rfl : p = none := by simpa using e
      refine (each1_nil _ _ _).mono ?_
      rintro e w' ⟨rfl, rfl⟩
      exact ⟨rfl, F, hS.keep F [] X _ hs fun j hj => hA.block j (hS.high F [] X hs j hj), Mod.of_below hA, fun j hj => Or.inl hj⟩
    · have hEA : EaS S w X.heap.size w1.heap.size (.func (.func 24) #[] #[.pointer (some ⟨m, 0, none⟩)]) (eachF X.heap.size w1.heap.size) (.slice none 0 0) [] none 0 F [] (w1.alloc (.cells #[eachF X.heap.size w1.heap.size] t')) := by
        refine ⟨hb.trans (hA.mono hb.size), WayAt.nil _, fun g e => (by cases e), hS.keep F [] X _ hs fun j hj => hA.block j (hS.high F [] X hs j hj), fun g e => (by cases e), ?_, ?_, ⟨hF _ (Nat.le_refl _), by simp⟩, ⟨hF _ (by omega), by simp⟩⟩
        · rw [cell_of_blk ((hA2.block _ (Array.getElem?_eq_some_iff.1 hbx).1).trans hbx)]; rfl
        · rw [cell_of_blk (c := [eachF X.heap.size w1.heap.size]) (t := t') (heap_alloc_new w1 _)]; rfl
      refine (eachAnyG_fn hS hf (tdep t) t (Nat.le_refl _) hQ hT hn hO hEA (by simp) (by simpa using hway) (by simpa using htot)).mono ?_
      rintro e X' ⟨rfl, F', q, q1, q2⟩
      have q3 := q.st
      simp only [List.nil_append] at q3
      refine ⟨rfl, F', q3, (Mod.of_below hA).then q1 fun i _ r => ?_, fun j hj => ?_⟩
      · rcases r with r | r
        · cases r
        · exact r
      · rcases q2 j hj with r | r
        · exact Or.inl r
        · exact Or.inr (Nat.le_trans hA.size r)
  unfold eachF at hE
  generalize tv tell t [] = T at *
  clear hQ hb hT hO hbx hA1 hs1 hway htot hs hS hf
  go_enter Tryd.func20, Tryd.ntmps20
  go_upto_region 1 with fail
  rw [← hw1]
  clear hw1
  go_wp2_with (go_at_call 40; refine (hE.out _).mono ?_; rintro e w' ⟨rfl, q⟩; have q := Lib.hid q)
  go_end0
  exact ⟨rfl, q.out⟩

set_option maxHeartbeats 4000000 in
set_option maxRecDepth 100000 in
theorem each1G_pt {α : Type} {tell : List Nat → Int → Bool → Bool → Nat → List α} {S : (Nat → Prop) → List α → World → Prop} {w : World} {m : Nat} (hS : CbT S w.heap.size) (hf : CbTell tell S w (37) m) (N : Nat) (IH : EachAskG tell S w (.func (.func 37) #[] #[.pointer (some ⟨m, 0, none⟩)]) N)
    {w0 X : World} {Q : List NP} (hQ : StoreP NoB w0 w Q) {n : Nat} {bs : List Nat} {val : Int} {has leaf : Bool} {mm : Nat} {kk : KV} {ks : Tr} (h : NodeW w n bs val has leaf mm kk) (hKs : Kids Q kk ks ks [] kk) (hk0 : knxt kk 0 = kk.head?) (hdp : tdep ks ≤ N) (hb8 : ∀ x ∈ bs, x < 256) (hv0 : 0 ≤ val) (hv1 : val < 18446744073709551616) (hmm : mm ≤ 256)
    {v : Value} {k : List Nat} {bo : Option Nat} {cap : Nat} {F : Nat → Prop} {L : List α} {bf bd : Nat} (hE : EaS S w bf bd (.func (.func 37) #[] #[.pointer (some ⟨m, 0, none⟩)]) (eachF bf bd) v k bo cap F L X) (hk8 : ∀ x ∈ k, x < 256) (hway : k.length + (bs.length + tway ks) ≤ 900000) {T : List α} (hT : T = L ++ tell (k ++ bs) val has leaf mm ++ tv tell ks (k ++ bs)) (htot : T.length ≤ 2000) :
    Calls Tryd.prog 40 #[v, .pointer (some ⟨n, 0, none⟩), .pointer (some ⟨bf, 0, none⟩), .pointer (some ⟨bd, 0, none⟩)] X fun e X' => e = .returned (.tuple #[]) ∧ ∃ F', EaS S w bf bd (.func (.func 37) #[] #[.pointer (some ⟨m, 0, none⟩)]) (eachF bf bd) v k bo cap F' T X' ∧ Ext bo F X X' F' := by
  have hPart := Lib.hid (h.part X hE.since)
  have HN := Lib.hid h
  have HS := Lib.hid hS
  have HF := Lib.hid hf
  have HQ := Lib.hid hQ
  have HE := Lib.hid hE
  have hn0 : Hid (∀ X, Below w.heap.size w X → Calls Tryd.prog 35 #[.pointer (some ⟨n, 0, none⟩), .int .i64 0] X fun e w' => e = .returned (.tuple #[.int .u8 (hdB kk : Nat), hdK kk]) ∧ Below X.heap.size X w') := fun X hX => by
    have := h.next X 0 hX (by omega) (by omega)
    rw [hk0, stepV_head] at this
    exact this
  obtain ⟨kb, hkbe⟩ : ∃ kb, kb = k ++ bs := ⟨_, rfl⟩
  have HKe := Lib.hid hkbe
  have hT2 : Hid (L ++ tell kb val has leaf mm ++ tv tell ks kb = T) := by rw [hkbe]; exact hT.symm
  have hLl : Hid (L.length ≤ 2000) := by show _ ≤ _; have := congrArg List.length hT; simp only [List.length_append] at this; omega
  have HT := Lib.hid htot
  have hKs0 := Lib.hid hKs
  have hkl : Hid (k.length ≤ 1000000) := by show _ ≤ _; omega
  have hbl : Hid (bs.length ≤ 1000000) := by show _ ≤ _; omega
  have h1m : Hid (1 ≤ 1000000) := by show _ ≤ _; omega
  have hkb : Hid (∀ x ∈ kb, x < 256) := fun x hx => by
    rw [hkbe] at hx
    rcases List.mem_append.1 hx with hx | hx
    · exact hk8 x hx
    · exact hb8 x hx
  have hkbl : Hid (kb.length + tway ks ≤ 900000) := by show _ ≤ _; rw [hkbe, List.length_append]; omega
  have hv := Lib.hid (And.intro hv0 hv1)
  have Hmm := Lib.hid hmm
  clear h hKs hk0 hb8 hv0 hv1 hmm hE hk8 hway hT htot hS hf hQ hkbe
  go_enter Tryd.func40, Tryd.ntmps40
  go_wp2_with (first
    | (go_at_call 35; refine (hn0.out _ B3.out).mono ?_; rintro e w4 ⟨rfl, z1⟩; have E4 := Lib.hid (E3.out.below HS.out z1); have Y4 := Lib.hid (Y3.out.trans (Ext.of_below z1)); clear z1)
    | (go_at_call 37; refine (HF.out _ _ _ _ _ _ _ _ _ _ _ _ _ _ E2.out.st hNX.out hSl.out (by have := hkbl.out; omega) hv.out.1 hv.out.2 Hmm.out E2.out.since hLl.out).mono ?_; rintro e w3 ⟨rfl, F3, s3, m3, f3⟩
       obtain ⟨q1, q2⟩ := E2.out.told HS.out s3 m3 f3
       have E3 := Lib.hid q1
       have Y3 := Lib.hid q2
       have B3 := Lib.hid q1.since
       clear s3 m3 f3 q1 q2)
    | (at_builtin; go_loud (refine wpList_append_way (v := v) rfl (.tmp 10) (.tmp 12) rfl rfl E1.out.way ⟨X.heap.size, 0, none⟩ bs.length bs.length bs rfl rfl hnews.out hkl.out hbl.out ?_); intro v2 w2 bo2 cap2 HW HG HM HK
       obtain ⟨q1, q2⟩ := E1.out.app HS.out HW.out HG.out HM.out
       rw [← HKe.out] at q1
       have E2 := Lib.hid q1
       have hNX := Lib.hid (HN.out.below q1.since)
       obtain ⟨a2, hv2, sl2⟩ := q1.way.sl hkb.out
       subst hv2
       have hSl := Lib.hid sl2
       have cbf := q1.xf
       clear q1 q2 sl2 HW)
    | (go_at_call 41; refine hPart.out.mono ?_; rintro e w1 ⟨rfl, s1, b1⟩
       have E1 := Lib.hid (HE.out.below HS.out b1)
       have B1 := Lib.hid b1
       have hnews := Lib.hid (sl_news s1 (Below.refl _ w1))
       clear s1 b1))
  have E4' := E4
  have Y4' := Y4
  clear E4 Y4 Y3 E3 E2 B3 hNX hSl cbf hnews hn0 hPart hLl hbl
  go_loopw [6, 7] (fun v6 v7 wr => ∃ (F1 : Nat → Prop) (L1 : List α) (r : Tr) (A lr : KV), v6 = .int .u8 (hdB lr : Nat) ∧ v7 = hdK lr ∧ Hid (EaS S w bf bd (.func (.func 37) #[] #[.pointer (some ⟨m, 0, none⟩)]) (eachF bf bd) (.slice a2 kb.length cap2) kb bo2 cap2 F1 L1 wr) ∧ Hid (Ext bo2 F w2 wr F1) ∧ Hid (Kids Q kk ks r A lr) ∧ Hid (L1 ++ tv tell r kb = T) ∧ Hid (tdep r ≤ N ∧ kb.length + tway r ≤ 900000)) (fun v6 v7 _ => match v7 with | .pointer none => 0 | _ => 256 - (intOf v6).toNat)
  case atStart => exact ⟨F3, _, ks, [], kk, rfl, rfl, E4', Y4', hKs0, hT2, hdp, hkbl.out⟩
  case round =>
    clear E4' Y4' hKs0 hT2 hkbl
    obtain ⟨F1, L1, r, A, lr, rfl, rfl, hE, hY, hKd, hL, hdr⟩ := hrel
    by_cases hl : lr = []
    · subst hl
      obtain rfl := hKd.out.done
      rw [show hdK ([] : KV) = .pointer none from rfl]
      go_wp2_with fail
      go_end0
      have e := hL.out
      simp only [tv, List.append_nil] at e
      have q := hE.out
      rw [HKe.out, e] at q
      obtain ⟨q1, q2⟩ := E1.out.back HS.out HG.out HM.out HK.out q hY.out
      exact ⟨rfl, F1, q1, (Ext.of_below B1.out).trans q2⟩
    · obtain ⟨b, t, r', x, lr', rfl, rfl, hb1, hx1, hb256, ⟨kn, rfl⟩, hTV, hIN, hOk, hnext, hkn⟩ := hKd.out.next hl
      rw [hb1, hx1]
      obtain ⟨kb2, hkb2⟩ : ∃ kb2, kb2 = kb ++ [b] := ⟨_, rfl⟩
      have HK2 := Lib.hid hkb2
      have hL2 : Hid (L1 ++ tv tell t kb2 ++ tv tell r' kb = T) := by show _ = _; rw [← hL.out, hkb2]; simp [tv]
      have hLl : Hid (L1.length + (tv tell t kb2).length ≤ 2000) := by
        have := congrArg List.length hL2.out
        have := HT.out
        simp only [List.length_append] at *
        show _ ≤ _
        omega
      have hdr1 := hdr.out.1
      have hdr2 := hdr.out.2
      simp only [tdep] at hdr1
      simp only [tway] at hdr2
      have hTI : TreeIn Q 0 t (.pointer (some ⟨kn, 0, none⟩)) [] := by
        rcases hTV with ⟨_, e⟩ | ⟨_, e⟩
        · cases e
        · exact e
      have hk2 : Hid (∀ x ∈ kb2, x < 256) := fun x hx => by
        rw [hkb2] at hx
        rcases List.mem_append.1 hx with hx | hx
        · exact hkb.out x hx
        · obtain rfl := List.mem_singleton.1 hx; exact hb256
      have hRec : Hid (∀ w8 v8 bo8 cap8, EaS S w bf bd (.func (.func 37) #[] #[.pointer (some ⟨m, 0, none⟩)]) (eachF bf bd) v8 kb2 bo8 cap8 F1 L1 w8 → Calls Tryd.prog 40 #[v8, .pointer (some ⟨kn, 0, none⟩), .pointer (some ⟨bf, 0, none⟩), .pointer (some ⟨bd, 0, none⟩)] w8 fun e X' => e = .returned (.tuple #[]) ∧ ∃ F', EaS S w bf bd (.func (.func 37) #[] #[.pointer (some ⟨m, 0, none⟩)]) (eachF bf bd) v8 kb2 bo8 cap8 F' (L1 ++ tv tell t kb2) X' ∧ Ext bo8 F1 w8 X' F') := fun w8 v8 bo8 cap8 q =>
        IH t (by omega) HQ.out hTI hIN hOk q hk2.out (by rw [hkb2, List.length_append, List.length_singleton]; omega) hLl.out
      have hN2 : Hid (∀ wr', Below w.heap.size w wr' → Calls Tryd.prog 35 #[.pointer (some ⟨n, 0, none⟩), .int .i64 ((b + 1 : Nat) : Int)] wr' fun e w' => e = .returned (.tuple #[.int .u8 (hdB lr' : Nat), hdK lr']) ∧ Below wr'.heap.size wr' w') := fun wr' hb' => by
        have := HN.out.next wr' ((b + 1 : Nat) : Int) hb' (by omega) (by omega)
        rw [show (((b + 1 : Nat) : Int)) = (b : Int) + 1 by omega, hkn, stepV_head] at this
        exact this
      have hK2 := Lib.hid hnext
      have hwb : IntKind.i64.wrap ((b : Int) + 1) = ((b + 1 : Nat) : Int) := by rw [show (b : Int) + 1 = ((b + 1 : Nat) : Int) by omega]; exact IntWalk.i64_in _ (by omega)
      have hwc : IntKind.i64.wrap (b : Int) = (b : Int) := IntWalk.i64_in _ (by omega)
      have hms : Hid (∀ p ∈ lr', b < p.1 ∧ p.1 < 256) := kids_rest hnext
      have hdr3 : Hid (tdep r' ≤ N ∧ kb.length + tway r' ≤ 900000) := And.intro (by omega) (by omega)
      have hkbL : Hid (kb.length ≤ 1000000) := by show _ ≤ _; omega
      have hAd : Hid (Below wr.heap.size wr (wr.alloc (.cells #[.int .u8 (b : Nat)] 5)).drew) := ((Below.refl _ wr).alloc (Nat.le_refl _) _).drew
      have hEA := Lib.hid (hE.out.below HS.out hAd.out)
      have hnews : Hid (∀ j u, (bV [b])[j]? = some u → (wr.alloc (.cells #[.int .u8 (b : Nat)] 5)).drew.cell? ((⟨wr.heap.size, 0, none⟩ : Addr).add j) = some u) := news_alloc wr [.int .u8 (b : Nat)] 5
      have cd0 := hE.out.xd
      have cdA : ∀ o, (wr.alloc o).cell? ⟨bd, 0, none⟩ = some (eachF bf bd) := fun o => (hE.out.below HS.out ((Below.refl _ wr).alloc (Nat.le_refl _) o)).xd
      unfold eachF at cd0 cdA
      clear hTV hTI hIN hOk hnext hkn hKd hl hb1 hx1 hdr hdr1 hdr2 hL hkb2
      go_wp2_with fail
      go_region_law (first
        | (refine step_append_way (v := .slice a2 kb.length cap2) rfl (.tmp 34) (.tmp 36) rfl rfl hEA.out.way ⟨wr.heap.size, 0, none⟩ 1 1 [b] rfl rfl hnews.out hkbL.out h1m.out ?_; intro v8 w8 bo8 cap8 HW8 HG8 HM8 HK8
           obtain ⟨q1, q2⟩ := hEA.out.app HS.out HW8.out HG8.out HM8.out
           rw [← HK2.out] at q1
           have E8 := Lib.hid q1
           have cd8 := q1.xd
           unfold eachF at cd8
           clear q1 q2)
        | (go_simp; go_at_call 40; refine (hRec.out _ _ _ _ E8.out).mono ?_; rintro e w9 ⟨rfl, F9, q9, y9⟩
           have E9 := Lib.hid (hEA.out.back HS.out HG8.out HM8.out HK8.out (by rw [← HK2.out]; exact q9) y9)
           clear q9 y9))
      all_goals
        go_wp2_with (go_at_call 35; refine (hN2.out _ E9.out.1.since).mono ?_; rintro e w10 ⟨rfl, z1⟩; have E10 := Lib.hid (E9.out.1.below HS.out z1); have Y10 := Lib.hid (hY.out.trans ((Ext.of_below hAd.out).trans (E9.out.2.trans (Ext.of_below z1)))); clear z1)
        go_roundw
        case rel => exact ⟨F9, _, r', A ++ [(b, .pointer (some ⟨kn, 0, none⟩))], lr', rfl, rfl, E10, Y10, hK2, hL2, hdr3⟩
        case measure =>
          cases lr' with
          | nil => simp [hdK, hdB, intOf]; omega
          | cons y l => have := hms.out y (by simp); simp [hdK, hdB, intOf]; split <;> omega
theorem eachAnyG_pt {α : Type} {tell : List Nat → Int → Bool → Bool → Nat → List α} {S : (Nat → Prop) → List α → World → Prop} {w : World} {m : Nat} (hS : CbT S w.heap.size) (hf : CbTell tell S w (37) m) : ∀ N, EachAskG tell S w (.func (.func 37) #[] #[.pointer (some ⟨m, 0, none⟩)]) N
  | 0 => fun t w0 Q p hd hQ hT hN hO => by
    cases t with
    | nil => exact hN.elim
    | kid => exact hN.elim
    | node => simp only [tdep] at hd; omega
  | N + 1 => fun t w0 Q p hd hQ hT hN hO X v k bo cap F L bf bd hE hk8 hway htot => by
    cases t with
    | nil => exact hN.elim
    | kid => exact hN.elim
    | node bs val has leaf ks =>
      simp only [tdep] at hd
      simp only [tway] at hway
      obtain ⟨n, kk, rfl, h1, h2, h3, _⟩ := nodew_of hQ hT hO
      have hm2 := chain256 hO.2.2.2.2.2.1 hO.2.2.2.2.2.2
      obtain ⟨o1, o2, o3, _⟩ := hO
      refine each1G_pt hS hf N (eachAnyG_pt hS hf N) hQ h1 h2 h3 (by omega) o1 o2 o3 hm2 hE hk8 hway (T := L ++ tv tell (.node bs val has leaf ks) k) ?_ (by rw [List.length_append]; exact htot)
      simp only [tv, List.append_assoc]
theorem eachTopG_pt {α : Type} {tell : List Nat → Int → Bool → Bool → Nat → List α} {S : (Nat → Prop) → List α → World → Prop} {w w0 X : World} {m : Nat} (hS : CbT S w.heap.size) (hf : CbTell tell S w (37) m) {t : Tr} {Q : List NP} {p : Option Addr} (hQ : StoreP NoB w0 w Q) (hT : TreeV Q t (.pointer p)) (hO : TOk t) (hb : Below w.heap.size w X) {F : Nat → Prop} (hs : S F [] X) (hway : tway t ≤ 900000) (htot : (tv tell t []).length ≤ 2000) :
    Calls Tryd.prog 20 #[.pointer p, .func (.func 37) #[] #[.pointer (some ⟨m, 0, none⟩)]] X fun e X' => e = .returned (.tuple #[]) ∧ ∃ F', S F' (tv tell t []) X' ∧ Mod F X X' ∧ ∀ j, F' j → F j ∨ X.heap.size ≤ j := by
  obtain ⟨w1, hw1⟩ : ∃ w1, w1 = X.alloc (.cells #[.func (.func 37) #[] #[.pointer (some ⟨m, 0, none⟩)]] 59) := ⟨_, rfl⟩
  have hbx : w1.heap[X.heap.size]? = some (.cells [.func (.func 37) #[] #[.pointer (some ⟨m, 0, none⟩)]].toArray 59 (0, 0)) := by rw [hw1]; exact heap_alloc_new X _
  have hA1 : Below X.heap.size X w1 := by rw [hw1]; exact (Below.refl _ X).alloc (Nat.le_refl _) _
  have hs1 : w1.heap.size = X.heap.size + 1 := by rw [hw1, World.size_alloc]
  have hE : Hid (∀ t', Calls Tryd.prog 40 #[.slice none 0 0, .pointer p, .pointer (some ⟨X.heap.size, 0, none⟩), .pointer (some ⟨w1.heap.size, 0, none⟩)] (w1.alloc (.cells #[eachF X.heap.size w1.heap.size] t')) fun e X' => e = .returned (.tuple #[]) ∧ ∃ F', S F' (tv tell t []) X' ∧ Mod F X X' ∧ ∀ j, F' j → F j ∨ X.heap.size ≤ j) := fun t' => by
    have hA2 : Below w1.heap.size w1 (w1.alloc (.cells #[eachF X.heap.size w1.heap.size] t')) := (Below.refl _ w1).alloc (Nat.le_refl _) _
    have hA : Below X.heap.size X (w1.alloc (.cells #[eachF X.heap.size w1.heap.size] t')) := hA1.trans (hA2.mono hA1.size)
    have hF : ∀ b, X.heap.size ≤ b → ¬ F b := fun b h q => by have := hS.high F [] X hs b q; omega
    rcases hT with ⟨rfl, e⟩ | ⟨hn, hT⟩
    · obtain rfl : p = none := by simpa using e
      refine (each1_nil _ _ _).mono ?_
      rintro e w' ⟨rfl, rfl⟩
      exact ⟨rfl, F, hS.keep F [] X _ hs fun j hj => hA.block j (hS.high F [] X hs j hj), Mod.of_below hA, fun j hj => Or.inl hj⟩
    · have hEA : EaS S w X.heap.size w1.heap.size (.func (.func 37) #[] #[.pointer (some ⟨m, 0, none⟩)]) (eachF X.heap.size w1.heap.size) (.slice none 0 0) [] none 0 F [] (w1.alloc (.cells #[eachF X.heap.size w1.heap.size] t')) := by
        refine ⟨hb.trans (hA.mono hb.size), WayAt.nil _, fun g e => (by cases e), hS.keep F [] X _ hs fun j hj => hA.block j (hS.high F [] X hs j hj), fun g e => (by cases e), ?_, ?_, ⟨hF _ (Nat.le_refl _), by simp⟩, ⟨hF _ (by omega), by simp⟩⟩
        · rw [cell_of_blk ((hA2.block _ (Array.getElem?_eq_some_iff.1 hbx).1).trans hbx)]; rfl
        · rw [cell_of_blk (c := [eachF X.heap.size w1.heap.size]) (t := t') (heap_alloc_new w1 _)]; rfl
      refine (eachAnyG_pt hS hf (tdep t) t (Nat.le_refl _) hQ hT hn hO hEA (by simp) (by simpa using hway) (by simpa using htot)).mono ?_
      rintro e X' ⟨rfl, F', q, q1, q2⟩
      have q3 := q.st
      simp only [List.nil_append] at q3
      refine ⟨rfl, F', q3, (Mod.of_below hA).then q1 fun i _ r => ?_, fun j hj => ?_⟩
      · rcases r with r | r
        · cases r
        · exact r
      · rcases q2 j hj with r | r
        · exact Or.inl r
        · exact Or.inr (Nat.le_trans hA.size r)
  unfold eachF at hE
  generalize tv tell t [] = T at *
  clear hQ hb hT hO hbx hA1 hs1 hway htot hs hS hf
  go_enter Tryd.func20, Tryd.ntmps20
  go_upto_region 1 with fail
  rw [← hw1]
  clear hw1
  go_wp2_with (go_at_call 40; refine (hE.out _).mono ?_; rintro e w' ⟨rfl, q⟩; have q := Lib.hid q)
  go_end0
  exact ⟨rfl, q.out⟩
end Go.Proofs.YtgijnjdcpipfiaaDoor
/- canon.Fine. -/
namespace Go.Proofs.YtgijnjdcpipfiaaDoor
open Go.RowKit
/-- what Fine is told: whether a node is fine -/
def fnT (key : List Nat) (val : Int) (has leaf : Bool) (m : Nat) : List Bool := [!((!leaf && decide ((if has then m + 1 else m) < 2)) || (has && decide (65535 < key.length)))]
/-- whether a tree is fine -/
def fineB (t : Tr) : Bool := (tv fnT t []).all id
def SFin (lo m : Nat) (F : Nat → Prop) (L : List Bool) (w : World) : Prop := w.heap[m]? = some (.cells [.bool (L.all id)].toArray 4 (0, 0)) ∧ (F = fun j => j = m) ∧ lo ≤ m
theorem sfn_cb (lo m : Nat) : CbT (SFin lo m) lo := by
  refine ⟨fun F L w w' ⟨h1, h2, h3⟩ hk => ⟨(hk m (by rw [h2])).trans h1, h2, h3⟩, fun F L w ⟨h1, h2, h3⟩ j hj => ?_, fun F L w ⟨h1, h2, h3⟩ j hj => ?_⟩
  · subst h2; have hj : j = m := hj; rw [hj]; exact h3
  · subst h2; have hj : j = m := hj; rw [hj]; exact (Array.getElem?_eq_some_iff.1 h1).1
set_option maxHeartbeats 1000000 in
theorem fine_cbt (w : World) (m : Nat) : CbTell fnT (SFin w.heap.size m) w (24) m := fun F L X n bs val has leaf mm kk a nn c key ⟨h1, h2, h3⟩ hN hK hn hv0 hv1 hmm hb hL => by
  have hV := Lib.hid (hN.val X (Below.refl _ _))
  have hKd := Lib.hid (hN.kind X (Below.refl _ _))
  have hOc := Lib.hid (hN.occ X (Below.refl _ _))
  have hf := frozen_of_blk h1 0
  have hcell : X.cell? ⟨m, 0, none⟩ = some (.bool (L.all id)) := by rw [cell_of_blk h1]; rfl
  have hMy := Lib.hid (keys_may (w := X) (a := a) (n := nn) (c := c))
  have hE : Hid (∃ F', SFin w.heap.size m F' (L ++ [false]) (X.setCell ⟨m, 0, none⟩ (.bool false)) ∧ Mod F X (X.setCell ⟨m, 0, none⟩ (.bool false)) ∧ ∀ j, F' j → F j ∨ X.heap.size ≤ j) := by
    refine ⟨F, ⟨?_, h2, h3⟩, (Mod.refl _ X).setCell ⟨m, 0, none⟩ _ (fun _ => by rw [h2]), fun j hj => Or.inl hj⟩
    rw [setCell_list _ _ _ _ _ _ h1, setRow_heap _ _ _ _ _ _ h1]
    simp
  have hE0 : Hid (∃ F', SFin w.heap.size m F' (L ++ [true]) X ∧ Mod F X X ∧ ∀ j, F' j → F j ∨ X.heap.size ≤ j) := ⟨F, ⟨by rw [h1]; simp, h2, h3⟩, Mod.refl _ _, fun j hj => Or.inl hj⟩
  have hkl := hK.len
  obtain ⟨o, ho⟩ : ∃ o, o = if has then mm + 1 else mm := ⟨_, rfl⟩
  rw [← ho] at hOc
  have htell : fnT key val has leaf mm = [!((!leaf && decide (o < 2)) || (has && decide (65535 < nn)))] := by rw [ho, ← hkl]; rfl
  rw [htell]
  have hkd := kindOf_cases mm
  obtain ⟨kd, hkde⟩ : ∃ kd, kd = kindOf mm := ⟨_, rfl⟩
  rw [← hkde] at hKd hkd
  generalize L.all id = V at *
  clear htell ho hkl h1 h2 h3 hN hK hb hkde
  cases leaf with
  | true =>
    cases has with
    | false =>
      have e : (!((!true && decide (o < 2)) || (false && decide (65535 < nn)))) = true := rfl
      rw [e]
      clear e hkd
      go_enter Tryd.func24, Tryd.ntmps24
      go_wp2_with (first
        | (go_at_call 22; refine hV.out.mono ?_; rintro e w' ⟨rfl, rfl⟩)
        | (go_at_call 25; refine hKd.out.mono ?_; rintro e w' ⟨rfl, rfl⟩))
      go_end0
      exact ⟨rfl, hE0.out⟩
    | true =>
      by_cases hl : 65535 < nn
      · have e : (!((!true && decide (o < 2)) || (true && decide (65535 < nn)))) = false := by simp [hl]
        rw [e]
        have hMy2 : Hid (Calls Tryd.prog 27 #[.slice a nn c] X fun e w' => e = .returned (.int .i64 8) ∧ X = w') := by have := hMy.out; rw [if_pos hl] at this; exact this
        clear e hkd hMy hl
        go_enter Tryd.func24, Tryd.ntmps24
        go_wp2_with (first
          | (go_at_call 22; refine hV.out.mono ?_; rintro e w' ⟨rfl, rfl⟩)
          | (go_at_call 25; refine hKd.out.mono ?_; rintro e w' ⟨rfl, rfl⟩)
          | (go_at_call 27; refine hMy2.out.mono ?_; rintro e w' ⟨rfl, rfl⟩))
        go_end0
        exact ⟨rfl, hE.out⟩
      · have e : (!((!true && decide (o < 2)) || (true && decide (65535 < nn)))) = true := by simp [hl]
        rw [e]
        have hMy2 : Hid (Calls Tryd.prog 27 #[.slice a nn c] X fun e w' => e = .returned (.int .i64 0) ∧ X = w') := by have := hMy.out; rw [if_neg hl] at this; exact this
        clear e hkd hMy hl
        go_enter Tryd.func24, Tryd.ntmps24
        go_wp2_with (first
          | (go_at_call 22; refine hV.out.mono ?_; rintro e w' ⟨rfl, rfl⟩)
          | (go_at_call 25; refine hKd.out.mono ?_; rintro e w' ⟨rfl, rfl⟩)
          | (go_at_call 27; refine hMy2.out.mono ?_; rintro e w' ⟨rfl, rfl⟩))
        go_end0
        exact ⟨rfl, hE0.out⟩
  | false =>
    have hk1 : ((kd : Int) == 1) = false := by rw [beq_eq_false_iff_ne]; omega
    have hk1' : ((kd : Int) != 1) = true := by rw [bne_iff_ne]; omega
    have hKd2 : Hid (Calls Tryd.prog 25 #[.pointer (some ⟨n, 0, none⟩)] X fun e w' => e = .returned (.int .i64 (kd : Nat)) ∧ X = w') := hKd
    clear hKd hkd
    by_cases ho : o < 2
    · have e : (!((!false && decide (o < 2)) || (has && decide (65535 < nn)))) = false := by simp [ho]
      rw [e]
      have j1 : (o : Int) < 2 := by omega
      clear e ho hMy
      go_enter Tryd.func24, Tryd.ntmps24
      go_wp2_with (first
        | (go_at_call 22; refine hV.out.mono ?_; rintro e w' ⟨rfl, rfl⟩)
        | (go_at_call 25; refine hKd2.out.mono ?_; rintro e w' ⟨rfl, rfl⟩)
        | (go_at_call 26; refine hOc.out.mono ?_; rintro e w' ⟨rfl, rfl⟩))
      go_end0
      exact ⟨rfl, hE.out⟩
    · have j1 : ¬ (o : Int) < 2 := by omega
      cases has with
      | false =>
        have e : (!((!false && decide (o < 2)) || (false && decide (65535 < nn)))) = true := by simp [ho]
        rw [e]
        clear e ho hMy
        go_enter Tryd.func24, Tryd.ntmps24
        go_wp2_with (first
          | (go_at_call 22; refine hV.out.mono ?_; rintro e w' ⟨rfl, rfl⟩)
          | (go_at_call 25; refine hKd2.out.mono ?_; rintro e w' ⟨rfl, rfl⟩)
          | (go_at_call 26; refine hOc.out.mono ?_; rintro e w' ⟨rfl, rfl⟩))
        go_end0
        exact ⟨rfl, hE0.out⟩
      | true =>
        by_cases hl : 65535 < nn
        · have e : (!((!false && decide (o < 2)) || (true && decide (65535 < nn)))) = false := by simp [hl]
          rw [e]
          have hMy2 : Hid (Calls Tryd.prog 27 #[.slice a nn c] X fun e w' => e = .returned (.int .i64 8) ∧ X = w') := by have := hMy.out; rw [if_pos hl] at this; exact this
          clear e ho hMy hl
          go_enter Tryd.func24, Tryd.ntmps24
          go_wp2_with (first
            | (go_at_call 22; refine hV.out.mono ?_; rintro e w' ⟨rfl, rfl⟩)
            | (go_at_call 25; refine hKd2.out.mono ?_; rintro e w' ⟨rfl, rfl⟩)
            | (go_at_call 26; refine hOc.out.mono ?_; rintro e w' ⟨rfl, rfl⟩)
            | (go_at_call 27; refine hMy2.out.mono ?_; rintro e w' ⟨rfl, rfl⟩))
          go_end0
          exact ⟨rfl, hE.out⟩
        · have e : (!((!false && decide (o < 2)) || (true && decide (65535 < nn)))) = true := by simp [hl, ho]
          rw [e]
          have hMy2 : Hid (Calls Tryd.prog 27 #[.slice a nn c] X fun e w' => e = .returned (.int .i64 0) ∧ X = w') := by have := hMy.out; rw [if_neg hl] at this; exact this
          clear e ho hMy hl
          go_enter Tryd.func24, Tryd.ntmps24
          go_wp2_with (first
            | (go_at_call 22; refine hV.out.mono ?_; rintro e w' ⟨rfl, rfl⟩)
            | (go_at_call 25; refine hKd2.out.mono ?_; rintro e w' ⟨rfl, rfl⟩)
            | (go_at_call 26; refine hOc.out.mono ?_; rintro e w' ⟨rfl, rfl⟩)
            | (go_at_call 27; refine hMy2.out.mono ?_; rintro e w' ⟨rfl, rfl⟩))
          go_end0
          exact ⟨rfl, hE0.out⟩
set_option maxHeartbeats 1000000 in
theorem fine_any {w0 w : World} {Q : List NP} {t : Tr} {p : Option Addr} (hQ : StoreP NoB w0 w Q) (hT : TreeV Q t (.pointer p)) (hO : TOk t) (hway : tway t ≤ 900000) (htot : (tv fnT t []).length ≤ 2000) : Calls Tryd.prog 9 #[.pointer p] w (belowPost (.bool (fineB t)) w) := by
  have hA : Below w.heap.size w (w.alloc (.cells #[.bool true] 4)) := (Below.refl _ w).alloc (Nat.le_refl _) _
  have hE := Lib.hid (eachTopG_fn (sfn_cb w.heap.size w.heap.size) (fine_cbt w w.heap.size) hQ hT hO hA (F := fun j => j = w.heap.size) ⟨heap_alloc_new w _, rfl, Nat.le_refl _⟩ hway htot)
  have HA := Lib.hid hA
  unfold fineB
  generalize tv fnT t [] = T at *
  clear hQ hT hO hA
  go_enter Tryd.func9, Tryd.ntmps9
  go_wp2_with (go_at_call 20; refine hE.out.mono ?_; rintro e w2 ⟨rfl, F2, ⟨z1, z2, z3⟩, m2, _⟩
               have c2 : w2.cell? ⟨w.heap.size, 0, none⟩ = some (.bool (T.all id)) := (by rw [cell_of_blk z1]; rfl)
               have B2 := Lib.hid (HA.out.trans (m2.belowLo (fun j hj => (by have hj : j = w.heap.size := hj; rw [hj]; exact Nat.le_refl _)) HA.out.size))
               clear z1 z2 z3 m2)
  go_ret
  exact ⟨rfl, B2.out⟩
end Go.Proofs.YtgijnjdcpipfiaaDoor
/- canon.Points. -/
namespace Go.Proofs.YtgijnjdcpipfiaaDoor
open Go.RowKit
abbrev cpT : TypeId := 77
/-- a point's kind, and whether it has a value, as one number -/
def pcode (kd : Nat) (hb : Bool) : Int := ((2 * kd + (if hb then 1 else 0) : Nat) : Int)
theorem pcode_ok {kd : Nat} {hb : Bool} (h : kd ≤ 256) : 0 ≤ pcode kd hb ∧ pcode kd hb < 18446744073709551616 := by unfold pcode; cases hb <;> simp <;> omega
/-- what Points is told -/
def ptT (key : List Nat) (val : Int) (has leaf : Bool) (m : Nat) : PL := if leaf then [] else [(key, pcode (kindOf m) has)]
def flatP (es : EL) : List Value := es.flatMap fun e => [e.1, .int .i64 (e.2 / 2), .bool (decide (e.2 % 2 = 1))]
theorem flatP_snoc (es : EL) (v : Value) (kd : Nat) (hb : Bool) : flatP (es ++ [(v, pcode kd hb)]) = flatP es ++ [v, .int .i64 (kd : Nat), .bool hb] := by
  have h1 : pcode kd hb / 2 = (kd : Nat) := by unfold pcode; cases hb <;> simp <;> omega
  have h2 : decide (pcode kd hb % 2 = 1) = hb := by
    unfold pcode
    cases hb
    · simp only [Bool.false_eq_true, if_false, decide_eq_false_iff_not]; omega
    · simp only [if_true, decide_eq_true_eq]; omega
  simp only [flatP, List.flatMap_append, List.flatMap_cons, List.flatMap_nil, List.append_nil, h1, h2]
theorem flatP_len (es : EL) : (flatP es).length = es.length * 3 := by
  induction es with
  | nil => rfl
  | cons e es ih => simp only [flatP, List.flatMap_cons, List.length_append] at ih ⊢; rw [ih]; simp; omega
theorem flatP_get (es : EL) (i : Nat) (h : i < es.length) : (flatP es)[i * 3]? = some (es[i]).1 ∧ (flatP es)[i * 3 + 1]? = some (.int .i64 ((es[i]).2 / 2)) ∧ (flatP es)[i * 3 + 2]? = some (.bool (decide ((es[i]).2 % 2 = 1))) := by
  induction es generalizing i with
  | nil => simp at h
  | cons e es ih =>
    cases i with
    | zero => exact ⟨rfl, rfl, rfl⟩
    | succ i =>
      have := ih i (by simpa using h)
      have e1 : (i + 1) * 3 = 3 + i * 3 := by omega
      have hd : ∀ q, (flatP (e :: es))[3 + q]? = (flatP es)[q]? := fun q => by
        have : flatP (e :: es) = [e.1, .int .i64 (e.2 / 2), .bool (decide (e.2 % 2 = 1))] ++ flatP es := rfl
        rw [this, List.getElem?_append_right (by simp)]
        simp
      rw [e1, hd, show 3 + i * 3 + 1 = 3 + (i * 3 + 1) by omega, hd, show 3 + i * 3 + 2 = 3 + (i * 3 + 2) by omega, hd]
      exact this
theorem cpInfo : (Tryd.prog.info? cpT).map (fun i => (i.zero, i.size, i.bytes)) = some (some (.agg #[.slice none 0 0, .int .i64 0, .bool false]), 3, 40) := by kernel_rfl
theorem point_news (w : World) (x : Value) (k : Nat) (hb : Bool) (t : TypeId) : ∀ j u, ([x, .int .i64 (k : Nat), .bool hb] : List Value)[j]? = some u → (w.alloc (.cells #[x, .int .i64 (k : Nat), .bool hb] t)).cell? ((⟨w.heap.size, 0, none⟩ : Addr).add j) = some u := fun j u h => by
  have hb : (w.alloc (.cells #[x, .int .i64 (k : Nat), .bool hb] t)).heap[w.heap.size]? = some (.cells [x, .int .i64 (k : Nat), .bool hb].toArray t (0, 0)) := heap_alloc_new w _
  rw [add0, cell_of_blk hb]
  exact h
theorem oneP3 {a : Option Addr} {n c k : Nat} {hb : Bool} : ∀ u ∈ ([.slice a n c, .int .i64 (k : Nat), .bool hb] : List Value), u.oneCell' = true := by
  intro u hu
  simp only [List.mem_cons, List.not_mem_nil, or_false] at hu
  rcases hu with rfl | rfl | rfl <;> rfl
/-! Points. -/
/-- what Points' callback holds -/
structure SPs (lo bl : Nat) (F : Nat → Prop) (L : PL) (w : World) (v : Value) (es : EL) (bo : Option Nat) : Prop where
  var : w.heap[bl]? = some (.cells [v].toArray 47 (0, 0))
  own : OwnS 3 cpT w v L.length (flatP es) bo
  ents : Ents w es L
  fl : F bl
  fo : ∀ g, bo = some g → F g ∧ g ≠ bl
  fe : ∀ i (h : i < es.length) (p : Addr) n c, (es[i]).1 = .slice (some p) n c → F p.block ∧ p.block ≠ bl ∧ bo ≠ some p.block
  low : ∀ j, F j → lo ≤ j
  high : ∀ j, F j → j < w.heap.size
def SPst (lo bl : Nat) (F : Nat → Prop) (L : PL) (w : World) : Prop := ∃ v es bo, SPs lo bl F L w v es bo
theorem sps_cb (lo bl : Nat) : CbT (SPst lo bl) lo := by
  refine ⟨fun F L w w' ⟨v, es, bo, h⟩ hk => ?_, fun F L w ⟨v, es, bo, h⟩ j hj => h.low j hj, fun F L w ⟨v, es, bo, h⟩ j hj => h.high j hj⟩
  refine ⟨v, es, bo, (hk bl h.fl).trans h.var, h.own.keep fun g e => hk g (h.fo g e).1, ⟨h.ents.1, fun i h1 h2 => ?_⟩, h.fl, h.fo, h.fe, h.low, fun j hj => ?_⟩
  · obtain ⟨⟨a, n, c, e, q⟩, r⟩ := h.ents.2 i h1 h2
    refine ⟨⟨a, n, c, e, q.len, ⟨q.at_.1, fun j hj => ?_⟩, q.cap, q.capm, q.nil⟩, r⟩
    obtain ⟨p, ep, z1, z2⟩ := q.at_.2 j hj
    subst ep
    have hF := (h.fe i h1 p n c e).1
    have e1 := hk p.block hF
    refine ⟨p, rfl, ?_, ?_⟩
    · rw [add_block] at z1 ⊢
      have : w'.heap[p.block]? = some _ := e1.trans (Array.getElem?_eq_getElem z1)
      exact (Array.getElem?_eq_some_iff.1 this).1
    · rw [← z2]
      unfold World.cell?
      rw [add_block, e1]
  · have e1 := hk j hj
    have : w'.heap[j]? = some _ := e1.trans (Array.getElem?_eq_getElem (h.high j hj))
    exact (Array.getElem?_eq_some_iff.1 this).1
/-- one more -/
theorem SPs.step {lo bl : Nat} {F : Nat → Prop} {L : PL} {w wc w1 w2 w3 : World} {v v2 : Value} {es : EL} {bo bo2 : Option Nat} (h : SPs lo bl F L w v es bo) (hlo : lo ≤ w.heap.size) {x : List Nat} {kd : Nat} {hb : Bool} {a6 : Option Addr} {n6 c6 : Nat}
    (hb1 : Below w.heap.size w wc) (hs : Sl wc a6 n6 c6 x) (hn : ∀ p : Addr, a6 = some p → w.heap.size ≤ p.block ∧ p.block < wc.heap.size) (hkd : kd ≤ 256) (hb2 : Below wc.heap.size wc w1)
    (ho : OwnS 3 cpT w2 v2 (L.length + 1) (flatP es ++ [.slice a6 n6 c6, .int .i64 (kd : Nat), .bool hb]) bo2) (hm : Mod (fun j => bo = some j) w1 w2) (hn2 : NewOr w1 bo bo2) (h3 : w3 = w2.setCell ⟨bl, 0, none⟩ v2) :
    ∃ F', SPst lo bl F' (L ++ [(x, pcode kd hb)]) w3 ∧ Mod F w w3 ∧ ∀ j, F' j → F j ∨ w.heap.size ≤ j := by
  have s1 := hb1.size
  have s2 := hb2.size
  have s3 := hm.size
  have hbl := h.high bl h.fl
  have hB : Below w.heap.size w w1 := hb1.trans (hb2.mono s1)
  have hv : w2.heap[bl]? = some (.cells [v].toArray 47 (0, 0)) := (hm.same bl (by omega) (fun e => (h.fo bl e).2 rfl)).trans ((hB.block bl hbl).trans h.var)
  have hM2 : Mod F w w2 := (Mod.of_below hB).trans (hm.mono fun j _ e => (h.fo j e).1)
  have hM3 : Mod F w w3 := by rw [h3]; exact hM2.setCell ⟨bl, 0, none⟩ _ (fun _ => h.fl)
  have s4 : w3.heap.size = w2.heap.size := by rw [h3]; simp [World.setCell]
  have hbo2 : ∀ g, bo2 = some g → (F g ∨ w.heap.size ≤ g) ∧ g ≠ bl ∧ g < w2.heap.size := fun g e => by
    subst e
    refine ⟨?_, ?_, ho.lt⟩
    · rcases hn2 with e | ⟨g', e, hg⟩
      · exact Or.inl (h.fo g e.symm).1
      · cases e; exact Or.inr (by omega)
    · rcases hn2 with e | ⟨g', e, hg⟩
      · exact (h.fo g e.symm).2
      · cases e; omega
  have hneq : ∀ p : Addr, a6 = some p → bo2 ≠ some p.block := fun p e e2 => by
    have h1 := hn p e
    rcases hn2 with e3 | ⟨g', e3, hg⟩
    · rw [e3] at e2
      have := h.high _ (h.fo _ e2).1
      omega
    · rw [e3] at e2
      cases e2
      omega
  have hold : ∀ i (hi : i < es.length) (p : Addr) n c, (es[i]).1 = .slice (some p) n c → bo2 ≠ some p.block := fun i hi p n c e e2 => by
    have h1 := h.fe i hi p n c e
    rcases hn2 with e3 | ⟨g', e3, hg⟩
    · exact h1.2.2 (e3 ▸ e2)
    · rw [e3] at e2
      cases e2
      have := h.high _ h1.1
      omega
  refine ⟨fun j => F j ∨ (w.heap.size ≤ j ∧ j < w3.heap.size), ⟨v2, es ++ [(.slice a6 n6 c6, pcode kd hb)], bo2, ?_, ?_, ?_, Or.inl h.fl, ?_, ?_, ?_, ?_⟩, hM3, fun j hj => by rcases hj with e | e; exact Or.inl e; exact Or.inr e.1⟩
  · rw [h3, setCell_list _ _ _ _ _ _ hv, setRow_heap _ _ _ _ _ _ hv]; rfl
  · rw [flatP_snoc, List.length_append]
    rw [h3]
    refine OwnS.keep ho fun g e => Below.heap_setCell _ _ _ _ (hbo2 g e).2.1
  · have hm3 : Mod (fun j => bo = some j ∨ j = bl) w1 w3 := by rw [h3]; exact (hm.mono (fun j _ e => Or.inl e)).setCell ⟨bl, 0, none⟩ _ (fun _ => Or.inr rfl)
    have hE : Ents w3 es L := ents_keep (h.ents.below hB) hm3 (fun i hi p n c e t => by
      have q := h.fe i hi p n c e
      rcases t with t | t
      · exact q.2.2 t
      · exact q.2.1 t)
    have hs1 := hs.below hb2
    refine hE.snoc ⟨⟨_, _, _, rfl, hs1.len, bytes_keep hs1.at_ hm3 (fun p e t => ?_), hs1.cap, hs1.capm, hs1.nil⟩, rfl, pcode_ok hkd⟩
    have q := hn p e
    rcases t with t | t
    · have := h.high _ (h.fo _ t).1; omega
    · omega
  · intro g e
    have q := hbo2 g e
    exact ⟨by rcases q.1 with r | r; exact Or.inl r; exact Or.inr ⟨r, by omega⟩, q.2.1⟩
  · intro i hi p n c e
    by_cases hi2 : i < es.length
    · rw [List.getElem_append_left hi2] at e
      have q := h.fe i hi2 p n c e
      exact ⟨Or.inl q.1, q.2.1, hold i hi2 p n c e⟩
    · have ei : i = es.length := by simp at hi; omega
      subst ei
      have e' : (Value.slice a6 n6 c6) = .slice (some p) n c := by simpa using e
      injection e' with e'
      have q := hn p e'
      exact ⟨Or.inr ⟨q.1, by omega⟩, by omega, hneq p e'⟩
  · intro j hj
    rcases hj with e | e
    · exact h.low j e
    · omega
  · intro j hj
    rcases hj with e | e
    · have := h.high j e; omega
    · exact e.2
set_option maxHeartbeats 4000000 in
set_option maxRecDepth 100000 in
theorem pts_cbt (wN : World) (bl : Nat) : CbTell ptT (SPst wN.heap.size bl) wN (37) bl := fun F L w n bs y has leaf mm kk ka kn kc x ⟨v, es, bo, h⟩ hN hK hkn hy hy2 hmm hb hL => by
  have hV := Lib.hid (hN.val w (Below.refl _ _))
  have hKd := Lib.hid hN.kind
  have hE0 : Hid (∃ F', SPst wN.heap.size bl F' L w ∧ Mod F w w ∧ ∀ j, F' j → F j ∨ w.heap.size ≤ j) := ⟨F, ⟨v, es, bo, h⟩, Mod.refl _ _, fun j hj => Or.inl hj⟩
  obtain ⟨va, vc, hv, _⟩ := h.own.len
  subst hv
  have c1 : w.cell? ⟨bl, 0, none⟩ = some (.slice va L.length vc) := by rw [cell_of_blk h.var]; rfl
  have f1 := frozen_of_blk h.var 0
  have hcl : Hid (Calls Tryd.prog 23 #[.slice ka kn kc] w.drew fun e w' => ∃ a6 c6, e = .returned (.slice a6 kn c6) ∧ Sl w' a6 kn c6 x ∧ Below w.heap.size w w' ∧ ∀ p : Addr, a6 = some p → w.heap.size ≤ p.block ∧ p.block < w'.heap.size) :=
    (clone_new (hK.below (Below.refl _ _).drew) (by omega)).mono fun e w' ⟨a6, c6, e1, e2, e3, e4⟩ => ⟨a6, c6, e1, e2, (Below.refl _ w).drew.trans e3, e4⟩
  have H := Lib.hid h
  have hvar := Lib.hid h.var
  have hbl := Lib.hid (h.high bl h.fl)
  have hlo := Lib.hid hb.size
  have hb1 : Hid (L.length + 1 ≤ maxLen) := by show _ ≤ _; unfold maxLen; omega
  have hb2 : Hid ((L.length + 1) * 40 ≤ 140737488355328) := by show _ ≤ _; omega
  have hfo : Hid (∀ g, bo = some g → g ≠ bl) := fun g e => (h.fo g e).2
  obtain ⟨kd, ekd⟩ : ∃ kd, kd = kindOf mm := ⟨_, rfl⟩
  have hkd : kd ≤ 256 := by rw [ekd]; have := kindOf_cases mm; omega
  have hkd1 : kd ≠ 1 := by rw [ekd]; have := kindOf_cases mm; omega
  clear h hb hK hN
  cases leaf with
  | true =>
    have e : L ++ ptT x y has true mm = L := by simp [ptT]
    rw [e]
    clear e
    go_enter Tryd.func37, Tryd.ntmps37
    go_wp2_with (go_at_call 25; refine (hKd.out w (Below.refl _ _)).mono ?_; rintro e w' ⟨rfl, rfl⟩)
    go_end0
    exact ⟨rfl, hE0.out⟩
  | false =>
  clear hE0
  have e : ptT x y has false mm = [(x, pcode kd has)] := by rw [ekd]; rfl
  rw [e]
  have hkc : ((kd : Int) == 1) = false := by rw [beq_eq_false_iff_ne]; omega
  have hKk : Hid (∀ X, Below w.heap.size w X → Calls Tryd.prog 25 #[.pointer (some ⟨n, 0, none⟩)] X fun e w' => e = .returned (.int .i64 (kd : Nat)) ∧ X = w') := fun X hb => by rw [ekd]; exact hKd.out X hb
  clear hKd ekd hkd1 e
  go_enter Tryd.func37, Tryd.ntmps37
  go_wp2_with (first
    | (go_at_call 25; refine (hKk.out w (Below.refl _ _)).mono ?_; rintro e w' ⟨rfl, rfl⟩)
    | (go_at_call 22; refine hV.out.mono ?_; rintro e w' ⟨rfl, rfl⟩))
  go_region_law (first
    | (refine step_append_s rfl (.tmp 15) (.tmp 22) 47 rfl cpT _ 3 40 Tryd.underlying47 cpInfo rfl (by omega) (.slice va L.length vc) rfl L.length (flatP es) bo (ho1.out _) ⟨w1.heap.size, 0, none⟩ 1 1 [.slice a6 kn c6, .int .i64 (kd : Nat), .bool has] rfl rfl (hnw.out) (h1.out) hb1.out hb2.out ?_; intro v2 w2 bo2 HO HM HN; obtain ⟨a2, c2, hv2, _⟩ := HO.out.len; subst hv2; have hh := Lib.hid ((HM.out.same bl (by rw [World.size_alloc]; have := hbl.out; have := B1.out.size; omega) (fun e => hfo.out bl e rfl)).trans ((Below.heap_alloc _ _ _ (by have := hbl.out; have := B1.out.size; omega)).trans hv1.out)); have z1 : w2.cell? ⟨bl, 0, none⟩ = some (.slice va L.length vc) := by rw [cell_of_blk hh.out]; rfl
       have z2 := frozen_of_blk hh.out 0)
    | (go_simp; go_at_call 25; have g0 := B1; refine (hKk.out w1 B1.out).mono ?_; rintro e wk ⟨rfl, rfl⟩)
    | (go_simp; go_at_call 23; refine hcl.out.mono ?_; rintro e w1 ⟨a6, c6, rfl, s6, b6, n6⟩; have S6 := Lib.hid s6; have B1 := Lib.hid b6; have N6 := Lib.hid n6; have hv1 := Lib.hid ((b6.block bl hbl.out).trans hvar.out); have d1 : w1.cell? ⟨bl, 0, none⟩ = some (.slice va L.length vc) := by rw [cell_of_blk hv1.out]; rfl
       have ho1 : Hid (∀ o, OwnS 3 cpT (w1.alloc o) (.slice va L.length vc) L.length (flatP es) bo) := fun o => (H.out.own.below b6).below ((Below.refl _ w1).alloc (Nat.le_refl _) o)
       have d2 : ∀ o, (w1.alloc o).cell? ⟨bl, 0, none⟩ = some (.slice va L.length vc) := fun o => (((Below.refl _ w1).alloc (Nat.le_refl _) o).cell (p := ⟨bl, 0, none⟩) (cell_lt d1)).trans d1
       have hnw := Lib.hid (point_news w1 (.slice a6 kn c6) kd has cpT)
       have h1 := Lib.hid (oneP3 (a := a6) (n := kn) (c := c6) (k := kd) (hb := has))
       clear s6 b6 n6))
  all_goals
    have hst := Lib.hid (H.out.step hlo.out B1.out S6.out N6.out hkd ((Below.refl _ w1).alloc (Nat.le_refl _) _) HO.out HM.out HN.out rfl)
    (try simp only [Exit.then, Exit.inBlock])
    go_end0
    exact ⟨rfl, hst.out⟩
/-- points in memory -/
def PtsAt (w : World) (a : Option Addr) (n c : Nat) (l : PL) : Prop := ∃ (es : EL) (bo : Option Nat), OwnS 3 cpT w (.slice a n c) n (flatP es) bo ∧ Ents w es l ∧ l.length = n
def ptsPost (l : PL) (w : World) (e : Ending) (w' : World) : Prop := ∃ a c, e = .returned (.slice a l.length c) ∧ PtsAt w' a l.length c l ∧ Below w.heap.size w w'
theorem pts_of_own {w : World} {v : Value} {es : EL} {bo : Option Nat} {l : PL} (h : OwnS 3 cpT w v l.length (flatP es) bo) (he : Ents w es l) : ∃ a c, v = .slice a l.length c ∧ PtsAt w a l.length c l := by
  obtain ⟨a, c, rfl, _⟩ := h.len
  exact ⟨a, c, rfl, es, bo, h, he, rfl⟩
set_option maxHeartbeats 1000000 in
theorem pts_any {w0 w : World} {Q : List NP} {t : Tr} {p : Option Addr} (hQ : StoreP NoB w0 w Q) (hT : TreeV Q t (.pointer p)) (hO : TOk t) (hway : tway t ≤ 900000) (htot : (tv ptT t []).length ≤ 2000) : Calls Tryd.prog 17 #[.pointer p] w (ptsPost (tv ptT t []) w) := by
  obtain ⟨w4, hw4⟩ : ∃ w4, w4 = w.alloc (.cells #[.slice none 0 0] 47) := ⟨_, rfl⟩
  have hb4 : Below w.heap.size w w4 := by rw [hw4]; exact (Below.refl _ w).alloc (Nat.le_refl _) _
  have hv4 : w4.heap[w.heap.size]? = some (.cells [.slice none 0 0].toArray 47 (0, 0)) := by rw [hw4]; exact heap_alloc_new w _
  have hs4 : w4.heap.size = w.heap.size + 1 := by rw [hw4, World.size_alloc]
  have hS0 : SPst w.heap.size w.heap.size (fun j => j = w.heap.size) [] w4 :=
    ⟨_, [], none, hv4, OwnS.nil _ _ _, ents_nil _, rfl, (fun g e => by cases e), (fun i h => by simp at h), (fun j hj => by rw [hj]; exact Nat.le_refl _), (fun j hj => by rw [hj, hs4]; exact Nat.lt_succ_self _)⟩
  have hEa := Lib.hid (eachTopG_pt (sps_cb w.heap.size w.heap.size) (pts_cbt w w.heap.size) hQ hT hO hb4 hS0 hway htot)
  obtain ⟨T, hTe⟩ : ∃ T, T = tv ptT t [] := ⟨_, rfl⟩
  rw [← hTe] at hEa ⊢
  have HB4 := Lib.hid hb4
  have hfin : Hid (∀ F w5, Mod (fun j => j = w.heap.size) w4 w5 → SPst w.heap.size w.heap.size F T w5 → ∃ a c, w5.cell? ⟨w.heap.size, 0, none⟩ = some (.slice a T.length c) ∧ ptsPost T w (.returned (.slice a T.length c)) w5) := fun F w5 hm ⟨v, es, bo, h⟩ => by
    obtain ⟨a, c, rfl, hp⟩ := pts_of_own h.own h.ents
    refine ⟨a, c, by rw [cell_of_blk h.var]; rfl, a, c, rfl, hp, HB4.out.trans (hm.belowLo (fun j hj => ?_) HB4.out.size)⟩
    have hj : j = w.heap.size := hj
    rw [hj]; exact Nat.le_refl _
  clear hQ hT hO hTe hb4 hS0 hv4 hs4 hway htot
  go_enter Tryd.func17, Tryd.ntmps17
  go_upto_region 2 with fail
  rw [← hw4]
  clear hw4
  go_wp2_with (go_at_call 20; refine hEa.out.mono ?_; rintro e w5 ⟨rfl, F5, z2, z1, _⟩; obtain ⟨a5, c5, y1, y2⟩ := hfin.out F5 w5 z1 z2; have Y := Lib.hid y2; clear z1 z2 y2)
  go_ret
  exact Y.out
end Go.Proofs.YtgijnjdcpipfiaaDoor
/- alive of law 13. -/
namespace Go.Proofs.YtgijnjdcpipfiaaDoor
open Go.RowKit
theorem dec4 : decU 4 = [52] := Lib.decDigits_one (by omega)
theorem dec5 : decU 5 = [53] := Lib.decDigits_one (by omega)
theorem dec6 : decU 6 = [54] := Lib.decDigits_one (by omega)
theorem alT_shp : shpT alT = [52, 60, 48, 49, 61, 53, 58, 48, 50, 76, 61, 54, 62] := by
  have h : shpT alT = (decU 4 ++ [60]) ++ ([48, 49] ++ ((61 :: decU 5) ++ ((58 :: ([48, 50] ++ ([76] ++ ([] ++ ((61 :: decU 6) ++ [])) ++ []))) ++ [62]))) := rfl
  rw [h, dec4, dec5, dec6]; rfl
structure Al13 (w : World) (a : Addr) : Prop where
  shape : ∀ X, Below w.heap.size w X → Calls Tryd.prog 10 #[.pointer (some a)] X (belowPost (.string ⟨#[52, 60, 48, 49, 61, 53, 58, 48, 50, 76, 61, 54, 62]⟩) X)
  fine : ∀ X, Below w.heap.size w X → Calls Tryd.prog 9 #[.pointer (some a)] X (belowPost (.bool true) X)
  depth : ∀ X, Below w.heap.size w X → Calls Tryd.prog 15 #[.pointer (some a)] X (belowPost (.int .i64 2) X)
  count : ∀ X, Below w.heap.size w X → Calls Tryd.prog 16 #[.pointer (some a)] X (belowPost (.int .i64 2) X)
  list : ∀ X, Below w.heap.size w X → Calls Tryd.prog 8 #[.pointer (some a)] X fun e w' => ∃ b c, e = .returned (.slice b 2 c) ∧ Below X.heap.size X w'
  points : ∀ X, Below w.heap.size w X → Calls Tryd.prog 17 #[.pointer (some a)] X fun e w' => ∃ b c, e = .returned (.slice b 1 c) ∧ Below X.heap.size X w'
theorem al13_of {w0 w : World} {Q : List NP} {t : Tr} {v : Option Addr} (hP : PTab w) (hQ : StoreP NoB w0 w Q) (hT : TreeV Q t (.pointer v)) (hO : TOk t) (hC : Can t) (he : tl t = alL) : ∃ a, v = some a ∧ Al13 w a := by
  have hN : IsN t := hT.node (by rw [he]; simp [alL])
  obtain rfl : t = alT := can_eq hN trivial hO alT_ok hC alT_can (he.trans alT_l.symm)
  obtain ⟨a, rfl⟩ : ∃ a, v = some a := by
    rcases hT with ⟨h, _⟩ | ⟨_, hT⟩
    · cases h
    · obtain ⟨i, p, h0, h1, h2, _⟩ := hT
      exact ⟨_, by simpa using h2⟩
  refine ⟨a, rfl, fun X hb => ?_, fun X hb => ?_, fun X hb => ?_, fun X hb => ?_, fun X hb => ?_, fun X hb => ?_⟩
  · have := canon_shape (hP.below hb) (hQ.below hb) hT hO (by have h := alT_shp; show (shpT alT).length ≤ _; rw [h]; simp) (by simp [alT, tway])
    rw [alT_shp] at this
    exact this
  · exact fine_any (hQ.below hb) hT hO (by simp [alT, tway]) (by simp [alT, tv, fnT])
  · exact depth_any 2 (by omega) alT (by simp [alT, tdep]) (hQ.below hb) hT hO
  · exact count_any (hQ.below hb) hT hO (by simp [alT, tway]) (by rw [alT_l]; simp [alL])
  · exact (list_any (hQ.below hb) hT hO (by simp [alT, tway]) (by rw [alT_l]; simp [alL])).mono fun e w' ⟨b, c, q1, q2, q3⟩ => ⟨b, c, q1, q3⟩
  · exact (pts_any (hQ.below hb) hT hO (by simp [alT, tway]) (by simp [alT, tv, ptT])).mono fun e w' ⟨b, c, q1, q2, q3⟩ => ⟨b, c, q1, q3⟩
set_option maxHeartbeats 2000000 in
set_option maxRecDepth 100000 in
theorem alive13 (w : World) (hP : PTab w) : Calls Tryd.prog 5 #[] w (belowPost (.bool true) w) := by
  obtain ⟨W3, hW3⟩ : ∃ W3, W3 = ((w.alloc (.cells #[.int .u8 1] 5)).alloc (.cells #[.int .u8 1, .int .u8 2] 5)).alloc (.cells #[.slice (some ⟨w.heap.size, 0, none⟩) 1 1, .int .u64 5, .slice (some ⟨w.heap.size + 1, 0, none⟩) 2 2, .int .u64 6] apT) := ⟨_, rfl⟩
  have hB0 : Hid (Below w.heap.size w W3) := by rw [hW3]; exact (((Below.refl _ w).alloc (Nat.le_refl _) _).alloc (by simp) _).alloc (by simp; omega) _
  have hBd : Hid (Calls Tryd.prog 7 #[.pointer none, .int .u64 1, .slice (some ⟨w.heap.size + 1 + 1, 0, none⟩) 2 2] W3 fun e w' => ∃ a, e = .returned (.tuple #[.pointer (some a), .int .i64 0]) ∧ Below W3.heap.size W3 w' ∧ Al13 w' a) := by
    have h := canon_build 1 (by omega) W3 (some ⟨w.heap.size + 1 + 1, 0, none⟩) 2 2 alL (by rw [hW3]; exact al_prs w 5 5 apT) al_srt (by intro x hx; simp [alL] at hx; rcases hx with rfl | rfl <;> simp)
    refine h.mono fun e w' ⟨t, v, Q, q1, q2, q3, q4, q5, q6⟩ => ?_
    obtain ⟨a, rfl, hA⟩ := al13_of ((hP.below hB0.out).below q2.below_) q2 q3 q4 q5 q6
    exact ⟨a, q1, q2.below_, hA⟩
  clear hP
  go_enter Tryd.func5, Tryd.ntmps5
  go_wp2_with (first
    | (have g0 := B6; go_at_call 17; refine (HA.out.points _ B6.out).mono ?_; rintro e w7 ⟨b7, c7, rfl, z⟩; have B7 := Lib.hid (B6.out.trans (z.mono B6.out.size)); clear z)
    | (have g0 := B5; go_at_call 8; refine (HA.out.list _ B5.out).mono ?_; rintro e w6 ⟨b6, c6, rfl, z⟩; have B6 := Lib.hid (B5.out.trans (z.mono B5.out.size)); clear z)
    | (have g0 := B4; go_at_call 16; refine (HA.out.count _ B4.out).mono ?_; rintro e w5 ⟨rfl, z⟩; have B5 := Lib.hid (B4.out.trans (z.mono B4.out.size)); clear z)
    | (have g0 := B3; go_at_call 15; refine (HA.out.depth _ B3.out).mono ?_; rintro e w4 ⟨rfl, z⟩; have B4 := Lib.hid (B3.out.trans (z.mono B3.out.size)); clear z)
    | (have g0 := B2; go_at_call 9; refine (HA.out.fine _ B2.out).mono ?_; rintro e w3 ⟨rfl, z⟩; have B3 := Lib.hid (B2.out.trans (z.mono B2.out.size)); clear z)
    | (have g0 := B1; go_at_call 10; refine (HA.out.shape _ B1.out).mono ?_; rintro e w2 ⟨rfl, z⟩; have B2 := Lib.hid (B1.out.trans (z.mono B1.out.size)); clear z)
    | (rw [← hW3]; clear hW3; go_at_call 7; refine hBd.out.mono ?_; rintro e w1 ⟨a, rfl, z, hA⟩
       have HA := Lib.hid hA
       have BW := Lib.hid (hB0.out.trans (z.mono hB0.out.size))
       have B1 := Lib.hid (Below.refl w1.heap.size w1)
       clear z hA))
  go_ret
  exact ⟨rfl, BW.out.trans (B7.out.mono BW.out.size)⟩
end Go.Proofs.YtgijnjdcpipfiaaDoor
/- Rows of canon's laws: the table that is laid, numbers that come in. -/
namespace Go.Proofs.YtgijnjdcpipfiaaDoor
open Go.ChangeShapes Go.WideShapes Go.ChangeAt Go.RowKit
theorem own : ownKnob Tryd.prog.godebug = none := by kernel_rfl
theorem laidOut : laidOutB Tryd.prog = true := by kernel_rfl
theorem wf_u32 {n : Int} (h : (Lit.int .u32 n).wf = true) : 0 ≤ n ∧ n < 4294967296 := by
  have : 0 ≤ n ∧ n ≤ 4294967295 := by simpa [Lit.wf, IntKind.min, IntKind.max, IntKind.signed, IntKind.bits] using h
  omega
theorem PTab.of_heap {w w' : World} (h : PTab w) (e : w'.heap = w.heap) : PTab w' := by
  unfold PTab Lib.TabIs World.var? at *
  rw [e]; exact h
theorem p10_glob : Tryd.prog.globalNamed "internal/strconv.uint64pow10" = some 0 := by kernel_rfl
theorem p10_type : (Tryd.prog.globals[(0 : Nat)]?).map (·.type) = some 139 := by kernel_rfl
/-- the list that is laid, for each of these laws -/
abbrev laid13 : List (String × DataW Unit) := [("math/bits.deBruijn32tab", Rows.laid_math_bits_deBruijn32tab), ("math/bits.deBruijn64tab", Rows.laid_math_bits_deBruijn64tab), ("internal/strconv.uint64pow10", Rows.laid_internal_strconv_uint64pow10)]
theorem ptab_of {w : World} (h : laidMetH Tryd.prog laid13 w) : PTab w := by
  rw [MakeChecks.laidMetH_plain _ _ _ (by kernel_rfl)] at h
  obtain ⟨ps, ⟨_, _, _, _, _, q1, _, _, _, _, ⟨_, _, _, _, _, q2, _, _, _, _, h3, _⟩, _⟩, _, _⟩ := h
  obtain ⟨g', t', cs, fuel, p, q, hg', ht', hvar, hd, _, _⟩ := h3
  obtain rfl := Option.some.inj (p10_glob.symm.trans hg')
  obtain rfl := Option.some.inj (p10_type.symm.trans ht')
  unfold PTab Lib.TabIs
  rw [hvar, ← Lib.cells_of_tab (k := .u64) (zs := Lib.pow10Tab) Tryd.underlying139 Tryd.underlying25 (by kernel_rfl) (by kernel_rfl) hd]
end Go.Proofs.YtgijnjdcpipfiaaDoor
/- Nodes made since a world, and the blocks that they lie in: what else was made since then stays as it was, while nodes are made and written to. -/
namespace Go.Proofs.YtgijnjdcpipfiaaDoor
open Go.RowKit
/-- nodes, all in the blocks Z -/
def StoreW (w0 w : World) (P : List NP) (Z : Nat → Prop) : Prop := ∃ L : List Nd, L.map Nd.toNP = P ∧ Store NoB w0 w L ∧ (∀ (i : Nat) (d : Nd), L[i]? = some d → ∀ j, (d.W j ∨ d.bo = some j) → Z j) ∧ ∀ j, Z j → j < w.heap.size
section
variable {w0 w w' : World} {P : List NP} {Z : Nat → Prop} {i : Nat} {p : NP}
theorem StoreW.toP (h : StoreW w0 w P Z) : StoreP NoB w0 w P := by
  obtain ⟨L, e, h, _⟩ := h; exact ⟨L, e, h⟩
theorem StoreW.nil (w0 w : World) (h : Mod NoB w0 w) : StoreW w0 w [] NoB :=
  ⟨[], rfl, ⟨by simp, by simp, by simp, by simp, by simp, by simp, h⟩, by simp, fun j h => h.elim⟩
theorem StoreW.lt (h : StoreW w0 w P Z) : ∀ j, Z j → j < w.heap.size := by
  obtain ⟨L, _, _, _, h⟩ := h; exact h
/-- what is changed in other blocks -/
theorem StoreW.other {T : Nat → Prop} (h : StoreW w0 w P Z) (hm : Mod T w w') (hT : ∀ j, T j → ¬ Z j) (hlo : ∀ j, T j → w0.heap.size ≤ j) : StoreW w0 w' P Z := by
  obtain ⟨L, e, h, hz, hl⟩ := h
  exact ⟨L, e, h.other hm (fun i d hd j t => ⟨fun q => hT j t (hz i d hd j (Or.inl q)), fun q => hT j t (hz i d hd j (Or.inr q))⟩) (fun j hj t => by have := hlo j t; omega), hz, fun j hj => Nat.lt_of_lt_of_le (hl j hj) hm.size⟩
theorem StoreW.below (h : StoreW w0 w P Z) (hb : Below w.heap.size w w') : StoreW w0 w' P Z :=
  h.other (T := NoB) (Mod.of_below hb) (fun _ e => e.elim) (fun _ e => e.elim)
theorem StoreW.drewN (h : StoreW w0 w P Z) (k : Nat) : StoreW w0 (w.drewN k) P Z := h.below (below_drewN (Below.refl _ w) k)
/-- one node more, that was made -/
theorem StoreW.made {o : Int} {bs : List Nat} {val : Int} {has : Bool} {kk : Option KV} {e : Ending} (h : StoreW w0 w P Z) (hf : (∀ b ∈ bs, b < 256) ∧ bs.length ≤ 140737488355328) (q : madePost o bs val has kk w e w') :
    ∃ n, e = .returned (.pointer (some ⟨n, 0, none⟩)) ∧ Below w.heap.size w w' ∧ ∃ Z', StoreW w0 w' (P ++ [⟨n, o, bs, val, has, kk⟩]) Z' ∧ ∀ j, Z' j → Z j ∨ w.heap.size ≤ j := by
  obtain ⟨L, rfl, h, hz, hl⟩ := h
  obtain ⟨n, pv, bo, kp, Sk, rfl, q1, q2, q3, q4, q5⟩ := q
  obtain ⟨d, hd⟩ : ∃ d : Nd, d = ⟨⟨n, o, bs, val, has, kk⟩, pv, bo, kp, Sk⟩ := ⟨_, rfl⟩
  have hW : ∀ j, d.W j → w.heap.size ≤ j := by
    rw [hd]
    rintro j (rfl | e)
    · exact q3
    · exact q5 j e
  have hB : ∀ j, d.bo = some j → w.heap.size ≤ j := by rw [hd]; exact q4
  have hi : d.is w' := by rw [hd]; exact q1
  refine ⟨n, rfl, q2, fun j => Z j ∨ (d.W j ∨ d.bo = some j), ⟨L ++ [d], by rw [hd]; simp, h.add (d := d) hi (by rw [hd]; exact hf) q2 hW (fun g hg => Or.inl (hB g hg)), fun i d' hd' j hj => ?_, fun j hj => ?_⟩, fun j hj => ?_⟩
  · rw [List.getElem?_append] at hd'
    split at hd'
    · exact Or.inl (hz i d' hd' j hj)
    · have hm := List.mem_of_getElem? hd'
      simp only [List.mem_cons, List.not_mem_nil, or_false] at hm
      rw [hm] at hj
      exact Or.inr hj
  · rcases hj with hj | hj | hj
    · exact Nat.lt_of_lt_of_le (hl j hj) q2.size
    · exact hi.Wlt j hj
    · exact NdIs.Rlt hi j hj
  · rcases hj with hj | hj | hj
    · exact Or.inl hj
    · exact Or.inr (hW j hj)
    · exact Or.inr (hB j hj)
theorem sw_inner {a : Option Addr} {n c : Nat} {bs : List Nat} (h : StoreW w0 w P Z) (hi : In8 w a n c bs) (o : Int) : Calls Tryd.prog 11 #[.pointer none, .int .u64 o, .slice a n c] w fun e w' => ∃ k, e = .returned (.pointer (some ⟨k, 0, none⟩)) ∧ Below w.heap.size w w' ∧ ∃ Z', StoreW w0 w' (P ++ [⟨k, o, bs, 0, false, some []⟩]) Z' ∧ ∀ j, Z' j → Z j ∨ w.heap.size ≤ j :=
  (nd_inner_made w w none o a n c bs ((made_nil 1 w).mono fun e w' q => ⟨q.1, q.2.symm⟩) hi.len hi.at_ hi.cap hi.nil).mono fun e w' q => h.made ⟨hi.at_.1, by rw [hi.len]; exact hi.cap⟩ q
theorem sw_leaf {a : Option Addr} {n c : Nat} {bs : List Nat} (h : StoreW w0 w P Z) (hi : In8 w a n c bs) (o v : Int) : Calls Tryd.prog 12 #[.pointer none, .int .u64 o, .slice a n c, .int .u64 v] w fun e w' => ∃ k, e = .returned (.pointer (some ⟨k, 0, none⟩)) ∧ Below w.heap.size w w' ∧ ∃ Z', StoreW w0 w' (P ++ [⟨k, o, bs, v, true, none⟩]) Z' ∧ ∀ j, Z' j → Z j ∨ w.heap.size ≤ j :=
  (nd_leaf_made w w none o v a n c bs ((made_nil 1 w).mono fun e w' q => ⟨q.1, q.2.symm⟩) hi.len hi.at_ hi.cap hi.nil).mono fun e w' q => h.made ⟨hi.at_.1, by rw [hi.len]; exact hi.cap⟩ q
/-- one node is written to -/
theorem StoreW.write {L : List Nd} {d d' : Nd} (h : Store NoB w0 w L) (hz : ∀ (i : Nat) (d : Nd), L[i]? = some d → ∀ j, (d.W j ∨ d.bo = some j) → Z j) (hl : ∀ j, Z j → j < w.heap.size) (hd : L[i]? = some d) (h' : d'.is w') (hf : d'.toNP.fit) (hm : Mod d.W w w') (hW : ∀ j, d'.W j → d.W j ∨ w.heap.size ≤ j) (hR : d'.bo = d.bo) :
    (∃ Z', StoreW w0 w' ((L.map Nd.toNP).set i d'.toNP) Z' ∧ ∀ j, Z' j → Z j ∨ w.heap.size ≤ j) ∧ Mod Z w w' := by
  have hR' : ∀ g, d'.bo = some g → d.bo = some g ∨ w.heap.size ≤ g := fun g hg => Or.inl (by rw [← hR]; exact hg)
  refine ⟨⟨fun j => Z j ∨ (d'.W j ∨ d'.bo = some j), ⟨L.set i d', by rw [List.map_set], h.write hd h' hf hm hW hR', fun k b hb j hj => ?_, fun j hj => ?_⟩, fun j hj => ?_⟩, hm.mono fun j _ hj => hz i d hd j (Or.inl hj)⟩
  · rw [List.getElem?_set] at hb
    split at hb
    · split at hb
      · obtain rfl : d' = b := by simpa using hb
        exact Or.inr hj
      · cases hb
    · exact Or.inl (hz k b hb j hj)
  · rcases hj with hj | hj | hj
    · exact Nat.lt_of_lt_of_le (hl j hj) hm.size
    · exact h'.Wlt j hj
    · exact NdIs.Rlt h' j hj
  · rcases hj with hj | hj | hj
    · exact Or.inl hj
    · rcases hW j hj with q | q
      · exact Or.inl (hz i d hd j (Or.inl q))
      · exact Or.inr q
    · exact Or.inl (hz i d hd j (Or.inr (by rw [← hR]; exact hj)))
theorem sw_get (h : StoreW w0 w P Z) (hi : P[i]? = some p) : ∃ L d, L.map Nd.toNP = P ∧ Store NoB w0 w L ∧ (∀ (i : Nat) (d : Nd), L[i]? = some d → ∀ j, (d.W j ∨ d.bo = some j) → Z j) ∧ (∀ j, Z j → j < w.heap.size) ∧ L[i]? = some d ∧ d.toNP = p := by
  obtain ⟨L, rfl, h, hz, hl⟩ := h
  rw [List.getElem?_map] at hi
  cases hd : L[i]? with
  | none => rw [hd] at hi; cases hi
  | some d => rw [hd] at hi; exact ⟨L, d, rfl, h, hz, hl, hd, by simpa using hi⟩
theorem sw_setval (h : StoreW w0 w P Z) (hi : P[i]? = some p) (x v : Int) (h0 : ¬ (x = 0 ∨ x ≠ p.o)) : Calls Tryd.prog 13 #[.pointer (some ⟨p.n, 0, none⟩), .int .u64 x, .int .u64 v] w fun e w' => e = .returned (.int .i64 0) ∧ (∃ Z', StoreW w0 w' (P.set i { p with val := v, has := true }) Z' ∧ ∀ j, Z' j → Z j ∨ w.heap.size ≤ j) ∧ Mod Z w w' := by
  obtain ⟨L, d, rfl, h, hz, hl, hd, rfl⟩ := sw_get h hi
  refine (nd_setval (h.here i d hd) x v h0).mono ?_
  rintro e w' ⟨rfl, q1, q2⟩
  exact ⟨rfl, StoreW.write h hz hl hd (d' := { d with val := v, has := true }) q1 (h.fit i d hd) (q2.mono fun j _ e => Or.inl e) (fun j e => Or.inl e) rfl⟩
theorem sw_setkid (h : StoreW w0 w P Z) (hi : P[i]? = some p) {l : KV} (hk : p.kk = some l) (x : Int) (h0 : ¬ (x = 0 ∨ x ≠ p.o)) (b : Nat) (hb : b < 256) (a : Addr) : Calls Tryd.prog 14 #[.pointer (some ⟨p.n, 0, none⟩), .int .u64 x, .int .u8 b, .pointer (some a)] w fun e w' => e = .returned (.int .i64 0) ∧ (∃ Z', StoreW w0 w' (P.set i { p with kk := some (kins l b (.pointer (some a))) }) Z' ∧ ∀ j, Z' j → Z j ∨ w.heap.size ≤ j) ∧ Mod Z w w' := by
  obtain ⟨L, d, rfl, h, hz, hl, hd, rfl⟩ := sw_get h hi
  have H : NdIs w d.n d.o d.bs d.val d.has (some l) d.pv d.bo d.kp d.Sk := by have := h.here i d hd; unfold Nd.is at this; rw [hk] at this; exact this
  refine (nd_setkid H x h0 b hb a).mono ?_
  rintro e w' ⟨rfl, S', q1, q2, q3⟩
  exact ⟨rfl, StoreW.write h hz hl hd (d' := { d with kk := some (kins l b (.pointer (some a))), Sk := S' }) q1 (h.fit i d hd) (q2.mono fun j _ e => Or.inr e) (fun j e => by
    rcases e with e | e
    · exact Or.inl (Or.inl e)
    · rcases q3 j e with e | e
      · exact Or.inl (Or.inr e)
      · exact Or.inr e) rfl⟩
end
end Go.Proofs.YtgijnjdcpipfiaaDoor
/- Nodes told node by node: the tree that they make. No program. -/
namespace Go.Proofs.YtgijnjdcpipfiaaDoor
open Go.RowKit
/-- a node that is told -/
structure RW where
  leaf : Bool
  bs : List Nat
  has : Bool
  val : Int
  up : Nat
  b : Nat
def RW.ok (r : RW) : Prop := (∀ x ∈ r.bs, x < 256) ∧ r.bs.length ≤ 300 ∧ 0 ≤ r.val ∧ r.val < 18446744073709551616 ∧ r.up < 256 ∧ r.b < 256
/-- a node, its kids by their places -/
structure GN where
  bs : List Nat
  val : Int
  has : Bool
  leaf : Bool
  kids : List (Nat × Nat)
def kinsN (l : List (Nat × Nat)) (b c : Nat) : List (Nat × Nat) := l.filter (fun p => decide (p.1 < b)) ++ (b, c) :: l.filter (fun p => decide (b < p.1))
theorem kins_map (f : Nat → Value) (l : List (Nat × Nat)) (b c : Nat) : kins (l.map fun x => (x.1, f x.2)) b (f c) = (kinsN l b c).map fun x => (x.1, f x.2) := by
  unfold kins kinsN
  rw [List.map_append, List.map_cons, List.filter_map, List.filter_map]
  rfl
theorem kinsN_mem {l : List (Nat × Nat)} {b c : Nat} {x : Nat × Nat} (h : x ∈ kinsN l b c) : x = (b, c) ∨ x ∈ l := by
  unfold kinsN at h
  rcases List.mem_append.1 h with h | h
  · exact Or.inr (List.mem_filter.1 h).1
  · rcases List.mem_cons.1 h with h | h
    · exact Or.inl h
    · exact Or.inr (List.mem_filter.1 h).1
theorem kinsN_srt {l : List (Nat × Nat)} (h : l.Pairwise fun x y => x.1 < y.1) (b c : Nat) : (kinsN l b c).Pairwise fun x y => x.1 < y.1 := by
  unfold kinsN
  rw [List.pairwise_append]
  refine ⟨h.filter _, List.pairwise_cons.2 ⟨fun y hy => ?_, h.filter _⟩, fun x hx y hy => ?_⟩
  · simpa using (List.mem_filter.1 hy).2
  · have h1 : x.1 < b := by simpa using (List.mem_filter.1 hx).2
    rcases List.mem_cons.1 hy with rfl | hy
    · exact h1
    · have h2 : b < y.1 := by simpa using (List.mem_filter.1 hy).2
      omega
def gnNew (r : RW) : GN := if r.leaf then ⟨r.bs, r.val, true, true, []⟩ else ⟨r.bs, if r.has then r.val else 0, r.has, false, []⟩
def gnKid (g : GN) (b c : Nat) : GN := if g.leaf then g else { g with kids := kinsN g.kids b c }
def gnOne (G : List GN) (r : RW) : List GN := if G.length = 0 then [gnNew r] else (G ++ [gnNew r]).modify (r.up % G.length) (fun g => gnKid g r.b G.length)
def gnAll (l : List RW) : List GN := l.foldl gnOne []
theorem gnOne_len (G : List GN) (r : RW) : (gnOne G r).length = G.length + 1 := by
  unfold gnOne
  split
  · rename_i h; simp [h]
  · simp
/-- what is true of each node -/
structure GnOk (n j : Nat) (g : GN) : Prop where
  b8 : ∀ x ∈ g.bs, x < 256
  bl : g.bs.length ≤ 300
  v0 : 0 ≤ g.val
  v1 : g.val < 18446744073709551616
  no : g.has = false → g.val = 0
  lf : g.leaf = true → g.has = true ∧ g.kids = []
  srt : g.kids.Pairwise fun x y => x.1 < y.1
  low : ∀ x ∈ g.kids, x.1 < 256 ∧ j < x.2 ∧ x.2 < n
/-- what is true of all nodes; par: whose kid each is -/
structure GsOk (G : List GN) (par : Nat → Nat) : Prop where
  ok : ∀ (j : Nat) (g : GN), G[j]? = some g → GnOk G.length j g
  par : ∀ (j : Nat) (g : GN), G[j]? = some g → ∀ x ∈ g.kids, par x.2 = j
  uniq : ∀ (j : Nat) (g : GN), G[j]? = some g → (g.kids.map (·.2)).Nodup
theorem gnNew_ok {r : RW} (h : r.ok) (n j : Nat) : GnOk n j (gnNew r) := by
  obtain ⟨h1, h2, h3, h4, _, _⟩ := h
  unfold gnNew
  split
  · exact ⟨h1, h2, h3, h4, by simp, by simp, by simp, by simp⟩
  · refine ⟨h1, h2, ?_, ?_, ?_, by simp, by simp, by simp⟩
    · simp only; split <;> omega
    · simp only; split <;> omega
    · intro e
      simp only at e ⊢
      rw [e]; simp
theorem gnNew_kids (r : RW) : (gnNew r).kids = [] := by unfold gnNew; split <;> rfl
theorem GnOk.more {n j : Nat} {g : GN} (h : GnOk n j g) : GnOk (n + 1) j g := ⟨h.b8, h.bl, h.v0, h.v1, h.no, h.lf, h.srt, fun x hx => by have := h.low x hx; omega⟩
theorem GnOk.kid {n j : Nat} {g : GN} (h : GnOk n j g) {b c : Nat} (hb : b < 256) (h1 : j < c) (h2 : c < n) : GnOk n j (gnKid g b c) := by
  unfold gnKid
  split
  · exact h
  · rename_i hl
    refine ⟨h.b8, h.bl, h.v0, h.v1, h.no, fun e => absurd e (by simpa using hl), kinsN_srt h.srt b c, fun x hx => ?_⟩
    rcases kinsN_mem hx with rfl | hx
    · exact ⟨hb, h1, h2⟩
    · exact h.low x hx
theorem kinsN_uniq {l : List (Nat × Nat)} (h : (l.map (·.2)).Nodup) {b c : Nat} (hc : ∀ x ∈ l, x.2 ≠ c) : ((kinsN l b c).map (·.2)).Nodup := by
  have h' : l.Pairwise fun x y => x.2 ≠ y.2 := by
    have := List.nodup_iff_pairwise_ne.1 h
    rwa [List.pairwise_map] at this
  rw [List.nodup_iff_pairwise_ne, List.pairwise_map]
  unfold kinsN
  rw [List.pairwise_append]
  refine ⟨h'.filter _, List.pairwise_cons.2 ⟨fun y hy => ?_, h'.filter _⟩, fun x hx y hy => ?_⟩
  · exact fun e => hc y (List.mem_filter.1 hy).1 e.symm
  · obtain ⟨hx1, hx2⟩ := List.mem_filter.1 hx
    have hx3 : x.1 < b := by simpa using hx2
    rcases List.mem_cons.1 hy with rfl | hy
    · exact hc x hx1
    · obtain ⟨hy1, hy2⟩ := List.mem_filter.1 hy
      have hy3 : b < y.1 := by simpa using hy2
      intro e
      obtain ⟨p, hp, rfl⟩ := List.getElem_of_mem hx1
      obtain ⟨q, hq, rfl⟩ := List.getElem_of_mem hy1
      rcases Nat.lt_trichotomy p q with hpq | hpq | hpq
      · exact List.pairwise_iff_getElem.1 h' p q hp hq hpq e
      · subst hpq; omega
      · exact List.pairwise_iff_getElem.1 h' q p hq hp hpq e.symm
theorem gnOne_ok {G : List GN} {par : Nat → Nat} (h : GsOk G par) {r : RW} (hr : r.ok) (hp : G.length ≠ 0 → par G.length = r.up % G.length) : GsOk (gnOne G r) par := by
  have hl := gnOne_len G r
  by_cases h0 : G.length = 0
  · have e : gnOne G r = [gnNew r] := by unfold gnOne; rw [if_pos h0]
    rw [e]
    have key : ∀ (j : Nat) (g : GN), [gnNew r][j]? = some g → g = gnNew r := fun j g hg => by
      have := List.mem_of_getElem? hg
      simpa using this
    refine ⟨fun j g hg => ?_, fun j g hg x hx => ?_, fun j g hg => ?_⟩
    · rw [key j g hg]; exact gnNew_ok hr _ _
    · rw [key j g hg, gnNew_kids] at hx; simp at hx
    · rw [key j g hg, gnNew_kids]; simp
  · have e : gnOne G r = (G ++ [gnNew r]).modify (r.up % G.length) (fun g => gnKid g r.b G.length) := by unfold gnOne; rw [if_neg h0]
    have hm : r.up % G.length < G.length := Nat.mod_lt _ (by omega)
    -- where a node comes from
    have key : ∀ (j : Nat) (g : GN), (gnOne G r)[j]? = some g → (j = G.length ∧ g = gnNew r) ∨ (∃ g0, G[j]? = some g0 ∧ ((j = r.up % G.length ∧ g = gnKid g0 r.b G.length) ∨ (j ≠ r.up % G.length ∧ g = g0))) := fun j g hg => by
      rw [e, List.getElem?_modify, Option.map_eq_map] at hg
      by_cases hj : j < G.length
      · rw [List.getElem?_append_left hj] at hg
        cases hgj : G[j]? with
        | none => rw [hgj] at hg; simp at hg
        | some g0 =>
          rw [hgj, Option.map_some] at hg
          refine Or.inr ⟨g0, rfl, ?_⟩
          by_cases hq : r.up % G.length = j
          · rw [if_pos hq] at hg
            exact Or.inl ⟨hq.symm, by simpa using hg.symm⟩
          · rw [if_neg hq] at hg
            exact Or.inr ⟨fun q => hq q.symm, by simpa using hg.symm⟩
      · rw [List.getElem?_append_right (by omega)] at hg
        have h2 : j - G.length < 1 := by
          rcases Nat.lt_or_ge (j - G.length) 1 with q | q
          · exact q
          · rw [List.getElem?_eq_none (by simpa using q)] at hg; simp at hg
        rw [show j - G.length = 0 by omega, List.getElem?_cons_zero, Option.map_some, if_neg (by omega)] at hg
        exact Or.inl ⟨by omega, by simpa using hg.symm⟩
    have hlow : ∀ (j : Nat) (g0 : GN), G[j]? = some g0 → ∀ x ∈ g0.kids, x.2 ≠ G.length := fun j g0 hg x hx => by
      have := (h.ok j g0 hg).low x hx; omega
    refine ⟨fun j g hg => ?_, fun j g hg x hx => ?_, fun j g hg => ?_⟩
    · rw [hl]
      rcases key j g hg with ⟨rfl, rfl⟩ | ⟨g0, hg0, ⟨hj, rfl⟩ | ⟨_, rfl⟩⟩
      · exact gnNew_ok hr _ _
      · exact (h.ok j g0 hg0).more.kid hr.2.2.2.2.2 (by omega) (by omega)
      · exact (h.ok j g hg0).more
    · rcases key j g hg with ⟨rfl, rfl⟩ | ⟨g0, hg0, ⟨hj, rfl⟩ | ⟨_, rfl⟩⟩
      · rw [gnNew_kids] at hx; simp at hx
      · unfold gnKid at hx
        split at hx
        · exact h.par j g0 hg0 x hx
        · rcases kinsN_mem hx with rfl | hx
          · rw [hp h0]; exact hj.symm
          · exact h.par j g0 hg0 x hx
      · exact h.par j g hg0 x hx
    · rcases key j g hg with ⟨rfl, rfl⟩ | ⟨g0, hg0, ⟨hj, rfl⟩ | ⟨_, rfl⟩⟩
      · rw [gnNew_kids]; simp
      · unfold gnKid
        split
        · exact h.uniq j g0 hg0
        · exact kinsN_uniq (h.uniq j g0 hg0) (hlow j g0 hg0)
      · exact h.uniq j g hg0
theorem gs_nil (par : Nat → Nat) : GsOk [] par := ⟨by simp, by simp, by simp⟩
/-- the tree at a place -/
def gtr (G : List GN) : Nat → Nat → Tr
  | 0, _ => .nil
  | f + 1, j => match G[j]? with
    | none => .nil
    | some g => .node g.bs g.val g.has g.leaf (ofL (g.kids.map fun x => (x.1, gtr G f x.2)))
theorem gtr_isN {G : List GN} {f j : Nat} (hf : 0 < f) (hj : j < G.length) : IsN (gtr G f j) := by
  cases f with
  | zero => omega
  | succ f => unfold gtr; rw [List.getElem?_eq_getElem hj]; trivial
theorem gtr_some {G : List GN} {f j : Nat} {g : GN} (h : G[j]? = some g) : gtr G (f + 1) j = .node g.bs g.val g.has g.leaf (ofL (g.kids.map fun x => (x.1, gtr G f x.2))) := by
  rw [gtr, h]
theorem ofL_tok : ∀ {L : List (Nat × Tr)}, (L.Pairwise fun x y => x.1 < y.1) → (∀ x ∈ L, x.1 < 256 ∧ IsN x.2 ∧ TOk x.2) → TOk (ofL L)
  | [], _, _ => trivial
  | x :: L, hs, h => by
    obtain ⟨h1, h2⟩ := List.pairwise_cons.1 hs
    obtain ⟨q1, q2, q3⟩ := h x (by simp)
    refine ⟨q1, q2, q3, ?_, ofL_tok h2 (fun y hy => h y (by simp [hy])), ?_⟩
    · cases L <;> trivial
    · cases L with
      | nil => trivial
      | cons y L => exact h1 y (by simp)
theorem ofL_isK (L : List (Nat × Tr)) : IsK (ofL L) := by cases L <;> trivial
theorem gtr_ok {G : List GN} {par : Nat → Nat} (h : GsOk G par) : ∀ f j, G.length - j ≤ f → TOk (gtr G f j)
  | 0, j, _ => trivial
  | f + 1, j, hf => by
    cases hg : G[j]? with
    | none => unfold gtr; rw [hg]; trivial
    | some g =>
      rw [gtr_some hg]
      have ok := h.ok j g hg
      refine ⟨ok.b8, ok.v0, ok.v1, ok.no, fun e => ⟨(ok.lf e).1, by rw [(ok.lf e).2]; rfl⟩, ofL_isK _, ofL_tok ?_ ?_⟩
      · rw [List.pairwise_map]; exact ok.srt
      · intro x hx
        obtain ⟨y, hy, rfl⟩ := List.mem_map.1 hx
        have := ok.low y hy
        exact ⟨this.1, gtr_isN (by omega) this.2.2, gtr_ok h f y.2 (by omega)⟩
theorem ofL_way (B : Nat) : ∀ {L : List (Nat × Tr)}, (∀ x ∈ L, tway x.2 ≤ B) → tway (ofL L) ≤ 1 + B
  | [], _ => Nat.zero_le _
  | x :: L, h => by
    have h1 := h x (by simp)
    have h2 := ofL_way B (L := L) (fun y hy => h y (by simp [hy]))
    simp only [ofL, tway]
    omega
theorem gtr_way {G : List GN} {par : Nat → Nat} (h : GsOk G par) : ∀ f j, tway (gtr G f j) ≤ f * 301
  | 0, j => Nat.zero_le _
  | f + 1, j => by
    cases hg : G[j]? with
    | none => unfold gtr; rw [hg]; exact Nat.zero_le _
    | some g =>
      rw [gtr_some hg]
      have := ofL_way (f * 301) (L := g.kids.map fun x => (x.1, gtr G f x.2)) (fun x hx => by
        obtain ⟨y, _, rfl⟩ := List.mem_map.1 hx
        exact gtr_way h f y.2)
      have := (h.ok j g hg).bl
      simp only [tway]
      omega
/-- how many nodes -/
def tsz : Tr → Nat
  | .nil => 0
  | .kid _ t r => tsz t + tsz r
  | .node _ _ _ _ ks => 1 + tsz ks
def sumN (l : List Nat) : Nat := l.foldr (· + ·) 0
theorem sumN_app (a b : List Nat) : sumN (a ++ b) = sumN a + sumN b := by
  induction a with
  | nil => simp [sumN]
  | cons x a ih => simp only [sumN, List.cons_append, List.foldr_cons] at *; omega
theorem ofL_sz (L : List (Nat × Tr)) : tsz (ofL L) = sumN (L.map fun x => tsz x.2) := by
  induction L with
  | nil => rfl
  | cons x L ih => simp only [ofL, tsz, ih, List.map_cons, sumN, List.foldr_cons]
def kidsOf (G : List GN) (j : Nat) : List Nat := match G[j]? with | none => [] | some g => g.kids.map (·.2)
theorem gtr_szs {G : List GN} (f : Nat) (J : List Nat) : sumN (J.map fun j => tsz (gtr G (f + 1) j)) ≤ J.length + sumN ((J.flatMap (kidsOf G)).map fun j => tsz (gtr G f j)) := by
  induction J with
  | nil => simp [sumN]
  | cons j J ih =>
    rw [List.flatMap_cons, List.map_append, sumN_app, List.length_cons]
    have : tsz (gtr G (f + 1) j) ≤ 1 + sumN ((kidsOf G j).map fun j => tsz (gtr G f j)) := by
      unfold kidsOf
      cases hg : G[j]? with
      | none => unfold gtr; rw [hg]; simp [tsz]
      | some g =>
        rw [gtr_some hg]
        simp only [tsz, ofL_sz, List.map_map]
        exact Nat.le_refl _
    simp only [List.map_cons, sumN, List.foldr_cons] at *
    omega
theorem kidsOf_lt {G : List GN} {par : Nat → Nat} (h : GsOk G par) {j x : Nat} (hx : x ∈ kidsOf G j) : x < G.length ∧ par x = j := by
  unfold kidsOf at hx
  cases hg : G[j]? with
  | none => rw [hg] at hx; simp at hx
  | some g =>
    rw [hg] at hx
    obtain ⟨y, hy, rfl⟩ := List.mem_map.1 hx
    exact ⟨((h.ok j g hg).low y hy).2.2, h.par j g hg y hy⟩
theorem kids_nodup {G : List GN} {par : Nat → Nat} (h : GsOk G par) : ∀ {J : List Nat}, J.Nodup → (J.flatMap (kidsOf G)).Nodup
  | [], _ => List.nodup_nil
  | j :: J, hJ => by
    obtain ⟨h1, h2⟩ := List.nodup_cons.1 hJ
    rw [List.flatMap_cons, List.nodup_append]
    refine ⟨?_, kids_nodup h h2, fun x hx y hy e => ?_⟩
    · unfold kidsOf
      cases hg : G[j]? with
      | none => exact List.nodup_nil
      | some g => exact h.uniq j g hg
    · subst e
      obtain ⟨i, hi, hy⟩ := List.mem_flatMap.1 hy
      have e1 := (kidsOf_lt h hx).2
      have e2 := (kidsOf_lt h hy).2
      exact h1 (by rw [← e1, e2]; exact hi)
theorem nodup_len : ∀ {n : Nat} {J : List Nat}, J.Nodup → (∀ x ∈ J, x < n) → J.length ≤ n
  | 0, [], _, _ => Nat.le_refl _
  | 0, x :: J, _, hl => by have := hl x (by simp); omega
  | n + 1, J, h, hl => by
    by_cases hn : n ∈ J
    · have h1 := nodup_len (n := n) (h.erase n) (fun x hx => by
        have := (h.mem_erase_iff).1 hx
        have := hl x this.2
        omega)
      rw [List.length_erase_of_mem hn] at h1
      omega
    · have := nodup_len (n := n) h (fun x hx => by
        have := hl x hx
        have : x ≠ n := fun e => hn (e ▸ hx)
        omega)
      omega
theorem gtr_sz {G : List GN} {par : Nat → Nat} (h : GsOk G par) : ∀ f (J : List Nat), J.Nodup → (∀ x ∈ J, x < G.length) → sumN (J.map fun j => tsz (gtr G f j)) ≤ f * G.length
  | 0, J, _, _ => by
    have : ∀ J : List Nat, sumN (J.map fun j => tsz (gtr G 0 j)) = 0 := fun J => by
      induction J with
      | nil => rfl
      | cons j J ih => simp only [List.map_cons, sumN, List.foldr_cons] at *; rw [ih]; rfl
    rw [this]; exact Nat.zero_le _
  | f + 1, J, hJ, hl => by
    have h1 := gtr_szs (G := G) f J
    have h2 := gtr_sz h f (J.flatMap (kidsOf G)) (kids_nodup h hJ) (fun x hx => by obtain ⟨i, _, hx⟩ := List.mem_flatMap.1 hx; exact (kidsOf_lt h hx).1)
    have h3 := nodup_len hJ hl
    rw [Nat.succ_mul]
    omega
end Go.Proofs.YtgijnjdcpipfiaaDoor
/- Nodes told node by node, in memory. No program. -/
namespace Go.Proofs.YtgijnjdcpipfiaaDoor
open Go.RowKit
abbrev ptv (N : List Nat) (c : Nat) : Value := .pointer (some ⟨N.getD c 0, 0, none⟩)
def gkk (N : List Nat) (g : GN) : Option KV := if g.leaf then none else some (g.kids.map fun x => (x.1, ptv N x.2))
/-- told nodes stand among P, at the places I, in the blocks N -/
structure RawS (P : List NP) (I N : List Nat) (G : List GN) : Prop where
  lenI : I.length = G.length
  lenN : N.length = G.length
  nd : I.Nodup
  lt : ∀ x ∈ I, x < P.length
  at_ : ∀ (j : Nat) (g : GN), G[j]? = some g → P[I.getD j 0]? = some ⟨N.getD j 0, 1, g.bs, g.val, g.has, gkk N g⟩
theorem raws_nil : RawS [] [] [] [] := ⟨rfl, rfl, List.nodup_nil, by simp, by simp⟩
theorem raws_more {P : List NP} {I N : List Nat} {G : List GN} (h : RawS P I N G) (Q : List NP) : RawS (P ++ Q) I N G :=
  ⟨h.lenI, h.lenN, h.nd, fun x hx => by have := h.lt x hx; rw [List.length_append]; omega, fun j g hg => by
    have q := h.at_ j g hg
    rw [List.getElem?_append_left (List.getElem?_eq_some_iff.1 q).1]; exact q⟩
theorem getD_app {l : List Nat} {j : Nat} (h : j < l.length) (x : Nat) : (l ++ [x]).getD j 0 = l.getD j 0 := by
  simp [List.getD, List.getElem?_append_left h]
theorem getD_end (l : List Nat) (x : Nat) : (l ++ [x]).getD l.length 0 = x := by simp [List.getD]
theorem raws_snoc {P : List NP} {I N : List Nat} {G : List GN} {par : Nat → Nat} (h : RawS P I N G) (hG : GsOk G par) {g : GN} (hk : g.kids = []) (k : Nat) :
    RawS (P ++ [⟨k, 1, g.bs, g.val, g.has, if g.leaf then none else some []⟩]) (I ++ [P.length]) (N ++ [k]) (G ++ [g]) := by
  refine ⟨by simp [h.lenI], by simp [h.lenN], ?_, fun x hx => ?_, fun j g' hg => ?_⟩
  · rw [List.nodup_append]
    refine ⟨h.nd, by simp, fun x hx y hy e => ?_⟩
    simp only [List.mem_cons, List.not_mem_nil, or_false] at hy
    subst e; subst hy
    exact absurd (h.lt _ hx) (Nat.lt_irrefl _)
  · rw [List.length_append]
    rcases List.mem_append.1 hx with hx | hx
    · have := h.lt x hx; omega
    · simp only [List.mem_cons, List.not_mem_nil, or_false] at hx
      subst hx; simp
  · by_cases hj : j < G.length
    · rw [List.getElem?_append_left hj] at hg
      have q := h.at_ j g' hg
      rw [getD_app (by rw [h.lenI]; exact hj), getD_app (by rw [h.lenN]; exact hj), List.getElem?_append_left (List.getElem?_eq_some_iff.1 q).1, q]
      have : gkk N g' = gkk (N ++ [k]) g' := by
        unfold gkk
        split
        · rfl
        · congr 1
          refine List.map_congr_left fun x hx => ?_
          have := (hG.ok j g' hg).low x hx
          show (x.1, ptv N x.2) = (x.1, ptv (N ++ [k]) x.2)
          unfold ptv
          rw [getD_app (by rw [h.lenN]; omega)]
      rw [this]
    · rw [List.getElem?_append_right (by omega)] at hg
      have h2 : j - G.length < 1 := by
        rcases Nat.lt_or_ge (j - G.length) 1 with q | q
        · exact q
        · rw [List.getElem?_eq_none (by simpa using q)] at hg; simp at hg
      have hj2 : j = G.length := by omega
      subst hj2
      rw [Nat.sub_self, List.getElem?_cons_zero] at hg
      obtain rfl : g = g' := by simpa using hg
      have e1 : (I ++ [P.length]).getD G.length 0 = P.length := by rw [← h.lenI]; exact getD_end _ _
      have e2 : (N ++ [k]).getD G.length 0 = k := by rw [← h.lenN]; exact getD_end _ _
      rw [e1, e2]
      simp [gkk, hk]
theorem nodup_inj {l : List Nat} (h : l.Nodup) {i j : Nat} (hi : i < l.length) (hj : j < l.length) (e : l[i] = l[j]) : i = j := by
  have h' := List.pairwise_iff_getElem.1 (List.nodup_iff_pairwise_ne.1 h)
  rcases Nat.lt_trichotomy i j with q | q | q
  · exact (h' i j hi hj q e).elim
  · exact q
  · exact (h' j i hj hi q e.symm).elim
theorem raws_kid {P : List NP} {I N : List Nat} {G : List GN} (h : RawS P I N G) {j : Nat} {g : GN} (hg : G[j]? = some g) (hl : g.leaf = false) (b c : Nat) :
    RawS (P.set (I.getD j 0) ⟨N.getD j 0, 1, g.bs, g.val, g.has, some (kins (g.kids.map fun x => (x.1, ptv N x.2)) b (ptv N c))⟩) I N (G.modify j fun g => gnKid g b c) := by
  have hj : j < G.length := (List.getElem?_eq_some_iff.1 hg).1
  have hget : ∀ (i : Nat) (hi : i < G.length), I.getD i 0 = I[i]'(by rw [h.lenI]; exact hi) := fun i hi => by
    simp [List.getD, List.getElem?_eq_getElem (show i < I.length by rw [h.lenI]; exact hi)]
  refine ⟨by simp [h.lenI], by simp [h.lenN], h.nd, fun x hx => by rw [List.length_set]; exact h.lt x hx, fun i g' hg' => ?_⟩
  rw [List.getElem?_modify, Option.map_eq_map] at hg'
  have hi : i < G.length := by
    rcases Nat.lt_or_ge i G.length with q | q
    · exact q
    · rw [List.getElem?_eq_none q] at hg'; simp at hg'
  by_cases e : j = i
  · subst e
    rw [hg, Option.map_some, if_pos rfl] at hg'
    obtain rfl : gnKid g b c = g' := by simpa using hg'
    have hP : I.getD j 0 < P.length := (List.getElem?_eq_some_iff.1 (h.at_ j g hg)).1
    rw [List.getElem?_set_self hP]
    have e1 : gkk N (gnKid g b c) = some (kins (g.kids.map fun x => (x.1, ptv N x.2)) b (ptv N c)) := by
      unfold gkk gnKid
      rw [hl]
      simp only [Bool.false_eq_true, if_false, hl]
      rw [kins_map (ptv N)]
    rw [e1]
    unfold gnKid
    rw [hl]; rfl
  · cases hgi : G[i]? with
    | none => rw [hgi] at hg'; simp at hg'
    | some g0 =>
      rw [hgi, Option.map_some, if_neg e] at hg'
      obtain rfl : g0 = g' := by simpa using hg'
      have hne : I.getD j 0 ≠ I.getD i 0 := fun q => by
        rw [hget j hj, hget i hi] at q
        exact e (nodup_inj h.nd _ _ q)
      rw [List.getElem?_set_ne hne]
      exact h.at_ i g0 hgi
theorem kid_leaf {G : List GN} {j : Nat} {g : GN} (hg : G[j]? = some g) (hl : g.leaf = true) (b c : Nat) : (G.modify j fun g => gnKid g b c) = G := by
  apply List.ext_getElem?
  intro i
  rw [List.getElem?_modify, Option.map_eq_map]
  by_cases e : j = i
  · subst e
    rw [hg, Option.map_some, if_pos rfl]
    unfold gnKid
    rw [if_pos hl]
  · cases G[i]? with
    | none => rfl
    | some g0 => rw [Option.map_some, if_neg e]
theorem rows_in {P : List NP} {L : List (Nat × Tr × Value)} : (∀ x ∈ L, TreeIn P 0 x.2.1 x.2.2 []) → TreeIn P 0 (ofL (L.map fun x => (x.1, x.2.1))) (.pointer none) (L.map fun x => (x.1, x.2.2)) := by
  induction L with
  | nil => intro _; exact rfl
  | cons x L ih => intro h; exact ⟨_, _, rfl, h x (by simp), ih fun y hy => h y (by simp [hy])⟩
theorem raws_tree {P : List NP} {I N : List Nat} {G : List GN} {par : Nat → Nat} (h : RawS P I N G) (hG : GsOk G par) : ∀ f j, G.length - j ≤ f → j < G.length → TreeIn P 0 (gtr G f j) (ptv N j) []
  | 0, j, hf, hj => by omega
  | f + 1, j, hf, hj => by
    have hg : G[j]? = some G[j] := List.getElem?_eq_getElem hj
    rw [gtr_some hg]
    have ok := hG.ok j _ hg
    refine ⟨_, _, Nat.zero_le _, h.at_ j _ hg, rfl, rfl, rfl, rfl, ?_, ?_⟩
    · unfold gkk
      cases G[j].leaf <;> rfl
    · cases hl : G[j].leaf with
      | true =>
        rw [(ok.lf hl).2]
        show TreeIn P 0 .nil _ _
        unfold gkk
        rw [hl]; rfl
      | false =>
        have e : (gkk N G[j]).getD [] = G[j].kids.map fun x => (x.1, ptv N x.2) := by unfold gkk; rw [hl]; rfl
        rw [e]
        have := rows_in (P := P) (L := G[j].kids.map fun x => (x.1, gtr G f x.2, ptv N x.2)) (fun x hx => by
          obtain ⟨y, hy, rfl⟩ := List.mem_map.1 hx
          have := ok.low y hy
          exact raws_tree h hG f y.2 (by omega) this.2.2)
        rw [List.map_map, List.map_map] at this
        exact this
end Go.Proofs.YtgijnjdcpipfiaaDoor
/- law13.raws: nodes that are told. -/
namespace Go.Proofs.YtgijnjdcpipfiaaDoor
open Go.RowKit
abbrev rwT : Nat := 27
abbrev npT : Nat := 28
theorem npInfo : (Tryd.prog.info? npT).map (fun i => (i.zero, i.size, i.bytes)) = some (some (.pointer none), 1, 8) := by kernel_rfl
/-- a told node lies here -/
def RwC (w : World) (p : Addr) (i : Nat) (r : RW) : Prop :=
  ∃ a n c, w.cell? (p.add (i * 6)) = some (.bool r.leaf) ∧ w.cell? ⟨(p.add (i * 6)).block, (p.add (i * 6)).off + 1, none⟩ = some (.slice a n c) ∧ w.cell? ⟨(p.add (i * 6)).block, (p.add (i * 6)).off + 2, none⟩ = some (.bool r.has) ∧ w.cell? ⟨(p.add (i * 6)).block, (p.add (i * 6)).off + 3, none⟩ = some (.int .u64 r.val) ∧ w.cell? ⟨(p.add (i * 6)).block, (p.add (i * 6)).off + 4, none⟩ = some (.int .u8 (r.up : Nat)) ∧ w.cell? ⟨(p.add (i * 6)).block, (p.add (i * 6)).off + 5, none⟩ = some (.int .u8 (r.b : Nat)) ∧ Sl w a n c r.bs
/-- told nodes lie here -/
structure Rws (w : World) (a : Option Addr) (n c : Nat) (l : List RW) : Prop where
  len : l.length = n
  cap : n ≤ c
  capm : c ≤ maxLen
  at_ : ∀ i, i < l.length → ∃ p, a = some p ∧ RwC w p i (l.getD i ⟨false, [], false, 0, 0, 0⟩)
theorem RwC.below {w w' : World} {p : Addr} {i : Nat} {r : RW} (h : RwC w p i r) (hb : Below w.heap.size w w') : RwC w' p i r := by
  obtain ⟨a, n, c, h0, h1, h2, h3, h4, h5, h6⟩ := h
  exact ⟨a, n, c, (hb.cell (cell_lt h0)).trans h0, (hb.cell (cell_lt h1)).trans h1, (hb.cell (cell_lt h2)).trans h2, (hb.cell (cell_lt h3)).trans h3, (hb.cell (cell_lt h4)).trans h4, (hb.cell (cell_lt h5)).trans h5, h6.below hb⟩
theorem Rws.below {w w' : World} {a : Option Addr} {n c : Nat} {l : List RW} (h : Rws w a n c l) (hb : Below w.heap.size w w') : Rws w' a n c l :=
  ⟨h.len, h.cap, h.capm, fun i hi => by obtain ⟨p, e, q⟩ := h.at_ i hi; exact ⟨p, e, q.below hb⟩⟩
def ptl (N : List Nat) : List Value := N.map fun k => .pointer (some ⟨k, 0, none⟩)
def parOf (l : List RW) (c : Nat) : Nat := (l.getD c ⟨false, [], false, 0, 0, 0⟩).up % c
/-- behind so many told nodes -/
structure RwL (w : World) (par : Nat → Nat) (vo : Value) (i : Nat) (G : List GN) (wr : World) (P : List NP) (I N : List Nat) (Z : Nat → Prop) (bo : Option Nat) : Prop where
  own : OwnS 1 npT wr vo i (ptl N) bo
  new : ∀ g, bo = some g → w.heap.size ≤ g ∧ ¬ Z g
  st : StoreW w wr P Z
  rs : RawS P I N G
  ok : GsOk G par
  len : G.length = i
theorem rwl_nil (w : World) (par : Nat → Nat) : RwL w par (.slice none 0 0) 0 [] w [] [] [] NoB none :=
  ⟨OwnS.nil _ _ _, by simp, StoreW.nil w w (Mod.refl _ w), raws_nil, gs_nil par, rfl⟩
/-- the box of a told node -/
def boxR (r : RW) (a : Option Addr) (n c : Nat) : Obj := .cells #[.bool r.leaf, .slice a n c, .bool r.has, .int .u64 r.val, .int .u8 (r.up : Nat), .int .u8 (r.b : Nat)] rwT
def BoxAt (X : World) (s : Nat) (r : RW) (a : Option Addr) (n c : Nat) : Prop := X.heap[s]? = some (.cells [.bool r.leaf, .slice a n c, .bool r.has, .int .u64 r.val, .int .u8 (r.up : Nat), .int .u8 (r.b : Nat)].toArray rwT (0, 0))
theorem BoxAt.cells {X : World} {s : Nat} {r : RW} {a : Option Addr} {n c : Nat} (h : BoxAt X s r a n c) : X.cell? ⟨s, 0, none⟩ = some (.bool r.leaf) ∧ X.cell? ⟨s, 1, none⟩ = some (.slice a n c) ∧ X.cell? ⟨s, 2, none⟩ = some (.bool r.has) ∧ X.cell? ⟨s, 3, none⟩ = some (.int .u64 r.val) ∧ X.cell? ⟨s, 4, none⟩ = some (.int .u8 (r.up : Nat)) ∧ X.cell? ⟨s, 5, none⟩ = some (.int .u8 (r.b : Nat)) := by
  refine ⟨?_, ?_, ?_, ?_, ?_, ?_⟩ <;> (rw [cell_of_blk h]; rfl)
theorem BoxAt.keep {X X' : World} {s : Nat} {r : RW} {a : Option Addr} {n c : Nat} (h : BoxAt X s r a n c) {T : Nat → Prop} (hm : Mod T X X') (hs : ¬ T s) : BoxAt X' s r a n c :=
  (hm.same s (Array.getElem?_eq_some_iff.1 h).1 hs).trans h
/-- one node was made and stands behind the others -/
theorem rwl_app {w w3 w4 : World} {v4 : Value} {i : Nat} {P3 : List NP} {N : List Nat} {Z3 : Nat → Prop} {bo bo4 : Option Nat} {k : Nat} {o : Obj}
    (hnew : ∀ g, bo = some g → w.heap.size ≤ g ∧ ¬ Z3 g) (st : StoreW w w3 P3 Z3)
    (HO : OwnS 1 npT w4 v4 (i + 1) (ptl N ++ [.pointer (some ⟨k, 0, none⟩)]) bo4) (HM : Mod (fun g => bo = some g) (w3.alloc o) w4) (HN : NewOr (w3.alloc o) bo bo4) :
    OwnS 1 npT w4 v4 (i + 1) (ptl (N ++ [k])) bo4 ∧ (∀ g, bo4 = some g → w.heap.size ≤ g ∧ ¬ Z3 g) ∧ StoreW w w4 P3 Z3 := by
  have hsz := st.toP.size
  refine ⟨by unfold ptl at *; rw [List.map_append]; exact HO, fun g hg => ?_, (st.below ((Below.refl _ w3).alloc (Nat.le_refl _) o)).other HM (fun j hj => (hnew j hj).2) (fun j hj => (hnew j hj).1)⟩
  rcases HN with q | ⟨g', q1, q2⟩
  · exact hnew g (by rw [← q]; exact hg)
  · obtain rfl : g' = g := by rw [q1] at hg; simpa using hg
    rw [World.size_alloc] at q2
    exact ⟨by omega, fun z => by have := st.lt g' z; omega⟩
set_option maxHeartbeats 1000000 in
theorem nd_setkid_leaf {w : World} {n : Nat} {o : Int} {bs : List Nat} {val : Int} {has : Bool} {pv : Value} {bo : Option Nat} {kp : Option Addr} {Sk : Nat → Prop} (h : NdIs w n o bs val has none pv bo kp Sk) (x : Int) (b : Nat) (k : Option Addr) (h0 : ¬ (x = 0 ∨ x ≠ o)) : Calls Tryd.prog 14 #[.pointer (some ⟨n, 0, none⟩), .int .u64 x, .int .u8 b, .pointer k] w fun e w' => e = .returned (.int .i64 9) ∧ w = w' := by
  have hm := Lib.hid (nd_inner h x)
  have hR2 : Hid (innE o x none = 9) := by show _ = _; unfold innE; rw [if_neg h0]; rfl
  clear h h0
  go_enter Tryd.func14, Tryd.ntmps14
  go_wp2_with (first | (go_at_call 33; refine hm.out.mono ?_; rintro e w' ⟨rfl, rfl⟩; rw [hR2.out]))
  go_ret
  exact ⟨rfl, rfl⟩
/-- the newest node becomes a kid of another one, unless that is a leaf -/
theorem rwl_kid {w w4 : World} {P : List NP} {I N : List Nat} {G : List GN} {Z : Nat → Prop} (st : StoreW w w4 P Z) (rs : RawS P I N G) {j b c : Nat} (hj : j < G.length) (hb : b < 256) :
    Calls Tryd.prog 14 #[ptv N j, .int .u64 1, .int .u8 (b : Nat), ptv N c] w4 fun e w5 => (∃ x, e = .returned (.int .i64 x)) ∧ ∃ P5 Z5, StoreW w w5 P5 Z5 ∧ RawS P5 I N (G.modify j fun g => gnKid g b c) ∧ (∀ g, Z5 g → Z g ∨ w4.heap.size ≤ g) ∧ Mod Z w4 w5 := by
  have hg : G[j]? = some G[j] := List.getElem?_eq_getElem hj
  have hp := rs.at_ j _ hg
  cases hl : G[j].leaf with
  | true =>
    obtain ⟨pv, bo, kp, Sk, q⟩ := st.toP.is hp
    have hk : gkk N G[j] = none := by unfold gkk; rw [hl]; rfl
    simp only [hk] at q
    refine (nd_setkid_leaf q 1 b (some ⟨N.getD c 0, 0, none⟩) (by simp)).mono ?_
    rintro e w5 ⟨rfl, rfl⟩
    exact ⟨⟨_, rfl⟩, P, Z, st, by rw [kid_leaf hg hl]; exact rs, fun g z => Or.inl z, Mod.refl _ _⟩
  | false =>
    have hk : gkk N G[j] = some (G[j].kids.map fun x => (x.1, ptv N x.2)) := by unfold gkk; rw [hl]; rfl
    refine (sw_setkid st hp (l := G[j].kids.map fun x => (x.1, ptv N x.2)) hk 1 (by simp) b hb ⟨N.getD c 0, 0, none⟩).mono ?_
    rintro e w5 ⟨rfl, ⟨Z5, q1, q2⟩, q3⟩
    exact ⟨⟨_, rfl⟩, _, Z5, q1, raws_kid rs hg hl b c, q2, q3⟩
end Go.Proofs.YtgijnjdcpipfiaaDoor
/- law13.raws: the walk. -/
namespace Go.Proofs.YtgijnjdcpipfiaaDoor
open Go.RowKit
section
variable {w wr w2 w3 w4 w5 : World} {par : Nat → Nat} {vo v4 : Value} {i k : Nat} {G : List GN} {P : List NP} {I N : List Nat} {Z : Nat → Prop} {bo bo4 : Option Nat} {r : RW} {a3 : Option Addr} {n3 c3 : Nat}
/-- the newest node was made -/
def Md (w wr : World) (P : List NP) (I N : List Nat) (G : List GN) (Z : Nat → Prop) (r : RW) (a3 : Option Addr) (n3 c3 : Nat) (g : GN) (w3 : World) (k : Nat) : Prop :=
  ∃ P3 Z3, StoreW w w3 (P3 ++ [⟨k, 1, g.bs, g.val, g.has, if g.leaf then none else some []⟩]) Z3 ∧ RawS P3 I N G ∧ (∀ j, Z3 j → Z j ∨ wr.heap.size + 1 ≤ j) ∧ BoxAt w3 wr.heap.size r a3 n3 c3 ∧ Mod Z wr w3 ∧ wr.heap.size + 1 ≤ w3.heap.size
/-- it stands behind the others -/
def Ap (w wr : World) (I N : List Nat) (G : List GN) (i : Nat) (r : RW) (a3 : Option Addr) (n3 c3 : Nat) (k : Nat) (v4 : Value) (w4 : World) : Prop :=
  ∃ P4 I4 Z4 bo4, OwnS 1 npT w4 v4 (i + 1) (ptl (N ++ [k])) bo4 ∧ (∀ g, bo4 = some g → w.heap.size ≤ g ∧ ¬ Z4 g) ∧ StoreW w w4 P4 Z4 ∧ RawS P4 I4 (N ++ [k]) (G ++ [gnNew r]) ∧ BoxAt w4 wr.heap.size r a3 n3 c3
theorem md_own (h : RwL w par vo i G wr P I N Z bo) (q : Md w wr P I N G Z r a3 n3 c3 (gnNew r) w3 k) (o : Obj) : OwnS 1 npT (w3.alloc o) vo i (ptl N) bo := by
  obtain ⟨P3, Z3, _, _, _, _, hm, hs⟩ := q
  refine (h.own.keep (w' := w3) fun g e => ?_).below ((Below.refl _ w3).alloc (Nat.le_refl _) o)
  exact hm.same g (by have := h.own; rw [e] at this; exact this.lt) (h.new g e).2
theorem md_app (h : RwL w par vo i G wr P I N Z bo) (q : Md w wr P I N G Z r a3 n3 c3 (gnNew r) w3 k) {o : Obj}
    (HO : OwnS 1 npT w4 v4 (i + 1) (ptl N ++ [.pointer (some ⟨k, 0, none⟩)]) bo4) (HM : Mod (fun g => bo = some g) (w3.alloc o) w4) (HN : NewOr (w3.alloc o) bo bo4) : Ap w wr I N G i r a3 n3 c3 k v4 w4 := by
  obtain ⟨P3, Z3, st, rs, hz, hb, hm, hs⟩ := q
  have hlt : ∀ g, bo = some g → g < wr.heap.size := fun g e => by have := h.own; rw [e] at this; exact this.lt
  obtain ⟨q1, q2, q3⟩ := rwl_app (fun g e => ⟨(h.new g e).1, fun z => by
    rcases hz g z with z | z
    · exact (h.new g e).2 z
    · have := hlt g e; omega⟩) st HO HM HN
  refine ⟨_, _, _, _, q1, q2, q3, raws_snoc rs h.ok (gnNew_kids r) k, ?_⟩
  have hb2 : BoxAt (w3.alloc o) wr.heap.size r a3 n3 c3 := (((Below.refl w3.heap.size w3).alloc (Nat.le_refl _) o).block _ (by omega)).trans hb
  exact hb2.keep HM (fun e => by have := hlt _ e; omega)
theorem ap_first (h : RwL w par vo 0 G wr P I N Z bo) (hr : r.ok) (q : Ap w wr I N G 0 r a3 n3 c3 k v4 w4) : ∃ P I N Z bo, RwL w par v4 1 (gnOne G r) w4 P I N Z bo := by
  obtain ⟨P4, I4, Z4, bo4, q1, q2, q3, q4, _⟩ := q
  have e : G = [] := List.length_eq_zero_iff.1 h.len
  have e1 : gnOne G r = G ++ [gnNew r] := by rw [e]; rfl
  refine ⟨P4, I4, N ++ [k], Z4, bo4, q1, q2, q3, by rw [e1]; exact q4, gnOne_ok h.ok hr (fun hh => absurd h.len hh), by rw [gnOne_len, h.len]⟩
theorem ap_kid (h : RwL w par vo i G wr P I N Z bo) (hi : 0 < i) (hr : r.ok) (hp : par i = r.up % i) (q : Ap w wr I N G i r a3 n3 c3 k v4 w4) (d : Nat) :
    Calls Tryd.prog 14 #[ptv (N ++ [k]) (r.up % i), .int .u64 1, .int .u8 (r.b : Nat), .pointer (some ⟨k, 0, none⟩)] (w4.drewN d) fun e w5 => (∃ x, e = .returned (.int .i64 x)) ∧ ∃ P I N Z bo, RwL w par v4 (i + 1) (gnOne G r) w5 P I N Z bo := by
  obtain ⟨P4, I4, Z4, bo4, q1, q2, q3, q4, _⟩ := q
  have hk : ptv (N ++ [k]) G.length = .pointer (some ⟨k, 0, none⟩) := by
    have : (N ++ [k]).getD G.length 0 = k := by rw [← h.rs.lenN]; exact getD_end _ _
    unfold ptv; rw [this]
  have hm : r.up % i < i := Nat.mod_lt _ hi
  have hlen := h.len
  have := rwl_kid (q3.drewN d) q4 (j := r.up % i) (b := r.b) (c := G.length) (by rw [List.length_append]; omega) hr.2.2.2.2.2
  rw [hk] at this
  refine this.mono ?_
  rintro e w5 ⟨q5, P5, Z5, s5, r5, z5, m5⟩
  have e1 : gnOne G r = (G ++ [gnNew r]).modify (r.up % i) (fun g => gnKid g r.b G.length) := by unfold gnOne; rw [if_neg (by omega), hlen]
  refine ⟨q5, P5, I4, N ++ [k], Z5, bo4, q1.keep (fun g e => m5.same g (by have := q1; rw [e] at this; exact this.lt) (q2 g e).2), fun g e => ⟨(q2 g e).1, fun z => ?_⟩, s5, by rw [e1]; exact r5, gnOne_ok h.ok hr (fun _ => by rw [hlen]; exact hp), by rw [gnOne_len, hlen]⟩
  rcases z5 g z with z | z
  · exact (q2 g e).2 z
  · have hl : g < w4.heap.size := by have := q1; rw [e] at this; exact this.lt
    have : g < (w4.drewN d).heap.size := hl
    omega
theorem box_new (wr : World) (r : RW) (a3 : Option Addr) (n3 c3 : Nat) : BoxAt (wr.alloc (boxR r a3 n3 c3)) wr.heap.size r a3 n3 c3 := heap_alloc_new wr _
/-- an inner node was made of the told one -/
theorem md_inner (h : RwL w par vo i G wr P I N Z bo) (hr : r.ok) (hS : Sl wr a3 n3 c3 r.bs) : Calls Tryd.prog 11 #[.pointer none, .int .u64 1, .slice a3 n3 c3] (wr.alloc (boxR r a3 n3 c3)) fun e w2 => ∃ k, e = .returned (.pointer (some ⟨k, 0, none⟩)) ∧ Md w wr P I N G Z r a3 n3 c3 ⟨r.bs, 0, false, false, []⟩ w2 k ∧ Below wr.heap.size wr w2 := by
  have hb : Below wr.heap.size wr (wr.alloc (boxR r a3 n3 c3)) := (Below.refl _ wr).alloc (Nat.le_refl _) _
  have hn : n3 ≤ 140737488355328 := by have := hS.len; have := hr.2.1; omega
  refine (sw_inner (h.st.below hb) (In8.of_sl (hS.below hb) hn) 1).mono ?_
  rintro e w2 ⟨k, q1, q2, Z2, q3, q4⟩
  refine ⟨k, q1, ⟨P, Z2, q3, h.rs, fun j hj => by have := q4 j hj; rw [World.size_alloc] at this; exact this, ?_, (Mod.of_below (hb.trans (q2.mono hb.size))), by have := q2.size; rw [World.size_alloc] at this; exact this⟩, hb.trans (q2.mono hb.size)⟩
  exact (q2.block _ (by rw [World.size_alloc]; omega)).trans (box_new wr r a3 n3 c3)
theorem md_leaf (h : RwL w par vo i G wr P I N Z bo) (hr : r.ok) (hS : Sl wr a3 n3 c3 r.bs) (q : Md w wr P I N G Z r a3 n3 c3 ⟨r.bs, 0, false, false, []⟩ w2 k) (hbel : Below wr.heap.size wr w2) (hl : r.leaf = true) : Calls Tryd.prog 12 #[.pointer none, .int .u64 1, .slice a3 n3 c3, .int .u64 r.val] w2 fun e w3 => ∃ k, e = .returned (.pointer (some ⟨k, 0, none⟩)) ∧ Md w wr P I N G Z r a3 n3 c3 (gnNew r) w3 k := by
  obtain ⟨P3, Z3, st, rs, hz, hb, hm, hs⟩ := q
  have hn : n3 ≤ 140737488355328 := by have := hS.len; have := hr.2.1; omega
  have e : gnNew r = ⟨r.bs, r.val, true, true, []⟩ := by unfold gnNew; rw [hl]; rfl
  refine (sw_leaf st (In8.of_sl (hS.below hbel) hn) 1 r.val).mono ?_
  rintro e' w3 ⟨k', q1, q2, Z4, q3, q4⟩
  refine ⟨k', q1, _, Z4, by rw [e]; exact q3, raws_more rs _, fun j hj => ?_, (q2.block _ (by omega)).trans hb, hm.then (Mod.of_below (S := NoB) q2) (fun j _ e => e.elim), Nat.le_trans hs q2.size⟩
  rcases q4 j hj with z | z
  · exact hz j z
  · exact Or.inr (by omega)
theorem md_setval (h : RwL w par vo i G wr P I N Z bo) (q : Md w wr P I N G Z r a3 n3 c3 ⟨r.bs, 0, false, false, []⟩ w2 k) (hl : r.leaf = false) (hh : r.has = true) : Calls Tryd.prog 13 #[.pointer (some ⟨k, 0, none⟩), .int .u64 1, .int .u64 r.val] w2 fun e w3 => (∃ x, e = .returned (.int .i64 x)) ∧ Md w wr P I N G Z r a3 n3 c3 (gnNew r) w3 k := by
  obtain ⟨P3, Z3, st, rs, hz, hb, hm, hs⟩ := q
  have eg : ∀ x : NP, (P3 ++ [x])[P3.length]? = some x := fun x => by simp
  have es : ∀ x y : NP, (P3 ++ [x]).set P3.length y = P3 ++ [y] := fun x y => by simp
  refine (sw_setval st (eg _) 1 r.val (by simp)).mono ?_
  rintro e w3 ⟨rfl, ⟨Z4, q1, q2⟩, q3⟩
  have hsz := h.st.lt
  have e : gnNew r = ⟨r.bs, r.val, true, false, []⟩ := by unfold gnNew; rw [hl, hh]; rfl
  have hZ : ∀ j, j < wr.heap.size → Z3 j → Z j := fun j hj z => by
    rcases hz j z with z | z
    · exact z
    · omega
  refine ⟨⟨_, rfl⟩, P3, Z4, ?_, rs, fun j hj => ?_, hb.keep q3 (fun z => ?_), hm.then q3 hZ, Nat.le_trans hs q3.size⟩
  · rw [e]
    rw [es] at q1
    exact q1
  · rcases q2 j hj with z | z
    · exact hz j z
    · exact Or.inr (by omega)
  · rcases hz _ z with z | z
    · have := hsz _ z; omega
    · omega
theorem md_none (q : Md w wr P I N G Z r a3 n3 c3 ⟨r.bs, 0, false, false, []⟩ w2 k) (hl : r.leaf = false) (hh : r.has = false) : Md w wr P I N G Z r a3 n3 c3 (gnNew r) w2 k := by
  have : gnNew r = ⟨r.bs, 0, false, false, []⟩ := by unfold gnNew; rw [hl, hh]; simp
  rw [this]; exact q
end
end Go.Proofs.YtgijnjdcpipfiaaDoor
/- law13.raws: the walk. -/
namespace Go.Proofs.YtgijnjdcpipfiaaDoor
open Go.RowKit
theorem gnAll_succ {l : List RW} {i : Nat} (hi : i < l.length) : gnAll (l.take (i + 1)) = gnOne (gnAll (l.take i)) (l.getD i ⟨false, [], false, 0, 0, 0⟩) := by
  unfold gnAll
  rw [List.take_succ_eq_append_getElem hi, List.foldl_append]
  simp [List.getD, List.getElem?_eq_getElem hi]
theorem ptr_news (w : World) (x : Value) (t : TypeId) : ∀ j u, ([x] : List Value)[j]? = some u → (w.alloc (.cells #[x] t)).cell? ((⟨w.heap.size, 0, none⟩ : Addr).add j) = some u := fun j u h => by
  have hb : (w.alloc (.cells #[x] t)).heap[w.heap.size]? = some (.cells [x].toArray t (0, 0)) := heap_alloc_new w _
  rw [add0, cell_of_blk hb]
  exact h
theorem one_ptr (k : Nat) : ∀ u ∈ ([.pointer (some ⟨k, 0, none⟩)] : List Value), u.oneCell' = true := by
  intro u hu
  simp only [List.mem_cons, List.not_mem_nil, or_false] at hu
  subst hu; rfl
theorem ap_cells {w wr w4 : World} {I N : List Nat} {G : List GN} {i k : Nat} {r : RW} {a3 : Option Addr} {n3 c3 : Nat} {v4 : Value} (hN : N.length = i) {m : Nat} (hm : m < i) (q : Ap w wr I N G i r a3 n3 c3 k v4 w4) : ∃ g4 cap4, v4 = .slice (some ⟨g4, 0, none⟩) (i + 1) cap4 ∧ w4.cell? ⟨g4, m, none⟩ = some (ptv (N ++ [k]) m) ∧ w4.cell? ⟨wr.heap.size, 4, none⟩ = some (.int .u8 (r.up : Nat)) ∧ w4.cell? ⟨wr.heap.size, 5, none⟩ = some (.int .u8 (r.b : Nat)) := by
  obtain ⟨P4, I4, Z4, bo4, q1, q2, q3, q4, q5⟩ := q
  obtain ⟨g4, cap4, _, e, hc, _⟩ := q1.at_ (j := m) (by omega)
  refine ⟨g4, cap4, e, ?_, q5.cells.2.2.2.2.1, q5.cells.2.2.2.2.2⟩
  rw [hc]
  have hlt : m < (N ++ [k]).length := by rw [List.length_append]; omega
  unfold ptl ptv
  rw [List.getElem?_map, List.getElem?_eq_getElem hlt]
  simp [List.getD, List.getElem?_eq_getElem hlt]
def RawsPost (w : World) (par : Nat → Nat) (n : Nat) (G : List GN) (e : Ending) (w' : World) : Prop := ∃ k P I N Z bo v, e = .returned (.pointer (some ⟨k, 0, none⟩)) ∧ RwL w par v n G w' P I N Z bo ∧ ptv N 0 = .pointer (some ⟨k, 0, none⟩)
set_option maxHeartbeats 4000000 in
set_option maxRecDepth 100000 in
theorem law_raws (w : World) (a : Option Addr) (n c : Nat) (l : List RW) (h : Rws w a n c l) (hok : ∀ r ∈ l, r.ok) (h0 : 0 < n) (h24 : n ≤ 24) :
    Calls Tryd.prog 6 #[.slice a n c] w (RawsPost w (parOf l) n (gnAll l)) := by
  have H := Lib.hid h
  have hl := Lib.hid h.len
  have hstart : Hid (∃ P I N Z bo, RwL w (parOf l) (.slice none 0 0) 0 (gnAll (l.take 0)) w P I N Z bo) := ⟨_, _, _, _, _, rwl_nil w _⟩
  have HK := Lib.hid hok
  clear h hok
  go_enter Tryd.func6, Tryd.ntmps6
  go_wp2_with fail
  go_loopw [9, 3] (fun v9 v3 wr => ∃ i : Nat, v9 = .int .i64 (i : Nat) ∧ i ≤ n ∧ Hid (∃ P I N Z bo, RwL w (parOf l) v3 i (gnAll (l.take i)) wr P I N Z bo)) (fun v9 _ _ => (n - intOf v9).toNat)
  case atStart => exact ⟨0, rfl, by omega, hstart⟩
  case round =>
    clear hstart
    obtain ⟨i, rfl, hi, hR⟩ := hrel
    obtain ⟨P, I, N, Z, bo, hR2⟩ := hR.out
    have R := Lib.hid hR2
    clear hR2 hR
    by_cases hlt : i < n
    · have hlt2 : (i : Int) < (n : Int) := by omega
      have hlt3 : i < l.length := by rw [hl.out]; exact hlt
      have B := Lib.hid R.out.st.toP.below_
      obtain ⟨p, rfl, q⟩ := H.out.at_ i hlt3
      have q := q.below B.out
      have hn := gnAll_succ hlt3
      have hr : (l.getD i ⟨false, [], false, 0, 0, 0⟩).ok := HK.out _ (by simp [List.getD, List.getElem?_eq_getElem hlt3])
      have hp : parOf l i = (l.getD i ⟨false, [], false, 0, 0, 0⟩).up % i := rfl
      generalize l.getD i ⟨false, [], false, 0, 0, 0⟩ = r at *
      obtain ⟨a3, n3, c3, k0, k1, k2, k3, k4, k5, hS⟩ := q
      generalize gnAll (l.take i) = G at *
      have hInn := Lib.hid (md_inner R.out hr hS)
      have hLf : Hid (∀ w2 k, Md w wr P I N G Z r a3 n3 c3 ⟨r.bs, 0, false, false, []⟩ w2 k → Below wr.heap.size wr w2 → r.leaf = true → Calls Tryd.prog 12 #[.pointer none, .int .u64 1, .slice a3 n3 c3, .int .u64 r.val] w2 fun e w3 => ∃ k, e = .returned (.pointer (some ⟨k, 0, none⟩)) ∧ Md w wr P I N G Z r a3 n3 c3 (gnNew r) w3 k) := fun w2 k q hb he => md_leaf R.out hr hS q hb he
      have hSV : Hid (∀ w2 k, Md w wr P I N G Z r a3 n3 c3 ⟨r.bs, 0, false, false, []⟩ w2 k → r.leaf = false → r.has = true → Calls Tryd.prog 13 #[.pointer (some ⟨k, 0, none⟩), .int .u64 1, .int .u64 r.val] w2 fun e w3 => (∃ x, e = .returned (.int .i64 x)) ∧ Md w wr P I N G Z r a3 n3 c3 (gnNew r) w3 k) := fun w2 k q e1 e2 => md_setval R.out q e1 e2
      have hHn := Lib.hid hn
      have hHr := Lib.hid hr
      have hHp := Lib.hid hp
      unfold boxR at hInn
      have hb1 : Hid (i + 1 ≤ maxLen) := by show _ ≤ _; unfold maxLen; omega
      have hb2 : Hid ((i + 1) * 8 ≤ 140737488355328) := by show _ ≤ _; omega
      clear hn hr hp hS
      by_cases hi0 : i = 0
      · have hi1 : ¬ (0 : Int) < (i : Int) := by omega
        have hAf : Hid (∀ k v4 w4, Ap w wr I N G i r a3 n3 c3 k v4 w4 → ∃ P I N Z bo, RwL w (parOf l) v4 (i + 1) (gnOne G r) w4 P I N Z bo) := fun k v4 w4 q => by
          have R' := R.out
          subst hi0
          exact ap_first R' hHr.out q
        clear hi0
        cases hlf : r.leaf with
        | true =>
          rw [hlf] at k0 hInn
          go_wp2_with (first
            | (at_builtin; go_loud (refine wpList_append_s rfl (.tmp 34) (.tmp 36) 49 rfl npT _ 1 8 Tryd.underlying49 npInfo rfl (by omega) _ rfl i (ptl N) bo (md_own R.out M3.out _) ⟨_, 0, none⟩ 1 1 [.pointer (some ⟨k, 0, none⟩)] rfl rfl (ptr_news _ _ _) (one_ptr k) hb1.out hb2.out ?_); intro v4 w4 bo4 HO HM HN
               have A4 := Lib.hid (md_app R.out M3.out HO.out HM.out HN.out)
               clear HO HM HN)
            | (go_at_call 12; refine (hLf.out _ _ M2.out B2.out hlf).mono ?_; rintro e w3 ⟨k, rfl, m3⟩
               have M3 := Lib.hid m3
               clear m3 y0 y1 y2 y3 y4 y5)
            | (go_at_call 11; refine hInn.out.mono ?_; rintro e w2 ⟨k', rfl, m2, b2⟩
               have M2 := Lib.hid m2
               have B2 := Lib.hid b2
               obtain ⟨_, _, _, _, _, hbx, _, _⟩ := m2
               obtain ⟨y0, y1, y2, y3, y4, y5⟩ := hbx.cells
               rw [hlf] at y0
               clear b2 hbx))
          have R6 : Hid (∃ P I N Z bo, RwL w (parOf l) v4 (i + 1) (gnAll (l.take (i + 1))) w4 P I N Z bo) := by rw [hHn.out]; exact hAf.out _ _ _ A4.out
          go_roundw
          case rel => exact ⟨i + 1, (by first | rfl | go_num), by omega, R6⟩
          case measure => (simp [intOf]) <;> omega
        | false =>
          rw [hlf] at k0 hInn
          cases hhs : r.has with
          | true =>
            rw [hhs] at k2 hInn
            go_wp2_with (first
              | (at_builtin; go_loud (refine wpList_append_s rfl (.tmp 34) (.tmp 36) 49 rfl npT _ 1 8 Tryd.underlying49 npInfo rfl (by omega) _ rfl i (ptl N) bo (md_own R.out M3.out _) ⟨_, 0, none⟩ 1 1 [.pointer (some ⟨k, 0, none⟩)] rfl rfl (ptr_news _ _ _) (one_ptr k) hb1.out hb2.out ?_); intro v4 w4 bo4 HO HM HN
                 have A4 := Lib.hid (md_app R.out M3.out HO.out HM.out HN.out)
                 clear HO HM HN)
              | (go_at_call 13; refine (hSV.out _ _ M2.out hlf hhs).mono ?_; rintro e w3 ⟨⟨xs, rfl⟩, m3⟩
                 have M3 := Lib.hid m3
                 clear m3 y0 y1 y2 y3 y4 y5)
              | (go_at_call 11; refine hInn.out.mono ?_; rintro e w2 ⟨k, rfl, m2, b2⟩
                 have M2 := Lib.hid m2
                 have B2 := Lib.hid b2
                 obtain ⟨_, _, _, _, _, hbx, _, _⟩ := m2
                 obtain ⟨y0, y1, y2, y3, y4, y5⟩ := hbx.cells
                 rw [hlf] at y0
                 rw [hhs] at y2
                 clear b2 hbx))
            have R6 : Hid (∃ P I N Z bo, RwL w (parOf l) v4 (i + 1) (gnAll (l.take (i + 1))) w4 P I N Z bo) := by rw [hHn.out]; exact hAf.out _ _ _ A4.out
            go_roundw
            case rel => exact ⟨i + 1, (by first | rfl | go_num), by omega, R6⟩
            case measure => (simp [intOf]) <;> omega
          | false =>
            rw [hhs] at k2 hInn
            go_wp2_with (first
              | (at_builtin; go_loud (refine wpList_append_s rfl (.tmp 34) (.tmp 36) 49 rfl npT _ 1 8 Tryd.underlying49 npInfo rfl (by omega) _ rfl i (ptl N) bo (md_own R.out M3.out _) ⟨_, 0, none⟩ 1 1 [.pointer (some ⟨k, 0, none⟩)] rfl rfl (ptr_news _ _ _) (one_ptr k) hb1.out hb2.out ?_); intro v4 w4 bo4 HO HM HN
                 have A4 := Lib.hid (md_app R.out M3.out HO.out HM.out HN.out)
                 clear HO HM HN)
              | (go_at_call 11; refine hInn.out.mono ?_; rintro e w2 ⟨k, rfl, m2, b2⟩
                 have M2 := Lib.hid m2
                 have B2 := Lib.hid b2
                 obtain ⟨_, _, _, _, _, hbx, _, _⟩ := m2
                 obtain ⟨y0, y1, y2, y3, y4, y5⟩ := hbx.cells
                 rw [hlf] at y0
                 rw [hhs] at y2
                 have M3 := Lib.hid (md_none M2.out hlf hhs)
                 clear b2 hbx))
            have R6 : Hid (∃ P I N Z bo, RwL w (parOf l) v4 (i + 1) (gnAll (l.take (i + 1))) w4 P I N Z bo) := by rw [hHn.out]; exact hAf.out _ _ _ A4.out
            go_roundw
            case rel => exact ⟨i + 1, (by first | rfl | go_num), by omega, R6⟩
            case measure => (simp [intOf]) <;> omega
      · have hi1 : (0 : Int) < (i : Int) := by omega
        have hip : Hid (0 < i) := by show _ < _; omega
        obtain ⟨m, hm⟩ : ∃ m, m = r.up % i := ⟨_, rfl⟩
        have hmi : ((r.up : Nat) : Int) % ((i : Nat) : Int) = (m : Nat) := by rw [hm]; exact (Int.natCast_emod _ _).symm
        have hmlt : (m : Int) < (i : Int) := by have := Nat.mod_lt r.up hip.out; omega
        have hAc : Hid (∀ k v4 w4, Ap w wr I N G i r a3 n3 c3 k v4 w4 → ∃ g4 cap4, v4 = .slice (some ⟨g4, 0, none⟩) (i + 1) cap4 ∧ w4.cell? ⟨g4, m, none⟩ = some (ptv (N ++ [k]) m) ∧ w4.cell? ⟨wr.heap.size, 4, none⟩ = some (.int .u8 (r.up : Nat)) ∧ w4.cell? ⟨wr.heap.size, 5, none⟩ = some (.int .u8 (r.b : Nat))) := fun k v4 w4 q => ap_cells (by rw [R.out.rs.lenN, R.out.len]) (by rw [hm]; exact Nat.mod_lt _ hip.out) q
        have hKd : Hid (∀ k v4 w4, Ap w wr I N G i r a3 n3 c3 k v4 w4 → Calls Tryd.prog 14 #[ptv (N ++ [k]) m, .int .u64 1, .int .u8 (r.b : Nat), .pointer (some ⟨k, 0, none⟩)] (w4.drewN 1) fun e w5 => (∃ x, e = .returned (.int .i64 x)) ∧ ∃ P I N Z bo, RwL w (parOf l) v4 (i + 1) (gnOne G r) w5 P I N Z bo) := fun k v4 w4 q => by rw [hm]; exact ap_kid R.out hip.out hHr.out hHp.out q 1
        have hm2 : (m : Int) < (i : Int) + 1 := by omega
        have hup : ((r.up : Nat) : Int) < 256 := by have := hHr.out.2.2.2.2.1; omega
        clear hm hi0
        cases hlf : r.leaf with
        | true =>
          rw [hlf] at k0 hInn
          go_wp2_with (first
            | (at_builtin; go_loud (refine wpList_append_s rfl (.tmp 34) (.tmp 36) 49 rfl npT _ 1 8 Tryd.underlying49 npInfo rfl (by omega) _ rfl i (ptl N) bo (md_own R.out M3.out _) ⟨_, 0, none⟩ 1 1 [.pointer (some ⟨k, 0, none⟩)] rfl rfl (ptr_news _ _ _) (one_ptr k) hb1.out hb2.out ?_); intro v4 w4 bo4 HO HM HN
               have A4 := Lib.hid (md_app R.out M3.out HO.out HM.out HN.out)
               clear HO HM HN)
            | (go_at_call 12; refine (hLf.out _ _ M2.out B2.out hlf).mono ?_; rintro e w3 ⟨k, rfl, m3⟩
               have M3 := Lib.hid m3
               clear m3 y0 y1 y2 y3 y4 y5)
            | (go_at_call 11; refine hInn.out.mono ?_; rintro e w2 ⟨k', rfl, m2, b2⟩
               have M2 := Lib.hid m2
               have B2 := Lib.hid b2
               obtain ⟨_, _, _, _, _, hbx, _, _⟩ := m2
               obtain ⟨y0, y1, y2, y3, y4, y5⟩ := hbx.cells
               rw [hlf] at y0
               clear b2 hbx))
          obtain ⟨g4, cap4, hv4, x1, x2, x3⟩ := hAc.out _ _ _ A4.out
          subst hv4
          have hSK := Lib.hid (hKd.out _ _ _ A4.out)
          go_region_with (first | (go_at_call 14; refine hSK.out.mono ?_; rintro e w5 ⟨⟨x, rfl⟩, hR5⟩; have R5 := Lib.hid hR5; clear hR5))
          all_goals (
            have R6 : Hid (∃ P I N Z bo, RwL w (parOf l) (.slice (some ⟨g4, 0, none⟩) (i + 1) cap4) (i + 1) (gnAll (l.take (i + 1))) w5 P I N Z bo) := by rw [hHn.out]; exact R5.out
            clear R5 hSK
            (try simp only [Exit.then, Exit.inBlock])
            go_wp2_with fail
            go_roundw
            case rel => exact ⟨i + 1, (by first | rfl | go_num), by omega, R6⟩
            case measure => (simp [intOf]) <;> omega)
        | false =>
          rw [hlf] at k0 hInn
          cases hhs : r.has with
          | true =>
            rw [hhs] at k2 hInn
            go_wp2_with (first
              | (at_builtin; go_loud (refine wpList_append_s rfl (.tmp 34) (.tmp 36) 49 rfl npT _ 1 8 Tryd.underlying49 npInfo rfl (by omega) _ rfl i (ptl N) bo (md_own R.out M3.out _) ⟨_, 0, none⟩ 1 1 [.pointer (some ⟨k, 0, none⟩)] rfl rfl (ptr_news _ _ _) (one_ptr k) hb1.out hb2.out ?_); intro v4 w4 bo4 HO HM HN
                 have A4 := Lib.hid (md_app R.out M3.out HO.out HM.out HN.out)
                 clear HO HM HN)
              | (go_at_call 13; refine (hSV.out _ _ M2.out hlf hhs).mono ?_; rintro e w3 ⟨⟨xs, rfl⟩, m3⟩
                 have M3 := Lib.hid m3
                 clear m3 y0 y1 y2 y3 y4 y5)
              | (go_at_call 11; refine hInn.out.mono ?_; rintro e w2 ⟨k, rfl, m2, b2⟩
                 have M2 := Lib.hid m2
                 have B2 := Lib.hid b2
                 obtain ⟨_, _, _, _, _, hbx, _, _⟩ := m2
                 obtain ⟨y0, y1, y2, y3, y4, y5⟩ := hbx.cells
                 rw [hlf] at y0
                 rw [hhs] at y2
                 clear b2 hbx))
            obtain ⟨g4, cap4, hv4, x1, x2, x3⟩ := hAc.out _ _ _ A4.out
            subst hv4
            have hSK := Lib.hid (hKd.out _ _ _ A4.out)
            go_region_with (first | (go_at_call 14; refine hSK.out.mono ?_; rintro e w5 ⟨⟨x, rfl⟩, hR5⟩; have R5 := Lib.hid hR5; clear hR5))
            all_goals (
              have R6 : Hid (∃ P I N Z bo, RwL w (parOf l) (.slice (some ⟨g4, 0, none⟩) (i + 1) cap4) (i + 1) (gnAll (l.take (i + 1))) w5 P I N Z bo) := by rw [hHn.out]; exact R5.out
              clear R5 hSK
              (try simp only [Exit.then, Exit.inBlock])
              go_wp2_with fail
              go_roundw
              case rel => exact ⟨i + 1, (by first | rfl | go_num), by omega, R6⟩
              case measure => (simp [intOf]) <;> omega)
          | false =>
            rw [hhs] at k2 hInn
            go_wp2_with (first
              | (at_builtin; go_loud (refine wpList_append_s rfl (.tmp 34) (.tmp 36) 49 rfl npT _ 1 8 Tryd.underlying49 npInfo rfl (by omega) _ rfl i (ptl N) bo (md_own R.out M3.out _) ⟨_, 0, none⟩ 1 1 [.pointer (some ⟨k, 0, none⟩)] rfl rfl (ptr_news _ _ _) (one_ptr k) hb1.out hb2.out ?_); intro v4 w4 bo4 HO HM HN
                 have A4 := Lib.hid (md_app R.out M3.out HO.out HM.out HN.out)
                 clear HO HM HN)
              | (go_at_call 11; refine hInn.out.mono ?_; rintro e w2 ⟨k, rfl, m2, b2⟩
                 have M2 := Lib.hid m2
                 have B2 := Lib.hid b2
                 obtain ⟨_, _, _, _, _, hbx, _, _⟩ := m2
                 obtain ⟨y0, y1, y2, y3, y4, y5⟩ := hbx.cells
                 rw [hlf] at y0
                 rw [hhs] at y2
                 have M3 := Lib.hid (md_none M2.out hlf hhs)
                 clear b2 hbx))
            obtain ⟨g4, cap4, hv4, x1, x2, x3⟩ := hAc.out _ _ _ A4.out
            subst hv4
            have hSK := Lib.hid (hKd.out _ _ _ A4.out)
            go_region_with (first | (go_at_call 14; refine hSK.out.mono ?_; rintro e w5 ⟨⟨x, rfl⟩, hR5⟩; have R5 := Lib.hid hR5; clear hR5))
            all_goals (
              have R6 : Hid (∃ P I N Z bo, RwL w (parOf l) (.slice (some ⟨g4, 0, none⟩) (i + 1) cap4) (i + 1) (gnAll (l.take (i + 1))) w5 P I N Z bo) := by rw [hHn.out]; exact R5.out
              clear R5 hSK
              (try simp only [Exit.then, Exit.inBlock])
              go_wp2_with fail
              go_roundw
              case rel => exact ⟨i + 1, (by first | rfl | go_num), by omega, R6⟩
              case measure => (simp [intOf]) <;> omega)
    · have hlt2 : ¬ (i : Int) < (n : Int) := by omega
      obtain rfl : i = n := by omega
      obtain ⟨g, cap, _, hv, hc, _⟩ := R.out.own.at_ (j := 0) (by omega)
      subst hv
      have hN : 0 < N.length := by rw [R.out.rs.lenN, R.out.len]; exact h0
      have hc0 : wr.cell? ⟨g, 0, none⟩ = some (ptv N 0) := by
        rw [hc]
        unfold ptl ptv
        rw [List.getElem?_map, List.getElem?_eq_getElem hN]
        simp [List.getD, List.getElem?_eq_getElem hN]
      have hi1 : (0 : Int) < (i : Int) := by omega
      have R6 : Hid (∃ P I N0 Z bo v, RwL w (parOf l) v i (gnAll l) wr P I N0 Z bo ∧ ptv N0 0 = ptv N 0) := by
        have := R.out
        rw [List.take_of_length_le (by rw [hl.out]; exact Nat.le_refl _)] at this
        exact ⟨_, _, _, _, _, _, this, rfl⟩
      clear hc R hN
      go_wp2_with fail
      go_ret
      obtain ⟨P, I, N0, Z, bo, v, q1, q2⟩ := R6.out
      unfold RawsPost
      exact ⟨_, P, I, N0, Z, bo, v, rfl, q1, q2⟩
end Go.Proofs.YtgijnjdcpipfiaaDoor
/- A tree's shape tells the tree; so a tree is fine just if its shape is that of the canonical tree of its pairs. No program. -/
namespace Go.Proofs.YtgijnjdcpipfiaaDoor
/-- rows of letters of one kind, each up to a letter of another kind -/
theorem cut_eq {p : UInt8 → Prop} : ∀ {l1 l2 r1 r2 : List UInt8}, (∀ x ∈ l1, p x) → (∀ x ∈ l2, p x) → (∀ x, r1.head? = some x → ¬ p x) → (∀ x, r2.head? = some x → ¬ p x) → l1 ++ r1 = l2 ++ r2 → l1 = l2 ∧ r1 = r2
  | [], [], r1, r2, _, _, _, _, h => ⟨rfl, h⟩
  | [], y :: l2, r1, r2, _, h2, h3, _, h => (h3 y (by have : r1 = y :: (l2 ++ r2) := h; rw [this]; rfl) (h2 y (by simp))).elim
  | x :: l1, [], r1, r2, h1, _, _, h4, h => (h4 x (by have : x :: (l1 ++ r1) = r2 := h; rw [← this]; rfl) (h1 x (by simp))).elim
  | x :: l1, y :: l2, r1, r2, h1, h2, h3, h4, h => by
    have h' : x :: (l1 ++ r1) = y :: (l2 ++ r2) := h
    injection h' with e1 e2
    obtain ⟨q1, q2⟩ := cut_eq (fun z hz => h1 z (by simp [hz])) (fun z hz => h2 z (by simp [hz])) h3 h4 e2
    exact ⟨by rw [e1, q1], q2⟩
def HxD (x : UInt8) : Prop := (48 ≤ x.toNat ∧ x.toNat ≤ 57) ∨ (97 ≤ x.toNat ∧ x.toNat ≤ 102)
def DcD (x : UInt8) : Prop := 48 ≤ x.toNat ∧ x.toNat ≤ 57
/-- letters that stop a row of digits -/
def Stp (r : List UInt8) : Prop := ∀ x, r.head? = some x → x = 58 ∨ x = 62
theorem Stp.hx {r : List UInt8} (h : Stp r) : ∀ x, r.head? = some x → ¬ HxD x := fun x hx e => by
  rcases h x hx with rfl | rfl <;> simp [HxD] at e
theorem Stp.dc {r : List UInt8} (h : Stp r) : ∀ x, r.head? = some x → ¬ DcD x := fun x hx e => by
  rcases h x hx with rfl | rfl <;> simp [DcD] at e
theorem hexN_toNat {d : Nat} (h : d < 16) : (UInt8.ofNat (hexN d)).toNat = hexN d := by
  have := hexN_lt h
  simp only [UInt8.toNat_ofNat']
  omega
theorem hexN_hx {d : Nat} (h : d < 16) : HxD (UInt8.ofNat (hexN d)) := by
  unfold HxD
  rw [hexN_toNat h]
  unfold hexN
  split <;> omega
theorem hexN_inj {d e : Nat} (h : d < 16) (h' : e < 16) (q : UInt8.ofNat (hexN d) = UInt8.ofNat (hexN e)) : d = e := by
  have := congrArg UInt8.toNat q
  rw [hexN_toNat h, hexN_toNat h'] at this
  unfold hexN at this
  split at this <;> split at this <;> omega
theorem hex_hx {bs : List Nat} (h : ∀ b ∈ bs, b < 256) : ∀ x ∈ u8s (hexL bs), HxD x := fun x hx => by
  unfold u8s hexL hexB at hx
  simp only [List.mem_map, List.mem_flatMap, List.mem_cons, List.not_mem_nil, or_false] at hx
  obtain ⟨a, ⟨b, hb, rfl | rfl⟩, rfl⟩ := hx
  · exact hexN_hx (by have := h b hb; omega)
  · exact hexN_hx (by omega)
theorem hex_inj : ∀ {a b : List Nat}, (∀ x ∈ a, x < 256) → (∀ x ∈ b, x < 256) → u8s (hexL a) = u8s (hexL b) → a = b
  | [], [], _, _, _ => rfl
  | [], y :: b, _, _, h => by simp [u8s, hexL, hexB] at h
  | x :: a, [], _, _, h => by simp [u8s, hexL, hexB] at h
  | x :: a, y :: b, ha, hb, h => by
    have h' : UInt8.ofNat (hexN (x / 16)) :: UInt8.ofNat (hexN (x % 16)) :: u8s (hexL a) = UInt8.ofNat (hexN (y / 16)) :: UInt8.ofNat (hexN (y % 16)) :: u8s (hexL b) := h
    injection h' with e1 e2
    injection e2 with e2 e3
    have hx := ha x (by simp)
    have hy := hb y (by simp)
    have q1 := hexN_inj (by omega) (by omega) e1
    have q2 := hexN_inj (by omega) (by omega) e2
    have q3 := hex_inj (fun z hz => ha z (by simp [hz])) (fun z hz => hb z (by simp [hz])) e3
    rw [q3, show x = y from by omega]
/-- digits, read again -/
def valD (l : List UInt8) : Nat := l.foldl (fun a x => a * 10 + (x.toNat - 48)) 0
theorem valD_snoc (l : List UInt8) (x : UInt8) : valD (l ++ [x]) = valD l * 10 + (x.toNat - 48) := by simp [valD]
theorem dig_toNat {d : Nat} (h : d < 10) : (UInt8.ofNat (48 + d)).toNat = 48 + d := by
  simp only [UInt8.toNat_ofNat']
  omega
theorem decU_step (u : Nat) : decU u = if u < 10 then [UInt8.ofNat (48 + u)] else decU (u / 10) ++ [UInt8.ofNat (48 + u % 10)] := by
  unfold decU
  conv => lhs; unfold Lib.decDigits
  split <;> rfl
theorem valD_dec (u : Nat) : valD (decU u) = u := by
  induction u using Nat.strongRecOn with
  | ind u ih =>
    rw [decU_step]
    split
    · rename_i h
      show 0 * 10 + _ = _
      rw [dig_toNat h]; omega
    · rename_i h
      rw [valD_snoc, ih (u / 10) (by omega), dig_toNat (by omega)]
      omega
theorem decU_dc (u : Nat) : ∀ x ∈ decU u, DcD x := by
  induction u using Nat.strongRecOn with
  | ind u ih =>
    rw [decU_step]
    split
    · rename_i h
      intro x hx
      simp only [List.mem_cons, List.not_mem_nil, or_false] at hx
      subst hx
      unfold DcD
      rw [dig_toNat h]; omega
    · rename_i h
      intro x hx
      rcases List.mem_append.1 hx with hx | hx
      · exact ih (u / 10) (by omega) x hx
      · simp only [List.mem_cons, List.not_mem_nil, or_false] at hx
        subst hx
        unfold DcD
        rw [dig_toNat (by omega)]; omega
theorem decU_inj {a b : Nat} (h : decU a = decU b) : a = b := by rw [← valD_dec a, ← valD_dec b, h]
theorem decU_head (u : Nat) : ∃ x r, decU u = x :: r ∧ DcD x := by
  cases h : decU u with
  | nil =>
    rw [decU_step] at h
    split at h <;> simp at h
  | cons x r => exact ⟨x, r, rfl, decU_dc u x (by rw [h]; simp)⟩
theorem shpK_stp : ∀ {t : Tr}, IsK t → ∀ r, Stp (shp t ++ 62 :: r)
  | .nil, _, r => fun x hx => by simp [shp] at hx; exact Or.inr hx.symm
  | .kid b t rr, _, r => fun x hx => by simp [shp] at hx; exact Or.inl hx.symm
  | .node .., h, r => h.elim
def ShN (t : Tr) : Prop := ∀ (t' : Tr) (r r' : List UInt8), IsN t → IsN t' → TOk t → TOk t' → Stp r → Stp r' → shp t ++ r = shp t' ++ r' → t = t' ∧ r = r'
def ShK (t : Tr) : Prop := ∀ (t' : Tr) (r r' : List UInt8), IsK t → IsK t' → TOk t → TOk t' → shp t ++ 62 :: r = shp t' ++ 62 :: r' → t = t' ∧ r = r'
theorem shp_nd (bs : List Nat) (v : Int) (has : Bool) (ks : Tr) (r : List UInt8) : shp (.node bs v has false ks) ++ r = decU (kindOf (krowC ks)) ++ (60 :: (u8s (hexL bs) ++ ((if has then 61 :: decU v.toNat else []) ++ (shp ks ++ 62 :: r)))) := by
  simp only [shp, Bool.false_eq_true, if_false, List.append_assoc, List.cons_append, List.nil_append]
theorem shp_lf (bs : List Nat) (v : Int) (r : List UInt8) : shp (.node bs v true true .nil) ++ r = 76 :: (u8s (hexL bs) ++ (61 :: (decU v.toNat ++ r))) := by
  simp [shp]
theorem shp_kd (b : Nat) (t rr : Tr) (r : List UInt8) : shp (.kid b t rr) ++ r = 58 :: (u8s (hexL [b]) ++ (shp t ++ (shp rr ++ r))) := by
  simp [shp]
theorem no61 {l : List UInt8} : ∀ x, (61 :: l).head? = some x → ¬ HxD x := fun x hx => by simp at hx; subst hx; simp [HxD]
theorem no60 {l : List UInt8} : ∀ x, (60 :: l).head? = some x → ¬ DcD x := fun x hx => by simp at hx; subst hx; simp [DcD]
theorem toNat_eq {v v' : Int} (h0 : 0 ≤ v) (h1 : 0 ≤ v') (h : v.toNat = v'.toNat) : v = v' := by omega
theorem shp_inj : ∀ t : Tr, ShN t ∧ ShK t := by
  intro t
  induction t with
  | nil =>
    refine ⟨fun t' r r' h => h.elim, fun t' r r' _ hk _ _ h => ?_⟩
    cases t' with
    | nil => exact ⟨rfl, by simpa [shp] using h⟩
    | kid b t rr => simp [shp] at h
    | node => exact hk.elim
  | kid b t rr ih1 ih2 =>
    refine ⟨fun t' r r' h => h.elim, fun t' r r' _ hk o p h => ?_⟩
    cases t' with
    | nil => simp [shp] at h
    | node => exact hk.elim
    | kid b' t' rr' =>
      obtain ⟨o1, o2, o3, o4, o5, o6⟩ := o
      obtain ⟨p1, p2, p3, p4, p5, p6⟩ := p
      rw [shp_kd, shp_kd] at h
      injection h with _ h
      obtain ⟨e1, e2⟩ := List.append_inj h (by simp [u8s, hexL_len])
      have e3 := hex_inj (by simpa using o1) (by simpa using p1) e1
      obtain ⟨e4, e5⟩ := ih1.1 t' _ _ o2 p2 o3 p3 (shpK_stp o4 r) (shpK_stp p4 r') e2
      obtain ⟨e6, e7⟩ := ih2.2 rr' r r' o4 p4 o5 p5 e5
      exact ⟨by rw [show b = b' from by simpa using e3, e4, e6], e7⟩
  | node bs v has leaf ks ih =>
    refine ⟨fun t' r r' _ hn o p hr hr' h => ?_, fun t' r r' h => h.elim⟩
    cases t' with
    | nil => exact hn.elim
    | kid => exact hn.elim
    | node bs' v' has' leaf' ks' =>
      obtain ⟨o1, o2, o3, o4, o5, o6, o7⟩ := o
      obtain ⟨p1, p2, p3, p4, p5, p6, p7⟩ := p
      cases leaf with
      | true =>
        obtain ⟨rfl, rfl⟩ := o5 rfl
        cases leaf' with
        | true =>
          obtain ⟨rfl, rfl⟩ := p5 rfl
          rw [shp_lf, shp_lf] at h
          injection h with _ h
          obtain ⟨e1, e2⟩ := cut_eq (hex_hx o1) (hex_hx p1) no61 no61 h
          injection e2 with _ e2
          obtain ⟨e3, e4⟩ := cut_eq (decU_dc _) (decU_dc _) hr.dc hr'.dc e2
          exact ⟨by rw [hex_inj o1 p1 e1, toNat_eq o2 p2 (decU_inj e3)], e4⟩
        | false =>
          rw [shp_lf, shp_nd] at h
          obtain ⟨x, l, e1, e2⟩ := decU_head (kindOf (krowC ks'))
          rw [e1] at h
          injection h with e3 _
          subst e3
          simp [DcD] at e2
      | false =>
        cases leaf' with
        | true =>
          obtain ⟨rfl, rfl⟩ := p5 rfl
          rw [shp_lf, shp_nd] at h
          obtain ⟨x, l, e1, e2⟩ := decU_head (kindOf (krowC ks))
          rw [e1] at h
          injection h with e3 _
          subst e3
          simp [DcD] at e2
        | false =>
          rw [shp_nd, shp_nd] at h
          obtain ⟨_, h⟩ := cut_eq (decU_dc _) (decU_dc _) no60 no60 h
          injection h with _ h
          have s1 := shpK_stp o6 r
          have s2 := shpK_stp p6 r'
          cases has with
          | true =>
            cases has' with
            | true =>
              simp only [if_true, List.cons_append] at h
              obtain ⟨e1, e2⟩ := cut_eq (hex_hx o1) (hex_hx p1) no61 no61 h
              injection e2 with _ e2
              obtain ⟨e3, e4⟩ := cut_eq (decU_dc _) (decU_dc _) s1.dc s2.dc e2
              obtain ⟨e5, e6⟩ := ih.2 ks' r r' o6 p6 o7 p7 e4
              exact ⟨by rw [hex_inj o1 p1 e1, toNat_eq o2 p2 (decU_inj e3), e5], e6⟩
            | false =>
              simp only [if_true, Bool.false_eq_true, if_false, List.cons_append, List.nil_append] at h
              obtain ⟨e1, e2⟩ := cut_eq (hex_hx o1) (hex_hx p1) no61 s2.hx h
              rcases s2 61 (by rw [← e2]; rfl) with q | q <;> cases q
          | false =>
            cases has' with
            | true =>
              simp only [if_true, Bool.false_eq_true, if_false, List.cons_append, List.nil_append] at h
              obtain ⟨e1, e2⟩ := cut_eq (hex_hx o1) (hex_hx p1) s1.hx no61 h
              rcases s1 61 (by rw [e2]; rfl) with q | q <;> cases q
            | false =>
              simp only [Bool.false_eq_true, if_false, List.nil_append] at h
              obtain ⟨e1, e2⟩ := cut_eq (hex_hx o1) (hex_hx p1) s1.hx s2.hx h
              obtain ⟨e5, e6⟩ := ih.2 ks' r r' o6 p6 o7 p7 e2
              exact ⟨by rw [hex_inj o1 p1 e1, o4 rfl, p4 rfl, e5], e6⟩
/-- the shape of a node tells the tree -/
theorem shpT_inj {t t' : Tr} (h : IsN t) (h' : t' = .nil ∨ IsN t') (o : TOk t) (o' : TOk t') (e : shpT t = shpT t') : t = t' := by
  have hT : shpT t = shp t := by cases t <;> first | rfl | exact h.elim
  have hd : ∀ x, (shp t).head? = some x → x ≠ 46 := fun x hx q => by
    subst q
    cases t with
    | nil => exact h.elim
    | kid => exact h.elim
    | node bs v has leaf ks =>
      cases leaf with
      | true => simp [shp] at hx
      | false =>
        obtain ⟨x, l, e1, e2⟩ := decU_head (kindOf (krowC ks))
        simp only [shp, Bool.false_eq_true, if_false] at hx
        rw [e1] at hx
        simp at hx
        subst hx
        simp [DcD] at e2
  rcases h' with rfl | h'
  · rw [hT] at e
    exact (hd 46 (by rw [e]; rfl) rfl).elim
  · have hT' : shpT t' = shp t' := by cases t' <;> first | rfl | exact h'.elim
    rw [hT, hT'] at e
    exact ((shp_inj t).1 t' [] [] h h' o o' (fun x hx => by simp at hx) (fun x hx => by simp at hx) (by rw [e])).1
/-- fine trees are the canonical ones, if no key is too long -/
theorem fine_can : ∀ (t : Tr) (k : List Nat), TOk t → k.length + tway t ≤ 65535 → ((tv fnT t k).all id = true ↔ Can t)
  | .nil, k, _, _ => by simp [tv, Can]
  | .kid b t r, k, ⟨h1, h2, h3, h4, h5, h6⟩, hl => by
    simp only [tway] at hl
    simp only [tv, List.all_append, Bool.and_eq_true, Can]
    rw [fine_can t (k ++ [b]) h3 (by simp; omega), fine_can r k h5 (by omega)]
  | .node bs v has leaf ks, k, ⟨h1, h2, h3, h4, h5, h6, h7⟩, hl => by
    simp only [tway] at hl
    simp only [tv, List.all_append, Bool.and_eq_true, Can]
    rw [fine_can ks (k ++ bs) h7 (by simp; omega)]
    have hn : ¬ 65535 < (k ++ bs).length := by simp; omega
    rw [and_comm]
    refine and_congr_right fun _ => ?_
    unfold fnT
    simp only [hn, decide_false, Bool.and_false, Bool.or_false, List.all_cons, List.all_nil, Bool.and_true, id]
    cases leaf <;> cases has <;> simp <;> omega
/-- a tree is fine just if its shape is that of the canonical tree of its pairs -/
theorem fine_shape {t c : Tr} (h : IsN t) (hc : c = .nil ∨ IsN c) (o : TOk t) (o' : TOk c) (hC : Can c) (e : tl c = tl t) (hl : tway t ≤ 65535) : fineB t = decide (shpT t = shpT c) := by
  have hf : fineB t = true ↔ Can t := fine_can t [] o (by simpa using hl)
  by_cases hs : shpT t = shpT c
  · rw [decide_eq_true hs]
    have := shpT_inj h hc o o' hs
    rw [hf, this]; exact hC
  · rw [decide_eq_false hs]
    rw [Bool.eq_false_iff]
    intro hb
    have hCt := hf.1 hb
    refine hs ?_
    rcases hc with rfl | hc
    · exact (tl_ne t h o hCt (by rw [← e]; rfl)).elim
    · rw [can_eq hc h o' o hC hCt e]
end Go.Proofs.YtgijnjdcpipfiaaDoor
/- How many nodes, how long a shape, how long a way. No program. -/
namespace Go.Proofs.YtgijnjdcpipfiaaDoor
open Go.RowKit
theorem can_sz : ∀ (t : Tr), TOk t → Can t → (IsN t → tsz t + 1 ≤ 2 * (tl t).length) ∧ (IsK t → tsz t + (chain t).length ≤ 2 * (tl t).length)
  | .nil, _, _ => ⟨fun h => h.elim, fun _ => by simp [tsz, chain]⟩
  | .kid b t r, ⟨o1, o2, o3, o4, o5, o6⟩, ⟨c1, c2⟩ => by
    refine ⟨fun h => h.elim, fun _ => ?_⟩
    have h1 := (can_sz t o3 c1).1 o2
    have h2 := (can_sz r o5 c2).2 o4
    simp only [tsz, chain, tl, List.length_append, List.length_cons, pre, List.length_map]
    omega
  | .node bs v has leaf ks, ⟨o1, o2, o3, o4, o5, o6, o7⟩, ⟨c1, c2⟩ => by
    refine ⟨fun _ => ?_, fun h => h.elim⟩
    have h2 := (can_sz ks o7 c1).2 o6
    simp only [tsz, tl, List.length_append, pre, List.length_map]
    cases leaf with
    | true =>
      obtain ⟨e1, e2⟩ := o5 rfl
      subst e1; subst e2
      simp [tsz, tl]
    | false =>
      have h3 := c2 rfl
      cases has with
      | true => simp at h3 ⊢; omega
      | false => simp at h3 ⊢; omega
theorem tl_sz : ∀ (t : Tr), (tl t).length ≤ tsz t
  | .nil => Nat.le_refl _
  | .kid b t r => by
    have h1 := tl_sz t
    have h2 := tl_sz r
    simp only [tl, tsz, List.length_append, pre, List.length_map]
    omega
  | .node bs v has leaf ks => by
    have h2 := tl_sz ks
    simp only [tl, tsz, List.length_append, pre, List.length_map]
    cases has <;> simp <;> omega
theorem tv_sz : ∀ (t : Tr) (k : List Nat), (tv fnT t k).length = tsz t
  | .nil, k => rfl
  | .kid b t r, k => by simp only [tv, tsz, List.length_append, tv_sz t, tv_sz r]
  | .node bs v has leaf ks, k => by simp only [tv, tsz, List.length_append, tv_sz ks, fnT, List.length_singleton]
theorem dec3 (m : Nat) : (decU (kindOf m)).length ≤ 20 := decU_len (by unfold kindOf; split <;> (try split) <;> (try split) <;> omega)
/-- a shape is no longer than its nodes, each with no more than W bytes on its way -/
theorem shp_len (W : Nat) : ∀ (t : Tr), TOk t → tway t ≤ W → (shp t).length ≤ tsz t * (2 * W + 900) + (chain t).length * 3
  | .nil, _, _ => Nat.zero_le _
  | .kid b t r, ⟨o1, o2, o3, o4, o5, o6⟩, hw => by
    simp only [tway] at hw
    have h1 := shp_len W t o3 (by omega)
    have h2 := shp_len W r o5 (by omega)
    have hc : (chain t).length = 0 := by cases t <;> first | rfl | exact o2.elim
    simp only [shp, tsz, chain, List.length_append, List.length_cons, u8s, List.length_map, hexL_len, Nat.add_mul]
    simp only [List.length_nil]
    omega
  | .node bs v has leaf ks, ⟨o1, o2, o3, o4, o5, o6, o7⟩, hw => by
    simp only [tway] at hw
    have h2 := shp_len W ks o7 (by omega)
    have hd := dec3 (krowC ks)
    have hv : (decU v.toNat).length ≤ 20 := decU_len (by omega)
    have hk : (chain ks).length ≤ 256 := chain256 o6 o7
    have hx : (if has then 61 :: decU v.toNat else []).length ≤ 21 := by cases has <;> simp <;> omega
    have hs : (shp (.node bs v has leaf ks)).length ≤ 21 + (2 * bs.length + (21 + ((shp ks).length + 1))) := by
      simp only [shp, List.length_append, u8s, List.length_map, hexL_len]
      cases leaf <;> simp <;> omega
    have e : tsz (.node bs v has leaf ks) * (2 * W + 900) = (2 * W + 900) + tsz ks * (2 * W + 900) := by
      show (1 + tsz ks) * _ = _
      rw [Nat.add_mul, Nat.one_mul]
    rw [e]
    omega
theorem way_key : ∀ (t : Tr) (K : Nat), TOk t → Can t → (∀ p ∈ tl t, p.1.length ≤ K) → tway t ≤ K
  | .nil, K, _, _, _ => Nat.zero_le _
  | .kid b t r, K, ⟨o1, o2, o3, o4, o5, o6⟩, ⟨c1, c2⟩, h => by
    have h2 := way_key r K o5 c2 (fun p hp => h p (by simp only [tl]; exact List.mem_append_right _ hp))
    have hp : ∀ p ∈ tl t, p.1.length + 1 ≤ K := fun p hp => by
      have := h ([b] ++ p.1, p.2) (by simp only [tl]; exact List.mem_append_left _ (List.mem_map.2 ⟨p, hp, rfl⟩))
      simpa using this
    obtain ⟨x, hx⟩ := List.exists_mem_of_ne_nil _ (tl_ne t o2 o3 c1)
    have h1 := way_key t (K - 1) o3 c1 (fun p hq => by have := hp p hq; omega)
    have := hp x hx
    simp only [tway]
    omega
  | .node bs v has leaf ks, K, ⟨o1, o2, o3, o4, o5, o6, o7⟩, ⟨c1, c2⟩, h => by
    have hp : ∀ p ∈ tl ks, p.1.length + bs.length ≤ K := fun p hp => by
      have := h (bs ++ p.1, p.2) (by simp only [tl]; exact List.mem_append_right _ (List.mem_map.2 ⟨p, hp, rfl⟩))
      simp at this; omega
    have hb : bs.length ≤ K := by
      cases has with
      | true => have := h (bs, v) (by simp [tl]); simpa using this
      | false =>
        have h3 : 2 ≤ (if false = true then 1 else 0) + (chain ks).length := c2 (by cases leaf with
          | true => exact absurd (o5 rfl).1 (by simp)
          | false => rfl)
        cases ks with
        | nil => simp [chain] at h3
        | node => exact o6.elim
        | kid b t r =>
          obtain ⟨x, hx⟩ := List.exists_mem_of_ne_nil _ (tl_ne t o7.2.1 o7.2.2.1 c1.1)
          have := hp ([b] ++ x.1, x.2) (by simp only [tl]; exact List.mem_append_left _ (List.mem_map.2 ⟨x, hx, rfl⟩))
          omega
    have h1 := way_key ks (K - bs.length) o7 c1 (fun p hq => by have := hp p hq; omega)
    simp only [tway]
    omega
theorem key_way' : ∀ (t : Tr), ∀ p ∈ tl t, p.1.length ≤ tway t
  | .nil, p, h => by simp [tl] at h
  | .kid b t r, p, h => by
    simp only [tl] at h
    simp only [tway]
    rcases List.mem_append.1 h with h | h
    · obtain ⟨q, hq, rfl⟩ := List.mem_map.1 h
      have := key_way' t q hq
      simp only [List.singleton_append, List.length_cons]
      omega
    · have := key_way' r p h
      omega
  | .node bs v has leaf ks, p, h => by
    simp only [tl] at h
    simp only [tway]
    rcases List.mem_append.1 h with h | h
    · cases has
      · simp at h
      · simp at h; subst h; simp
    · obtain ⟨q, hq, rfl⟩ := List.mem_map.1 h
      have := key_way' ks q hq
      simp only [List.length_append]
      omega
end Go.Proofs.YtgijnjdcpipfiaaDoor
/- law CanonFine: the walk. -/
namespace Go.Proofs.YtgijnjdcpipfiaaDoor
open Go.RowKit
/-- what is said of a tree in later worlds -/
structure TSay (w : World) (v : Value) (f : Bool) (s : ByteArray) : Prop where
  fine : ∀ X, Below w.heap.size w X → Calls Tryd.prog 9 #[v] X (belowPost (.bool f) X)
  shape : ∀ X, Below w.heap.size w X → Calls Tryd.prog 10 #[v] X (belowPost (.string s) X)
theorem tsay_of {w0 w : World} {Q : List NP} {t : Tr} {p : Option Addr} (hP : PTab w) (hQ : StoreP NoB w0 w Q) (hT : TreeV Q t (.pointer p)) (hO : TOk t) (hway : tway t ≤ 7224) (hsz : tsz t ≤ 1152) (hn : t = .nil ∨ IsN t) : TSay w (.pointer p) (fineB t) ⟨(shpT t).toArray⟩ := by
  refine ⟨fun X hX => fine_any (hQ.below hX) hT hO (by omega) (by rw [tv_sz]; omega), fun X hX => canon_shape (hP.below hX) (hQ.below hX) hT hO ?_ (by omega)⟩
  have h := shp_len 7224 t hO hway
  have hc : (chain t).length = 0 := by
    rcases hn with rfl | hn
    · rfl
    · cases t <;> first | rfl | exact hn.elim
  have : tsz t * (2 * 7224 + 900) ≤ 1152 * (2 * 7224 + 900) := Nat.mul_le_mul_right _ hsz
  omega
/-- the told tree, its canonical one -/
theorem raws_say {w w1 : World} {par : Nat → Nat} {v0 : Value} {n : Nat} {G : List GN} {P : List NP} {I N : List Nat} {Z : Nat → Prop} {bo : Option Nat} {k : Nat} (hP : PTab w) (h0 : 0 < n) (h24 : n ≤ 24) (h : RwL w par v0 n G w1 P I N Z bo) (hk : ptv N 0 = .pointer (some ⟨k, 0, none⟩)) :
    ∃ T, Below w.heap.size w w1 ∧ TSay w1 (.pointer (some ⟨k, 0, none⟩)) (fineB T) ⟨(shpT T).toArray⟩ ∧ (∀ X, Below w1.heap.size w1 X → Calls Tryd.prog 8 #[.pointer (some ⟨k, 0, none⟩)] X (prsPost (tl T) X)) ∧
      ∀ X b m, Below w1.heap.size w1 X → Prs X b (tl T).length m (tl T) → Calls Tryd.prog 7 #[.pointer none, .int .u64 2, .slice b (tl T).length m] X fun e X' => ∃ v s, e = .returned (.tuple #[v, .int .i64 0]) ∧ Below X.heap.size X X' ∧ TSay X' v true s ∧ fineB T = decide ((⟨(shpT T).toArray⟩ : ByteArray) = s) := by
  have hI := raws_tree h.rs h.ok n 0 (by rw [h.len]; omega) (by rw [h.len]; exact h0)
  have hN : IsN (gtr G n 0) := gtr_isN h0 (by rw [h.len]; exact h0)
  have hO : TOk (gtr G n 0) := gtr_ok h.ok n 0 (by rw [h.len]; omega)
  have hW : tway (gtr G n 0) ≤ 7224 := by have := gtr_way h.ok n 0; omega
  have hS : tsz (gtr G n 0) ≤ 576 := by
    have := gtr_sz h.ok n [0] (by simp) (by simp [h.len]; exact h0)
    simp only [List.map_cons, List.map_nil, sumN, List.foldr_cons, List.foldr_nil, h.len] at this
    have h2 : n * n ≤ 24 * 24 := Nat.mul_le_mul h24 h24
    omega
  rw [hk] at hI
  generalize gtr G n 0 = T at *
  have hB := h.st.toP.below_
  have hT : TreeV P T (.pointer (some ⟨k, 0, none⟩)) := Or.inr ⟨hN, hI⟩
  have hL := tl_sz T
  refine ⟨T, hB, tsay_of (hP.below hB) h.st.toP hT hO hW (by omega) (Or.inr hN), fun X hX => list_any (h.st.toP.below hX) hT hO (by omega) (by omega), fun X b m hX hp => ?_⟩
  refine (canon_build 2 (by omega) X b _ m (tl T) hp (tl_srt T hO) (fun p hp => by have := key_way' T p hp; omega)).mono ?_
  rintro e X' ⟨c, v, Q, rfl, q2, q3, q4, q5, q6⟩
  have hcn : c = .nil ∨ IsN c := by
    rcases q3 with ⟨e, _⟩ | ⟨e, _⟩
    · exact Or.inl e
    · exact Or.inr e
  have hcw : tway c ≤ 7224 := way_key c 7224 q4 q5 (fun p hp => by rw [q6] at hp; have := key_way' T p hp; omega)
  have hcs : tsz c ≤ 1152 := by
    rcases hcn with rfl | hc
    · exact Nat.zero_le _
    · have := (can_sz c q4 q5).1 hc
      rw [q6] at this; omega
  have hf : fineB c = true := (fine_can c [] q4 (by simp; omega)).2 q5
  have hs := tsay_of ((hP.below hB).below (hX.trans (q2.below_.mono hX.size))) q2 q3 q4 hcw hcs hcn
  rw [hf] at hs
  refine ⟨_, _, rfl, q2.below_, hs, ?_⟩
  rw [fine_shape hN hcn hO q4 q5 q6 (by omega)]
  congr 1
  apply propext
  constructor
  · intro e; rw [e]
  · intro e
    have := congrArg (fun x : ByteArray => x.data.toList) e
    simpa using this
end Go.Proofs.YtgijnjdcpipfiaaDoor
/- law CanonFine: the walk. -/
namespace Go.Proofs.YtgijnjdcpipfiaaDoor
open Go.RowKit
abbrev rw0 : RW := ⟨false, [], false, 0, 0, 0⟩
def RW.ok8 (r : RW) : Prop := (∀ x ∈ r.bs, x < 256) ∧ 0 ≤ r.val ∧ r.val < 18446744073709551616 ∧ r.up < 256 ∧ r.b < 256
theorem ok_all {l : List RW} {n : Nat} (hn : l.length = n) (h : ∀ r ∈ l, r.ok8) (hl : ∀ j, j < n → (l.getD j rw0).bs.length ≤ 300) : ∀ r ∈ l, r.ok := fun r hr => by
  obtain ⟨j, hj, rfl⟩ := List.getElem_of_mem hr
  obtain ⟨h1, h2, h3, h4, h5⟩ := h _ hr
  have := hl j (by omega)
  rw [show l.getD j rw0 = l[j] by simp [List.getD, List.getElem?_eq_getElem hj]] at this
  exact ⟨h1, this, h2, h3, h4, h5⟩
set_option maxHeartbeats 4000000 in
set_option maxRecDepth 100000 in
theorem law_fine (w : World) (a : Option Addr) (n c : Nat) (l : List RW) (h : Rws w a n c l) (h8 : ∀ r ∈ l, r.ok8) (hP : PTab w) :
    Calls Tryd.prog 3 #[.slice a n c] w (belowPost (.bool true) w) := by
  have H := Lib.hid h
  have hl := Lib.hid h.len
  have H8 := Lib.hid h8
  have HP := Lib.hid hP
  have hn63 : (n : Int) ≤ 9223372036854775807 := by have := h.cap; have := h.capm; unfold maxLen at *; omega
  have hB0 : Hid (Below w.heap.size w w) := Below.refl _ w
  have hAl : Hid (∀ X, Below w.heap.size w X → Calls Tryd.prog 5 #[] X (belowPost (.bool true) X)) := fun X hX => alive13 X (hP.below hX)
  clear h h8 hP
  by_cases h0 : n = 0
  · have j0 : (n : Int) = 0 := by omega
    go_enter Tryd.func3, Tryd.ntmps3
    go_wp2_with (go_at_call 5; refine (hAl.out _ hB0.out).mono ?_; rintro e w1 ⟨rfl, z⟩; have B1 := Lib.hid z; clear z)
    go_ret
    exact ⟨rfl, B1.out⟩
  · have j0 : ¬ (n : Int) = 0 := by omega
    have j0' : ((n : Int) == 0) = false := by rw [beq_eq_false_iff_ne]; exact j0
    by_cases h24 : 24 < n
    · have j1 : (24 : Int) < (n : Int) := by omega
      go_enter Tryd.func3, Tryd.ntmps3
      go_wp2_with (go_at_call 5; refine (hAl.out _ hB0.out).mono ?_; rintro e w1 ⟨rfl, z⟩; have B1 := Lib.hid z; clear z)
      go_ret
      exact ⟨rfl, B1.out⟩
    · have j1 : ¬ (24 : Int) < (n : Int) := by omega
      go_enter Tryd.func3, Tryd.ntmps3
      go_wp2_with fail
      go_loopw [19] (fun v19 wr => ∃ i : Nat, v19 = .int .i64 (i : Nat) ∧ i ≤ n ∧ Hid (∀ j, j < i → (l.getD j rw0).bs.length ≤ 300) ∧ Hid (Below w.heap.size w wr)) (fun v19 _ => (n - intOf v19).toNat)
      case atStart => exact ⟨0, rfl, by omega, fun j hj => absurd hj (by omega), hB0⟩
      case round =>
        clear hB0
        obtain ⟨i, rfl, hi, hA, B⟩ := hrel
        by_cases hlt : i < n
        · have hlt2 : (i : Int) < (n : Int) := by omega
          have hlt3 : i < l.length := by rw [hl.out]; exact hlt
          obtain ⟨p, rfl, q⟩ := H.out.at_ i hlt3
          have q := q.below B.out
          obtain ⟨a3, n3, c3, k0, k1, k2, k3, k4, k5, hS⟩ := q
          have hlen := Lib.hid hS.len
          have hBx : Hid (∀ o, Below w.heap.size w (wr.alloc o)) := fun o => B.out.alloc B.out.size o
          clear hS
          by_cases hfar : 300 < n3
          · have hfar2 : (300 : Int) < (n3 : Int) := by omega
            clear hfar hlen
            go_wp2_with (go_at_call 5; refine (hAl.out _ (hBx.out _)).mono ?_; rintro e w1 ⟨rfl, z⟩; have B1 := Lib.hid ((hBx.out _).trans (z.mono (hBx.out _).size)); clear z)
            go_ret
            exact ⟨rfl, B1.out⟩
          · have hfar2 : ¬ (300 : Int) < (n3 : Int) := by omega
            have hA2 : Hid (∀ j, j < i + 1 → (l.getD j rw0).bs.length ≤ 300) := fun j hj => by
              by_cases e : j = i
              · subst e
                have := hlen.out
                show (l.getD j ⟨false, [], false, 0, 0, 0⟩).bs.length ≤ 300
                omega
              · exact hA.out j (by omega)
            clear hfar hlen
            go_wp2_with fail
            go_roundw
            case rel => exact ⟨i + 1, (by first | rfl | go_num), by omega, hA2, hBx.out _⟩
            case measure => (simp [intOf]) <;> omega
        · have hlt2 : ¬ (i : Int) < (n : Int) := by omega
          obtain rfl : i = n := by omega
          have hok := ok_all hl.out H8.out hA.out
          have hRw := Lib.hid (law_raws wr a i c l (H.out.below B.out) hok (by omega) (by omega))
          have hPr := Lib.hid (HP.out.below B.out)
          have hi0 : Hid (0 < i ∧ i ≤ 24) := by show _ ∧ _; omega
          have hSay : Hid (∀ w1 P I N Z bo v k, RwL wr (parOf l) v i (gnAll l) w1 P I N Z bo → ptv N 0 = .pointer (some ⟨k, 0, none⟩) → _) := fun w1 P I N Z bo v k q1 q2 => raws_say hPr.out hi0.out.1 hi0.out.2 q1 q2
          clear hok hA h0 h24
          go_wp2_with (first
            | (go_at_call 7; refine (D1.out _ _ _ E2.out P2.out).mono ?_; rintro e w3 ⟨v3, s3, rfl, b3, s3', heq⟩
               have E3 := Lib.hid (E2.out.trans (b3.mono E2.out.size))
               have R3 := Lib.hid (Below.refl w3.heap.size w3)
               have S3 := Lib.hid s3'
               have HEq := Lib.hid heq
               clear b3 s3' heq)
            | (go_at_call 8; refine (L1.out _ (Below.refl _ _)).mono ?_; rintro e w2 ⟨la, lc, rfl, p2, b2⟩
               have P2 := Lib.hid p2
               have E2 := Lib.hid b2
               clear p2 b2)
            | (go_at_call 6; refine hRw.out.mono ?_; rintro e w1 ⟨k, P, I, N, Z, bo, v, rfl, q1, q2⟩
               obtain ⟨T, b1, s1, l1, d1⟩ := hSay.out w1 P I N Z bo v k q1 q2
               have B1 := Lib.hid (B.out.trans (b1.mono B.out.size))
               have S1 := Lib.hid s1
               have L1 := Lib.hid l1
               have D1 := Lib.hid d1
               clear q1 q2 b1 s1 l1 d1))
          have hf1 : Hid (∃ f s1, f = decide (s1 = s3) ∧ TSay w1 (.pointer (some ⟨k, 0, none⟩)) f s1) := ⟨_, _, HEq.out, S1.out⟩
          obtain ⟨f, s1, hfe, hS1⟩ := hf1.out
          have T1 := Lib.hid hS1
          clear hf1 hS1 HEq S1 L1 D1 P2 E2 hSay hRw hPr
          by_cases hss : s1 = s3
          · subst hss
            obtain rfl : f = true := by rw [hfe]; simp
            clear hfe
            go_wp2_with (first
              | (have g0 := E7; go_at_call 5; refine (hAl.out _ (B1.out.trans (E7.out.mono B1.out.size))).mono ?_; rintro e w8 ⟨rfl, z⟩; have E8 := Lib.hid (E7.out.trans (z.mono E7.out.size)); clear z)
              | (have g0 := E6; go_at_call 9; refine (S3.out.fine _ R6.out).mono ?_; rintro e w7 ⟨rfl, z⟩; have E7 := Lib.hid (E6.out.trans (z.mono E6.out.size)); clear z)
              | (have g0 := E5; go_at_call 10; refine (S3.out.shape _ R5.out).mono ?_; rintro e w6 ⟨rfl, z⟩; have E6 := Lib.hid (E5.out.trans (z.mono E5.out.size)); have R6 := Lib.hid (R5.out.trans (z.mono R5.out.size)); clear z)
              | (have g0 := E4; go_at_call 10; refine (T1.out.shape _ E4.out).mono ?_; rintro e w5 ⟨rfl, z⟩; have E5 := Lib.hid (E4.out.trans (z.mono E4.out.size)); have R5 := Lib.hid (R4.out.trans (z.mono R4.out.size)); clear z)
              | (go_at_call 9; refine (T1.out.fine _ E3.out).mono ?_; rintro e w4 ⟨rfl, z⟩; have E4 := Lib.hid (E3.out.trans (z.mono E3.out.size)); have R4 := Lib.hid (R3.out.trans (z.mono R3.out.size)); clear z))
            go_ret
            exact ⟨rfl, B1.out.trans (E8.out.mono B1.out.size)⟩
          · obtain rfl : f = false := by rw [hfe]; simp [hss]
            have hss2 : ¬ s1.toList = s3.toList := fun e => hss (ByteArray.ext (Array.toList_inj.1 (by rw [ByteArray.toList_eq, ByteArray.toList_eq] at e; exact e)))
            have hss3 : (s1.toList == s3.toList) = false := by rw [beq_eq_false_iff_ne]; exact hss2
            clear hss hss2
            clear hfe
            go_wp2_with (first
              | (have g0 := E7; go_at_call 5; refine (hAl.out _ (B1.out.trans (E7.out.mono B1.out.size))).mono ?_; rintro e w8 ⟨rfl, z⟩; have E8 := Lib.hid (E7.out.trans (z.mono E7.out.size)); clear z)
              | (have g0 := E6; go_at_call 9; refine (S3.out.fine _ R6.out).mono ?_; rintro e w7 ⟨rfl, z⟩; have E7 := Lib.hid (E6.out.trans (z.mono E6.out.size)); clear z)
              | (have g0 := E5; go_at_call 10; refine (S3.out.shape _ R5.out).mono ?_; rintro e w6 ⟨rfl, z⟩; have E6 := Lib.hid (E5.out.trans (z.mono E5.out.size)); have R6 := Lib.hid (R5.out.trans (z.mono R5.out.size)); clear z)
              | (have g0 := E4; go_at_call 10; refine (T1.out.shape _ E4.out).mono ?_; rintro e w5 ⟨rfl, z⟩; have E5 := Lib.hid (E4.out.trans (z.mono E4.out.size)); have R5 := Lib.hid (R4.out.trans (z.mono R4.out.size)); clear z)
              | (go_at_call 9; refine (T1.out.fine _ E3.out).mono ?_; rintro e w4 ⟨rfl, z⟩; have E4 := Lib.hid (E3.out.trans (z.mono E3.out.size)); have R4 := Lib.hid (R3.out.trans (z.mono R3.out.size)); clear z))
            go_ret
            exact ⟨rfl, B1.out.trans (E8.out.mono B1.out.size)⟩
end Go.Proofs.YtgijnjdcpipfiaaDoor
/- Rows of canon's laws: told nodes that come in. -/
namespace Go.Proofs.YtgijnjdcpipfiaaDoor
open Go.ChangeShapes Go.WideShapes Go.ChangeAt Go.RowKit
section
variable {H : Type} {enc : TypeId × Value → H} {w : World} {base : Nat} {held : Bool}
/-- a slice of bytes that came in, by its cell -/
theorem open_slc {v : Value} {fuel : Nat} {x : DataW H × List MemPlace} (h : DataW.trod enc Tryd.prog w base (fun _ => true) held fuel 24 [v] = some x) :
    ∃ a n c bs, v = .slice a n c ∧ Sl w a n c bs := by
  rcases open_ints Tryd.underlying24 Tryd.underlying5 (by kernel_rfl) h with ⟨e, _⟩ | ⟨a, l, c, zs, e, _, hl, hm, hlen, _, hcell, hw⟩
  · obtain rfl : v = .slice none 0 0 := by simpa using e
    exact ⟨none, 0, 0, [], rfl, sl_nil w⟩
  · obtain rfl : v = .slice (some a) l c := by simpa using e
    have hlen' : zs.length = c := by simpa using hlen
    refine ⟨some a, l, c, (zs.take l).map Int.toNat, rfl, by simp; omega, ⟨?_, ?_⟩, hl, hm, fun e => by cases e⟩
    · intro y hy
      obtain ⟨n, hn, rfl⟩ := List.mem_map.1 hy
      have := wf_u8 (hw n (List.mem_of_mem_take hn))
      omega
    · intro i hi
      have hi' : i < l := by simp at hi; omega
      have hz : i < zs.length := by omega
      have hc := hcell i hz
      have hn := wf_u8 (hw zs[i] (List.getElem_mem _))
      have e : zs.getD i 0 = ((((zs.take l).map Int.toNat).getD i 0 : Nat) : Int) := by
        simp [List.getD, List.getElem?_take, hi', hz]
        omega
      refine ⟨a, rfl, cell_lt hc, ?_⟩
      rw [hc, e]
theorem rw_len : Tryd.prog.cellsOf rwT = 6 := by kernel_rfl
theorem c1_bool : Tryd.prog.cellsOf 4 = 1 := by kernel_rfl
theorem c1_sl : Tryd.prog.cellsOf 24 = 1 := by kernel_rfl
theorem c1_u64 : Tryd.prog.cellsOf 25 = 1 := by kernel_rfl
theorem c1_u8 : Tryd.prog.cellsOf 5 = 1 := by kernel_rfl
set_option maxRecDepth 100000 in
/-- told nodes that came in -/
theorem open_rws {v : Value} {d : DataW H} {ps : List MemPlace} (h : DataW.Trod enc Tryd.prog w base (fun _ => true) held 22 v d ps) (hv : Value.okWide Tryd.prog w .any base 22 v) :
    ∃ a n c l, v = .slice a n c ∧ Rws w a n c l ∧ ∀ r ∈ l, r.ok8 := by
  obtain ⟨a0, n0, c0, rfl⟩ := okWide_slice Tryd.underlying22 hv
  obtain ⟨fuel, h⟩ := h
  have h : DataW.trod enc Tryd.prog w base (fun _ => true) held fuel 22 [.slice a0 n0 c0] = some (d, ps) := h
  rcases Go.Deep.open_slice Tryd.underlying22 h with ⟨e, _⟩ | ⟨a, len, cap, m, n, D, Pl, e, hb, hl, hm, hmm, _, hx⟩
  · obtain ⟨rfl, rfl, rfl⟩ : a0 = none ∧ n0 = 0 ∧ c0 = 0 := by simpa using e
    exact ⟨none, 0, 0, [], rfl, ⟨rfl, Nat.le_refl _, Nat.zero_le _, fun i hi => by simp at hi⟩, by simp⟩
  · obtain ⟨rfl, rfl, rfl⟩ : a0 = some a ∧ n0 = len ∧ c0 = cap := by simpa using e
    have hlm : n0 ≤ m := by rw [hmm]; simp only [if_true]; exact hl
    have key : ∀ i, i < n0 → ∃ r : RW, r.ok8 ∧ RwC w a i r := fun i hi => by
      obtain ⟨cs', h1, h2⟩ := hx i (by omega)
      rw [rw_len] at h1
      obtain ⟨_, hlen, hcell⟩ := World.cells?_some h1
      obtain ⟨xs, k, _, _, _, hxl, hf⟩ := DataW.trod_struct Tryd.underlying27 h2
      match xs, hxl, cs', hlen, hcell, hf with
      | [y0, y1, y2, y3, y4, y5], _, [v0, v1, v2, v3, v4, v5], _, hcell, hf =>
        have g0 : DataW.trod enc Tryd.prog w base (fun _ => true) held k 4 [v0] = some y0 := by have := hf 0 _ rfl; simpa [c1_bool] using this
        have g1 : DataW.trod enc Tryd.prog w base (fun _ => true) held k 24 [v1] = some y1 := by have := hf 1 _ rfl; simpa [c1_sl] using this
        have g2 : DataW.trod enc Tryd.prog w base (fun _ => true) held k 4 [v2] = some y2 := by have := hf 2 _ rfl; simpa [c1_bool] using this
        have g3 : DataW.trod enc Tryd.prog w base (fun _ => true) held k 25 [v3] = some y3 := by have := hf 3 _ rfl; simpa [c1_u64] using this
        have g4 : DataW.trod enc Tryd.prog w base (fun _ => true) held k 5 [v4] = some y4 := by have := hf 4 _ rfl; simpa [c1_u8] using this
        have g5 : DataW.trod enc Tryd.prog w base (fun _ => true) held k 5 [v5] = some y5 := by have := hf 5 _ rfl; simpa [c1_u8] using this
        have hadd : ∀ j, (a.add (i * 6)).add j = if j = 0 then a.add (i * 6) else (a.add (i * 6)).add j := fun j => by
          split
          · rename_i e; subst e; simp [Addr.add]
          · rfl
        have e0 : w.cell? (a.add (i * 6)) = some v0 := by have := hcell 0 (by omega); rw [hadd 0, if_pos rfl] at this; simpa using this
        have e1 : w.cell? ⟨(a.add (i * 6)).block, (a.add (i * 6)).off + 1, none⟩ = some v1 := by have := hcell 1 (by omega); rw [show (a.add (i * 6)).add 1 = ⟨(a.add (i * 6)).block, (a.add (i * 6)).off + 1, none⟩ by simp [Addr.add]] at this; simpa using this
        have e2 : w.cell? ⟨(a.add (i * 6)).block, (a.add (i * 6)).off + 2, none⟩ = some v2 := by have := hcell 2 (by omega); rw [show (a.add (i * 6)).add 2 = ⟨(a.add (i * 6)).block, (a.add (i * 6)).off + 2, none⟩ by simp [Addr.add]] at this; simpa using this
        have e3 : w.cell? ⟨(a.add (i * 6)).block, (a.add (i * 6)).off + 3, none⟩ = some v3 := by have := hcell 3 (by omega); rw [show (a.add (i * 6)).add 3 = ⟨(a.add (i * 6)).block, (a.add (i * 6)).off + 3, none⟩ by simp [Addr.add]] at this; simpa using this
        have e4 : w.cell? ⟨(a.add (i * 6)).block, (a.add (i * 6)).off + 4, none⟩ = some v4 := by have := hcell 4 (by omega); rw [show (a.add (i * 6)).add 4 = ⟨(a.add (i * 6)).block, (a.add (i * 6)).off + 4, none⟩ by simp [Addr.add]] at this; simpa using this
        have e5 : w.cell? ⟨(a.add (i * 6)).block, (a.add (i * 6)).off + 5, none⟩ = some v5 := by have := hcell 5 (by omega); rw [show (a.add (i * 6)).add 5 = ⟨(a.add (i * 6)).block, (a.add (i * 6)).off + 5, none⟩ by simp [Addr.add]] at this; simpa using this
        obtain ⟨b0, q0, _⟩ := DataW.trod_bool Tryd.underlying4 g0
        obtain ⟨b2, q2, _⟩ := DataW.trod_bool Tryd.underlying4 g2
        obtain ⟨z3, q3, _, w3⟩ := DataW.trod_int Tryd.underlying25 g3
        obtain ⟨z4, q4, _, w4⟩ := DataW.trod_int Tryd.underlying5 g4
        obtain ⟨z5, q5, _, w5⟩ := DataW.trod_int Tryd.underlying5 g5
        obtain ⟨b, k1, c, bs, q1, s1⟩ := open_slc g1
        obtain rfl : v0 = .bool b0 := by simpa using q0
        obtain rfl : v2 = .bool b2 := by simpa using q2
        obtain rfl : v3 = .int .u64 z3 := by simpa using q3
        obtain rfl : v4 = .int .u8 z4 := by simpa using q4
        obtain rfl : v5 = .int .u8 z5 := by simpa using q5
        subst q1
        have r3 := wf_u64 w3
        have r4 := wf_u8 w4
        have r5 := wf_u8 w5
        refine ⟨⟨b0, bs, b2, z3, z4.toNat, z5.toNat⟩, ⟨s1.at_.1, r3.1, by show z3 < _; omega, by show z4.toNat < _; omega, by show z5.toNat < _; omega⟩, b, k1, c, e0, e1, e2, e3, ?_, ?_, s1⟩
        · rw [e4]; show some (Value.int .u8 z4) = some (.int .u8 ((z4.toNat : Nat) : Int)); rw [Int.toNat_of_nonneg r4.1]
        · rw [e5]; show some (Value.int .u8 z5) = some (.int .u8 ((z5.toNat : Nat) : Int)); rw [Int.toNat_of_nonneg r5.1]
    haveI : Inhabited RW := ⟨rw0⟩
    obtain ⟨f, hf⟩ := Go.Deep.choose_lt key
    have hget : ∀ i, i < n0 → ((List.range n0).map f).getD i rw0 = f i := fun i hi => by
      rw [List.getD_eq_getElem?_getD, List.getElem?_eq_getElem (by simpa using hi)]; simp
    refine ⟨some a, n0, c0, (List.range n0).map f, rfl, ⟨by simp, hl, hm, fun i hi => ⟨a, rfl, ?_⟩⟩, fun r hr => ?_⟩
    · have hi' : i < n0 := by simpa using hi
      have := (hf i hi').2
      rw [← hget i hi'] at this
      exact this
    · obtain ⟨i, hi, rfl⟩ := List.mem_map.1 hr
      exact (hf i (List.mem_range.1 hi)).1
end
end Go.Proofs.YtgijnjdcpipfiaaDoor
