/- canon.shape of any tree; What the laws of the chapters 17, 30, 32 ask of pairs: whether they are too many; their tree; What the texts on numbers of trees share; canon.Shape; canon.each at any tree, for callbacks that are told each node; canon.Fine; canon.Points; alive of law 13; Rows of canon's laws: the table that is laid, numbers that come in; law CanonLong: keys that are too long. -/
import Derived.Test.YtgijnjdcpipfiaaDoorJ3
import Derived.Test.YtgijnjdcpipfiaaDoorTie
import Derived.Test.YtgijnjdcpipfiaaDoorCards
import Derived.ProofKit
import Derived.OpenShut
import Derived.ShutString
import Derived.ChangeOld
import Derived.Below
import Derived.SizedLaws
import Derived.Lay
import Derived.LaidMore
import Derived.SevenTiedAt
import Derived.Stop.Joined
import Derived.Shelf.Vars
import Derived.Lib.LaidTab
import Derived.Test.YtgijnjdcpipfiaaDoorJ2
set_option linter.unusedVariables false
set_option linter.unusedSimpArgs false
/- canon.shape of any tree. -/
namespace Go.Proofs.YtgijnjdcpipfiaaDoor
open Go.RowKit
theorem sb_writeS {B b : Nat} {l : List UInt8} {w : World} (h : SB B b l w) {s : ByteArray} {ls : List UInt8} (hs : s = ⟨ls.toArray⟩) (hl : l.length + ls.length ≤ 100000000) (hB : B ≤ w.heap.size) : Calls Tryd.prog 46 #[.pointer (some ⟨b, 0, none⟩), .string s] w fun e w' => (∃ x, e = .returned (.tuple #[.int .i64 x, .nilIface])) ∧ SB B b (l ++ ls) w' ∧ Below B w w' := by
  subst hs
  exact sb_write h ls hl hB
theorem cat_str (a b : List UInt8) : (⟨a.toArray⟩ : ByteArray) ++ ⟨b.toArray⟩ = ⟨(a ++ b).toArray⟩ := by
  apply ByteArray.ext
  simp
/-- a part, wherever it is laid -/
def partAny (bs : List Nat) (n : Nat) (w : World) (e : Ending) (w' : World) : Prop := ∃ a, e = .returned (.slice (some a) n n) ∧ Sl w' (some a) n n bs ∧ Below w.heap.size w w'
def ShpAsk (wb : World) (Q : List NP) (N : Nat) : Prop := ∀ (t : Tr) (w : World) (v : Option Addr) (b : Nat) (l : List UInt8), tdep t ≤ N → IsN t → TreeV Q t (.pointer v) → TOk t → l.length + (shp t).length ≤ 700000 → Below wb.heap.size wb w → SB wb.heap.size b l w →
  Calls Tryd.prog 28 #[.pointer (some ⟨b, 0, none⟩), .pointer v] w fun e w' => e = .returned (.tuple #[]) ∧ SB wb.heap.size b (l ++ shp t) w' ∧ Below wb.heap.size wb w'
set_option maxHeartbeats 4000000 in
set_option maxRecDepth 100000 in
theorem shp_leaf {wb w : World} {n b : Nat} {bs : List Nat} {y m : Nat} {kk : KV} {l : List UInt8} (hT : PTab wb) (hN : NodeW wb n bs (y : Nat) true true m kk) (h8 : ∀ x ∈ bs, x < 256) (hy : y < 18446744073709551616) (hl : l.length + (1 + (2 * bs.length + (decU y).length + 1)) ≤ 700000) (hB : Below wb.heap.size wb w) (hS : SB wb.heap.size b l w) :
    Calls Tryd.prog 28 #[.pointer (some ⟨b, 0, none⟩), .pointer (some ⟨n, 0, none⟩)] w fun e w' => e = .returned (.tuple #[]) ∧ SB wb.heap.size b (l ++ [76] ++ u8s (hexL bs) ++ (61 :: decU y)) w' ∧ Below wb.heap.size wb w' := by
  obtain ⟨st, hst⟩ : ∃ s : ByteArray, s = ⟨(u8s (hexL bs)).toArray⟩ := ⟨_, rfl⟩
  obtain ⟨sv, hsv⟩ : ∃ s : ByteArray, s = ⟨(decU y).toArray⟩ := ⟨_, rfl⟩
  obtain ⟨s3, hs3⟩ : ∃ s : ByteArray, s = ⟨(61 :: decU y).toArray⟩ := ⟨_, rfl⟩
  have hcat : (⟨#[61]⟩ : ByteArray) ++ sv = s3 := by rw [hsv, hs3]; exact cat_str [61] (decU y)
  have hll : (u8s (hexL bs)).length = 2 * bs.length := by simp [u8s, hexL_len]
  have hdl := decU_len hy
  have hsz : ¬ 9223372036854775807 < 1 + sv.size := by rw [hsv, show (⟨(decU y).toArray⟩ : ByteArray).size = (decU y).length by simp [ByteArray.size]]; omega
  have hPart : Hid (∀ X, Below wb.heap.size wb X → Calls Tryd.prog 41 #[.pointer (some ⟨n, 0, none⟩)] X (partAny bs bs.length X)) := fun X hb => (hN.part X hb).mono fun e w' ⟨e1, e2, e3⟩ => ⟨_, e1, e2, e3⟩
  have hVal := Lib.hid hN.val
  have hKind : Hid (∀ X, Below wb.heap.size wb X → Calls Tryd.prog 25 #[.pointer (some ⟨n, 0, none⟩)] X fun e w' => e = .returned (.int .i64 1) ∧ X = w') := fun X hb => hN.kind X hb
  have hText : Hid (∀ X a, Sl X (some a) bs.length bs.length bs → Calls Tryd.prog 48 #[.slice (some a) bs.length bs.length] X (belowPost (.string st) X)) := fun X a h => by rw [hst]; exact keys_text h (by omega)
  have hUint : Hid (∀ X, Below wb.heap.size wb X → Calls Tryd.prog 49 #[.int .u64 (y : Nat), .int .i64 10] X (belowPost (.string sv) X)) := fun X hb => by rw [hsv]; exact format_uint y hy X (hT.below hb)
  have hW1 : Hid (Calls Tryd.prog 46 #[.pointer (some ⟨b, 0, none⟩), .string ⟨#[76]⟩] w fun e w' => (∃ x, e = .returned (.tuple #[.int .i64 x, .nilIface])) ∧ SB wb.heap.size b (l ++ [76]) w' ∧ Below wb.heap.size w w') := sb_writeS hS rfl (by simp; omega) hB.size
  have hW2 : Hid (∀ X, SB wb.heap.size b (l ++ [76]) X → wb.heap.size ≤ X.heap.size → Calls Tryd.prog 46 #[.pointer (some ⟨b, 0, none⟩), .string st] X fun e w' => (∃ x, e = .returned (.tuple #[.int .i64 x, .nilIface])) ∧ SB wb.heap.size b (l ++ [76] ++ u8s (hexL bs)) w' ∧ Below wb.heap.size X w') := fun X h1 h2 => sb_writeS h1 hst (by simp [hll]; omega) h2
  have hW3 : Hid (∀ X, SB wb.heap.size b (l ++ [76] ++ u8s (hexL bs)) X → wb.heap.size ≤ X.heap.size → Calls Tryd.prog 46 #[.pointer (some ⟨b, 0, none⟩), .string s3] X fun e w' => (∃ x, e = .returned (.tuple #[.int .i64 x, .nilIface])) ∧ SB wb.heap.size b (l ++ [76] ++ u8s (hexL bs) ++ (61 :: decU y)) w' ∧ Below wb.heap.size X w') := fun X h1 h2 => sb_writeS h1 hs3 (by simp [hll]; omega) h2
  have HB := Lib.hid hB
  generalize l ++ [76] ++ u8s (hexL bs) ++ (61 :: decU y) = l3 at *
  generalize l ++ [76] ++ u8s (hexL bs) = l2 at *
  generalize l ++ [76] = l1 at *
  generalize bs.length = k at *
  clear hst hsv hs3 hll hdl hN h8 hy hl hB hS hT
  go_enter Tryd.func28, Tryd.ntmps28
  go_wp2_with (first
    | (have g0 := B5; go_at_call 46; refine (hW3.out _ S5.out B5.out.size).mono ?_; rintro e w6 ⟨⟨x6, rfl⟩, q1, q2⟩
       have S6 := Lib.hid q1
       have B6 := Lib.hid (B5.out.trans q2)
       clear q1 q2)
    | (have g0 := B4; go_at_call 49; refine (hUint.out _ B4.out).mono ?_; rintro e w5 ⟨rfl, q⟩
       have S5 := Lib.hid (S4.out.below q)
       have B5 := Lib.hid (B4.out.trans (q.mono B4.out.size))
       clear q)
    | (have g0 := B3; go_at_call 46; refine (hW2.out _ S3.out B3.out.size).mono ?_; rintro e w4 ⟨⟨x4, rfl⟩, q1, q2⟩
       have S4 := Lib.hid q1
       have B4 := Lib.hid (B3.out.trans q2)
       clear q1 q2)
    | (have g0 := B2; go_at_call 48; refine (hText.out _ _ P2.out).mono ?_; rintro e w3 ⟨rfl, q⟩
       have S3 := Lib.hid (S2.out.below q)
       have B3 := Lib.hid (B2.out.trans (q.mono B2.out.size))
       clear q)
    | (have g0 := B1; go_at_call 41; refine (hPart.out _ B1.out).mono ?_; rintro e w2 ⟨a2, rfl, q0, q⟩
       have P2 := Lib.hid q0
       have S2 := Lib.hid (S1.out.below q)
       have B2 := Lib.hid (B1.out.trans (q.mono B1.out.size))
       clear q q0)
    | (go_at_call 46; refine hW1.out.mono ?_; rintro e w1 ⟨⟨x1, rfl⟩, q1, q2⟩
       have S1 := Lib.hid q1
       have B1 := Lib.hid (HB.out.trans q2)
       clear q1 q2)
    | (go_at_call 25; refine (hKind.out _ (by first | exact B6.out | exact HB.out)).mono ?_; rintro e w0 ⟨rfl, rfl⟩)
    | (go_at_call 22; refine (hVal.out _ HB.out).mono ?_; rintro e w0 ⟨rfl, rfl⟩))
  (try simp only [Exit.inBlock, Exit.then])
  refine bodyPost_ret (results_none rfl _ _ _) rfl ?_
  exact ⟨rfl, S6.out, B6.out⟩
set_option maxHeartbeats 4000000 in
set_option maxRecDepth 100000 in
theorem shp_in_true {wb w : World} {Q : List NP} {N n b y m : Nat} {bs : List Nat} {kk : KV} {ks : Tr} {l : List UInt8} (IH : ShpAsk wb Q N) (hT : PTab wb) (hN : NodeW wb n bs (y : Nat) true false m kk) (hm : m ≤ 256) (hks : Kids Q kk ks ks [] kk) (hx0 : knxt kk 0 = kk.head?) (h8 : ∀ x ∈ bs, x < 256) (hy : y < 18446744073709551616) (hd : tdep ks ≤ N)
    (hl : l.length + ((decU (kindOf m) ++ [60]).length + (2 * bs.length + ((if true then 61 :: decU y else []).length + ((shp ks).length + 1)))) ≤ 700000) (hB : Below wb.heap.size wb w) (hS : SB wb.heap.size b l w) :
    Calls Tryd.prog 28 #[.pointer (some ⟨b, 0, none⟩), .pointer (some ⟨n, 0, none⟩)] w fun e w' => e = .returned (.tuple #[]) ∧ SB wb.heap.size b (l ++ (decU (kindOf m) ++ [60]) ++ u8s (hexL bs) ++ (if true then 61 :: decU y else []) ++ shp ks ++ [62]) w' ∧ Below wb.heap.size wb w' := by
  simp only [Bool.false_eq_true, if_false, if_true, List.length_cons, List.length_nil] at hl
  obtain ⟨kd, hkd⟩ : ∃ kd, kd = kindOf m := ⟨_, rfl⟩
  rw [← hkd] at hl ⊢
  have hk1 : ((kd : Int) == 1) = false := by rw [beq_eq_false_iff_ne, hkd]; have := kindOf_cases m; omega
  have hkd64 : kd ≤ 256 := by rw [hkd]; have := kindOf_cases m; omega
  obtain ⟨sk, hsk⟩ : ∃ s : ByteArray, s = ⟨(decU kd).toArray⟩ := ⟨_, rfl⟩
  obtain ⟨s1, hs1⟩ : ∃ s : ByteArray, s = ⟨(decU kd ++ [60]).toArray⟩ := ⟨_, rfl⟩
  obtain ⟨st, hst⟩ : ∃ s : ByteArray, s = ⟨(u8s (hexL bs)).toArray⟩ := ⟨_, rfl⟩
  obtain ⟨sv, hsv⟩ : ∃ s : ByteArray, s = ⟨(decU y).toArray⟩ := ⟨_, rfl⟩
  obtain ⟨s3, hs3⟩ : ∃ s : ByteArray, s = ⟨(61 :: decU y).toArray⟩ := ⟨_, rfl⟩
  have hcat1 : sk ++ (⟨#[60]⟩ : ByteArray) = s1 := by rw [hsk, hs1]; exact cat_str (decU kd) [60]
  have hcat : (⟨#[61]⟩ : ByteArray) ++ sv = s3 := by rw [hsv, hs3]; exact cat_str [61] (decU y)
  have hll : (u8s (hexL bs)).length = 2 * bs.length := by simp [u8s, hexL_len]
  have hdl := decU_len hy
  have hdk := decU_len (n := kd) (by omega)
  have hsz : ¬ 9223372036854775807 < 1 + sv.size := by rw [hsv, show (⟨(decU y).toArray⟩ : ByteArray).size = (decU y).length by simp [ByteArray.size]]; omega
  have hsz1 : ¬ 9223372036854775807 < sk.size + 1 := by rw [hsk, show (⟨(decU kd).toArray⟩ : ByteArray).size = (decU kd).length by simp [ByteArray.size]]; omega
  have hPart : Hid (∀ X, Below wb.heap.size wb X → Calls Tryd.prog 41 #[.pointer (some ⟨n, 0, none⟩)] X (partAny bs bs.length X)) := fun X hb => (hN.part X hb).mono fun e w' ⟨e1, e2, e3⟩ => ⟨_, e1, e2, e3⟩
  have hVal := Lib.hid hN.val
  have hKind : Hid (∀ X, Below wb.heap.size wb X → Calls Tryd.prog 25 #[.pointer (some ⟨n, 0, none⟩)] X fun e w' => e = .returned (.int .i64 (kd : Nat)) ∧ X = w') := fun X hb => by rw [hkd]; exact hN.kind X hb
  have hNx := Lib.hid hN.next
  have hN0 : Hid (∀ X, Below wb.heap.size wb X → Calls Tryd.prog 35 #[.pointer (some ⟨n, 0, none⟩), .int .i64 0] X fun e w' => e = .returned (.tuple #[.int .u8 (hdB kk : Nat), hdK kk]) ∧ Below X.heap.size X w') := fun X hb => by
    have := hNx.out X 0 hb (by omega) (by omega)
    rw [hx0, stepV_head] at this
    exact this
  have hText : Hid (∀ X a, Sl X (some a) bs.length bs.length bs → Calls Tryd.prog 48 #[.slice (some a) bs.length bs.length] X (belowPost (.string st) X)) := fun X a h => by rw [hst]; exact keys_text h (by omega)
  have hUint : Hid (∀ X, Below wb.heap.size wb X → Calls Tryd.prog 49 #[.int .u64 (y : Nat), .int .i64 10] X (belowPost (.string sv) X)) := fun X hb => by rw [hsv]; exact format_uint y hy X (hT.below hb)
  have hItoa : Hid (∀ X, Below wb.heap.size wb X → Calls Tryd.prog 47 #[.int .i64 (kd : Nat)] X (belowPost (.string sk) X)) := fun X hb => by rw [hsk]; exact itoa_nat kd (by omega) X (hT.below hb)
  have hW1 : Hid (∀ X, SB wb.heap.size b l X → wb.heap.size ≤ X.heap.size → Calls Tryd.prog 46 #[.pointer (some ⟨b, 0, none⟩), .string s1] X fun e w' => (∃ x, e = .returned (.tuple #[.int .i64 x, .nilIface])) ∧ SB wb.heap.size b (l ++ (decU kd ++ [60])) w' ∧ Below wb.heap.size X w') := fun X h1 h2 => sb_writeS h1 hs1 (by omega) h2
  have hW2 : Hid (∀ X, SB wb.heap.size b (l ++ (decU kd ++ [60])) X → wb.heap.size ≤ X.heap.size → Calls Tryd.prog 46 #[.pointer (some ⟨b, 0, none⟩), .string st] X fun e w' => (∃ x, e = .returned (.tuple #[.int .i64 x, .nilIface])) ∧ SB wb.heap.size b (l ++ (decU kd ++ [60]) ++ u8s (hexL bs)) w' ∧ Below wb.heap.size X w') := fun X h1 h2 => sb_writeS h1 hst (by rw [List.length_append, hll]; omega) h2
  have hW3 : Hid (∀ X, SB wb.heap.size b (l ++ (decU kd ++ [60]) ++ u8s (hexL bs)) X → wb.heap.size ≤ X.heap.size → Calls Tryd.prog 46 #[.pointer (some ⟨b, 0, none⟩), .string s3] X fun e w' => (∃ x, e = .returned (.tuple #[.int .i64 x, .nilIface])) ∧ SB wb.heap.size b (l ++ (decU kd ++ [60]) ++ u8s (hexL bs) ++ (61 :: decU y)) w' ∧ Below wb.heap.size X w') := fun X h1 h2 => sb_writeS h1 hs3 (by rw [List.length_append, List.length_append, hll, List.length_cons]; omega) h2
  obtain ⟨l3, hl3⟩ : ∃ l3, l3 = l ++ (decU kd ++ [60]) ++ u8s (hexL bs) ++ (if true then 61 :: decU y else []) := ⟨_, rfl⟩
  have hlen3 : Hid (l3.length + ((shp ks).length + 1) ≤ 700000) := by
    show _ ≤ _
    rw [hl3, List.length_append, List.length_append, List.length_append, hll]
    simp only [Bool.false_eq_true, if_false, if_true, List.length_cons, List.length_nil]
    omega
  have HB := Lib.hid hB
  have HS := Lib.hid hS
  have HIH := Lib.hid IH
  have Hd := Lib.hid hd
  have HKs := Lib.hid hks
  rw [← hl3]
  simp only [if_true] at hl3
  rw [← hl3] at hW3
  generalize hS0 : shp ks = s0 at *
  have hst0 : Hid (([] : List UInt8) ++ shp ks = s0) := by show _ = _; rw [List.nil_append, hS0]
  generalize l ++ (decU kd ++ [60]) = l1 at *
  try generalize l1 ++ u8s (hexL bs) = l2 at *
  generalize bs.length = k at *
  clear hst hsv hs3 hsk hs1 hll hdl hdk hN h8 hy hl hB hS hkd hks hx0 hd IH hl3 hS0
  go_enter Tryd.func28, Tryd.ntmps28
  go_wp2_with (first
    | (have g0 := B6; go_at_call 35; refine (hN0.out _ B6.out).mono ?_; rintro e w7 ⟨rfl, q⟩
       have S7 := Lib.hid (S6.out.below q)
       have B7 := Lib.hid (B6.out.trans (q.mono B6.out.size))
       clear q)
    | (have g0 := B5; go_at_call 46; refine (hW3.out _ S5.out B5.out.size).mono ?_; rintro e w6 ⟨⟨x6, rfl⟩, q1, q2⟩
       have S6 := Lib.hid q1
       have B6 := Lib.hid (B5.out.trans q2)
       clear q1 q2)
    | (have g0 := B4; go_at_call 49; refine (hUint.out _ B4.out).mono ?_; rintro e w5 ⟨rfl, q⟩
       have S5 := Lib.hid (S4.out.below q)
       have B5 := Lib.hid (B4.out.trans (q.mono B4.out.size))
       clear q)
    | (have g0 := B3; go_at_call 46; refine (hW2.out _ S3.out B3.out.size).mono ?_; rintro e w4 ⟨⟨x4, rfl⟩, q1, q2⟩
       have S4 := Lib.hid q1
       have B4 := Lib.hid (B3.out.trans q2)
       clear q1 q2)
    | (have g0 := B2; go_at_call 48; refine (hText.out _ _ P2.out).mono ?_; rintro e w3 ⟨rfl, q⟩
       have S3 := Lib.hid (S2.out.below q)
       have B3 := Lib.hid (B2.out.trans (q.mono B2.out.size))
       clear q)
    | (have g0 := B1; go_at_call 41; refine (hPart.out _ B1.out).mono ?_; rintro e w2 ⟨a2, rfl, q0, q⟩
       have P2 := Lib.hid q0
       have S2 := Lib.hid (S1.out.below q)
       have B2 := Lib.hid (B1.out.trans (q.mono B1.out.size))
       clear q q0)
    | (have g0 := B0; go_at_call 46; refine (hW1.out _ S0.out B0.out.size).mono ?_; rintro e w1 ⟨⟨x1, rfl⟩, q1, q2⟩
       have S1 := Lib.hid q1
       have B1 := Lib.hid (B0.out.trans q2)
       clear q1 q2)
    | (go_at_call 47; refine (hItoa.out _ HB.out).mono ?_; rintro e w0 ⟨rfl, q⟩
       have S0 := Lib.hid (HS.out.below q)
       have B0 := Lib.hid (HB.out.trans (q.mono HB.out.size))
       clear q)
    | (go_at_call 25; refine (hKind.out _ (by first | exact B6.out | exact B4.out | exact HB.out)).mono ?_; rintro e wk ⟨rfl, rfl⟩)
    | (go_at_call 22; refine (hVal.out _ HB.out).mono ?_; rintro e wk ⟨rfl, rfl⟩))
  go_loopw [6, 7] (fun v6 v7 wr => ∃ (r : Tr) (A lr : KV) (dn : List UInt8), v6 = .int .u8 (hdB lr : Nat) ∧ v7 = hdK lr ∧ Hid (dn ++ shp r = s0) ∧ Hid (tdep r ≤ N) ∧ Hid (Kids Q kk ks r A lr) ∧ Hid (SB wb.heap.size b (l3 ++ dn) wr) ∧ Hid (Below wb.heap.size wb wr)) (fun v6 v7 _ => match v7 with | .pointer none => 0 | _ => 256 - (intOf v6).toNat)
  case atStart => exact ⟨ks, [], kk, [], rfl, rfl, hst0, Hd, HKs, by rw [List.append_nil]; exact S7, B7⟩
  case round =>
    clear hst0 Hd HKs S7 B7 hN0
    obtain ⟨r, A, lr, dn, rfl, rfl, hE, hdr, hKd, hSr, hBr⟩ := hrel
    by_cases hl : lr = []
    · subst hl
      obtain rfl := hKd.out.done
      have hW9 : Hid (Calls Tryd.prog 46 #[.pointer (some ⟨b, 0, none⟩), .string ⟨#[62]⟩] wr fun e w' => (∃ x, e = .returned (.tuple #[.int .i64 x, .nilIface])) ∧ SB wb.heap.size b (l3 ++ s0 ++ [62]) w' ∧ Below wb.heap.size wr w') := by
        have e := hE.out
        rw [show shp .nil = [] from rfl, List.append_nil] at e
        have h := hSr.out
        rw [e] at h
        exact sb_writeS h rfl (by have := hlen3.out; rw [List.length_append]; simp; omega) hBr.out.size
      rw [show hdK ([] : KV) = .pointer none from rfl]
      go_wp2_with (go_at_call 46; refine hW9.out.mono ?_; rintro e w9 ⟨⟨x9, rfl⟩, q1, q2⟩; have S9 := Lib.hid q1; have B9 := Lib.hid (hBr.out.trans q2); clear q1 q2)
      go_end0
      exact ⟨rfl, S9.out, B9.out⟩
    · obtain ⟨b', t, r', x, lr', rfl, rfl, hb1, hx1, hb256, ⟨k', rfl⟩, hTV, hIN, hOk, hnext, hkn⟩ := hKd.out.next hl
      rw [hb1, hx1]
      have hE2 : Hid (dn ++ (58 :: u8s (hexL [b'])) ++ shp t ++ shp r' = s0) := by show _ = _; rw [← hE.out]; simp [shp]
      have hlen := congrArg List.length hE2.out
      simp only [List.length_append] at hlen
      obtain ⟨st', hst'⟩ : ∃ s : ByteArray, s = ⟨(u8s (hexL [b'])).toArray⟩ := ⟨_, rfl⟩
      obtain ⟨s5, hs5⟩ : ∃ s : ByteArray, s = ⟨(58 :: u8s (hexL [b'])).toArray⟩ := ⟨_, rfl⟩
      have hcat5 : (⟨#[58]⟩ : ByteArray) ++ st' = s5 := by rw [hst', hs5]; exact cat_str [58] (u8s (hexL [b']))
      have hsz5 : ¬ 9223372036854775807 < 1 + st'.size := by rw [hst', show (⟨(u8s (hexL [b'])).toArray⟩ : ByteArray).size = (u8s (hexL [b'])).length by simp [ByteArray.size]]; simp [u8s, hexL_len]
      have hA : Hid (Below wr.heap.size wr (wr.alloc (.cells #[.int .u8 (b' : Nat)] 5))) := (Below.refl _ wr).alloc (Nat.le_refl _) _
      have hTx : Hid (Calls Tryd.prog 48 #[.slice (some ⟨wr.heap.size, 0, none⟩) 1 1] (wr.alloc (.cells #[.int .u8 (b' : Nat)] 5)) fun e w' => e = .returned (.string st') ∧ Below wr.heap.size wr w') := by
        refine (keys_text (sl_one wr b' 5 hb256) (by omega)).mono fun e w' ⟨q1, q2⟩ => ⟨by rw [hst']; exact q1, hA.out.trans (q2.mono hA.out.size)⟩
      have hW5 : Hid (∀ X, SB wb.heap.size b (l3 ++ dn) X → wb.heap.size ≤ X.heap.size → Calls Tryd.prog 46 #[.pointer (some ⟨b, 0, none⟩), .string s5] X fun e w' => (∃ x, e = .returned (.tuple #[.int .i64 x, .nilIface])) ∧ SB wb.heap.size b (l3 ++ dn ++ (58 :: u8s (hexL [b']))) w' ∧ Below wb.heap.size X w') := fun X h1 h2 => sb_writeS h1 hs5 (by have := hlen3.out; rw [List.length_append]; omega) h2
      have hSh : Hid (∀ X, Below wb.heap.size wb X → SB wb.heap.size b (l3 ++ dn ++ (58 :: u8s (hexL [b']))) X → Calls Tryd.prog 28 #[.pointer (some ⟨b, 0, none⟩), .pointer (some ⟨k', 0, none⟩)] X fun e w' => e = .returned (.tuple #[]) ∧ SB wb.heap.size b (l3 ++ dn ++ (58 :: u8s (hexL [b'])) ++ shp t) w' ∧ Below wb.heap.size wb w') := fun X h1 h2 =>
        HIH.out t X _ b _ (by have h2 := hdr.out; simp only [tdep] at h2; omega) hIN hTV hOk (by have := hlen3.out; rw [List.length_append, List.length_append]; omega) h1 h2
      have hd2 : Hid (tdep r' ≤ N) := by show _ ≤ _; have h2 := hdr.out; simp only [tdep] at h2; omega
      have hN2 : Hid (∀ X, Below wb.heap.size wb X → Calls Tryd.prog 35 #[.pointer (some ⟨n, 0, none⟩), .int .i64 ((b' + 1 : Nat) : Int)] X fun e w' => e = .returned (.tuple #[.int .u8 (hdB lr' : Nat), hdK lr']) ∧ Below X.heap.size X w') := fun X hb' => by
        have := hNx.out X ((b' + 1 : Nat) : Int) hb' (by omega) (by omega)
        rw [show (((b' + 1 : Nat) : Int)) = (b' : Int) + 1 by omega, hkn, stepV_head] at this
        exact this
      have hK2 := Lib.hid hnext
      have hwb : IntKind.i64.wrap ((b' : Int) + 1) = ((b' + 1 : Nat) : Int) := by rw [show (b' : Int) + 1 = ((b' + 1 : Nat) : Int) by omega]; exact IntWalk.i64_in _ (by omega)
      have hwc : IntKind.i64.wrap (b' : Int) = (b' : Int) := IntWalk.i64_in _ (by omega)
      have hms := Lib.hid (kids_rest hnext)
      have hSA := Lib.hid hSr.out
      have he9 : Hid (l3 ++ dn ++ (58 :: u8s (hexL [b'])) ++ shp t = l3 ++ (dn ++ (58 :: u8s (hexL [b'])) ++ shp t)) := by show _ = _; simp
      generalize l3 ++ dn ++ (58 :: u8s (hexL [b'])) ++ shp t = l9 at *
      generalize l3 ++ dn ++ (58 :: u8s (hexL [b'])) = l8 at *
      generalize l3 ++ dn = l7 at *
      clear hTV hIN hOk hnext hkn hKd hl hb1 hx1 hdr hst' hs5 hlen hE
      go_wp2_with (first
        | (have g0 := B8; go_at_call 35; refine (hN2.out _ B8.out).mono ?_; rintro e w9 ⟨rfl, z⟩
           have S9 := Lib.hid (S8.out.below z)
           have B9 := Lib.hid (B8.out.trans (z.mono B8.out.size))
           clear z)
        | (have g0 := B7; go_at_call 28; refine (hSh.out _ B7.out S7.out).mono ?_; rintro e w8 ⟨rfl, z1, z2⟩
           have S8 := Lib.hid z1
           have B8 := Lib.hid z2
           clear z1 z2)
        | (have g0 := B6; go_at_call 46; refine (hW5.out _ S6.out B6.out.size).mono ?_; rintro e w7 ⟨⟨x7, rfl⟩, q1, q2⟩
           have S7 := Lib.hid q1
           have B7 := Lib.hid (B6.out.trans q2)
           clear q1 q2)
        | (go_at_call 48; refine hTx.out.mono ?_; rintro e w6 ⟨rfl, q⟩
           have S6 := Lib.hid (hSA.out.below q)
           have B6 := Lib.hid (hBr.out.trans (q.mono hBr.out.size))
           clear q))
      rw [he9.out] at S9
      go_roundw
      case rel => exact ⟨r', A ++ [(b', .pointer (some ⟨k', 0, none⟩))], lr', _, rfl, rfl, hE2, hd2, hK2, S9, B9⟩
      case measure =>
        cases lr' with
        | nil => simp [hdK, hdB, intOf]; omega
        | cons y l => have := hms.out y (by simp); simp [hdK, hdB, intOf]; split <;> omega

set_option maxHeartbeats 4000000 in
set_option maxRecDepth 100000 in
theorem shp_in_false {wb w : World} {Q : List NP} {N n b y m : Nat} {bs : List Nat} {kk : KV} {ks : Tr} {l : List UInt8} (IH : ShpAsk wb Q N) (hT : PTab wb) (hN : NodeW wb n bs (y : Nat) false false m kk) (hm : m ≤ 256) (hks : Kids Q kk ks ks [] kk) (hx0 : knxt kk 0 = kk.head?) (h8 : ∀ x ∈ bs, x < 256) (hy : y < 18446744073709551616) (hd : tdep ks ≤ N)
    (hl : l.length + ((decU (kindOf m) ++ [60]).length + (2 * bs.length + ((if false then 61 :: decU y else []).length + ((shp ks).length + 1)))) ≤ 700000) (hB : Below wb.heap.size wb w) (hS : SB wb.heap.size b l w) :
    Calls Tryd.prog 28 #[.pointer (some ⟨b, 0, none⟩), .pointer (some ⟨n, 0, none⟩)] w fun e w' => e = .returned (.tuple #[]) ∧ SB wb.heap.size b (l ++ (decU (kindOf m) ++ [60]) ++ u8s (hexL bs) ++ (if false then 61 :: decU y else []) ++ shp ks ++ [62]) w' ∧ Below wb.heap.size wb w' := by
  simp only [Bool.false_eq_true, if_false, if_true, List.length_cons, List.length_nil] at hl
  obtain ⟨kd, hkd⟩ : ∃ kd, kd = kindOf m := ⟨_, rfl⟩
  rw [← hkd] at hl ⊢
  have hk1 : ((kd : Int) == 1) = false := by rw [beq_eq_false_iff_ne, hkd]; have := kindOf_cases m; omega
  have hkd64 : kd ≤ 256 := by rw [hkd]; have := kindOf_cases m; omega
  obtain ⟨sk, hsk⟩ : ∃ s : ByteArray, s = ⟨(decU kd).toArray⟩ := ⟨_, rfl⟩
  obtain ⟨s1, hs1⟩ : ∃ s : ByteArray, s = ⟨(decU kd ++ [60]).toArray⟩ := ⟨_, rfl⟩
  obtain ⟨st, hst⟩ : ∃ s : ByteArray, s = ⟨(u8s (hexL bs)).toArray⟩ := ⟨_, rfl⟩
  obtain ⟨sv, hsv⟩ : ∃ s : ByteArray, s = ⟨(decU y).toArray⟩ := ⟨_, rfl⟩
  obtain ⟨s3, hs3⟩ : ∃ s : ByteArray, s = ⟨(61 :: decU y).toArray⟩ := ⟨_, rfl⟩
  have hcat1 : sk ++ (⟨#[60]⟩ : ByteArray) = s1 := by rw [hsk, hs1]; exact cat_str (decU kd) [60]
  have hcat : (⟨#[61]⟩ : ByteArray) ++ sv = s3 := by rw [hsv, hs3]; exact cat_str [61] (decU y)
  have hll : (u8s (hexL bs)).length = 2 * bs.length := by simp [u8s, hexL_len]
  have hdl := decU_len hy
  have hdk := decU_len (n := kd) (by omega)
  have hsz : ¬ 9223372036854775807 < 1 + sv.size := by rw [hsv, show (⟨(decU y).toArray⟩ : ByteArray).size = (decU y).length by simp [ByteArray.size]]; omega
  have hsz1 : ¬ 9223372036854775807 < sk.size + 1 := by rw [hsk, show (⟨(decU kd).toArray⟩ : ByteArray).size = (decU kd).length by simp [ByteArray.size]]; omega
  have hPart : Hid (∀ X, Below wb.heap.size wb X → Calls Tryd.prog 41 #[.pointer (some ⟨n, 0, none⟩)] X (partAny bs bs.length X)) := fun X hb => (hN.part X hb).mono fun e w' ⟨e1, e2, e3⟩ => ⟨_, e1, e2, e3⟩
  have hVal := Lib.hid hN.val
  have hKind : Hid (∀ X, Below wb.heap.size wb X → Calls Tryd.prog 25 #[.pointer (some ⟨n, 0, none⟩)] X fun e w' => e = .returned (.int .i64 (kd : Nat)) ∧ X = w') := fun X hb => by rw [hkd]; exact hN.kind X hb
  have hNx := Lib.hid hN.next
  have hN0 : Hid (∀ X, Below wb.heap.size wb X → Calls Tryd.prog 35 #[.pointer (some ⟨n, 0, none⟩), .int .i64 0] X fun e w' => e = .returned (.tuple #[.int .u8 (hdB kk : Nat), hdK kk]) ∧ Below X.heap.size X w') := fun X hb => by
    have := hNx.out X 0 hb (by omega) (by omega)
    rw [hx0, stepV_head] at this
    exact this
  have hText : Hid (∀ X a, Sl X (some a) bs.length bs.length bs → Calls Tryd.prog 48 #[.slice (some a) bs.length bs.length] X (belowPost (.string st) X)) := fun X a h => by rw [hst]; exact keys_text h (by omega)
  have hUint : Hid (∀ X, Below wb.heap.size wb X → Calls Tryd.prog 49 #[.int .u64 (y : Nat), .int .i64 10] X (belowPost (.string sv) X)) := fun X hb => by rw [hsv]; exact format_uint y hy X (hT.below hb)
  have hItoa : Hid (∀ X, Below wb.heap.size wb X → Calls Tryd.prog 47 #[.int .i64 (kd : Nat)] X (belowPost (.string sk) X)) := fun X hb => by rw [hsk]; exact itoa_nat kd (by omega) X (hT.below hb)
  have hW1 : Hid (∀ X, SB wb.heap.size b l X → wb.heap.size ≤ X.heap.size → Calls Tryd.prog 46 #[.pointer (some ⟨b, 0, none⟩), .string s1] X fun e w' => (∃ x, e = .returned (.tuple #[.int .i64 x, .nilIface])) ∧ SB wb.heap.size b (l ++ (decU kd ++ [60])) w' ∧ Below wb.heap.size X w') := fun X h1 h2 => sb_writeS h1 hs1 (by omega) h2
  have hW2 : Hid (∀ X, SB wb.heap.size b (l ++ (decU kd ++ [60])) X → wb.heap.size ≤ X.heap.size → Calls Tryd.prog 46 #[.pointer (some ⟨b, 0, none⟩), .string st] X fun e w' => (∃ x, e = .returned (.tuple #[.int .i64 x, .nilIface])) ∧ SB wb.heap.size b (l ++ (decU kd ++ [60]) ++ u8s (hexL bs)) w' ∧ Below wb.heap.size X w') := fun X h1 h2 => sb_writeS h1 hst (by rw [List.length_append, hll]; omega) h2
  have hW3 : Hid (∀ X, SB wb.heap.size b (l ++ (decU kd ++ [60]) ++ u8s (hexL bs)) X → wb.heap.size ≤ X.heap.size → Calls Tryd.prog 46 #[.pointer (some ⟨b, 0, none⟩), .string s3] X fun e w' => (∃ x, e = .returned (.tuple #[.int .i64 x, .nilIface])) ∧ SB wb.heap.size b (l ++ (decU kd ++ [60]) ++ u8s (hexL bs) ++ (61 :: decU y)) w' ∧ Below wb.heap.size X w') := fun X h1 h2 => sb_writeS h1 hs3 (by rw [List.length_append, List.length_append, hll, List.length_cons]; omega) h2
  obtain ⟨l3, hl3⟩ : ∃ l3, l3 = l ++ (decU kd ++ [60]) ++ u8s (hexL bs) ++ (if false then 61 :: decU y else []) := ⟨_, rfl⟩
  have hlen3 : Hid (l3.length + ((shp ks).length + 1) ≤ 700000) := by
    show _ ≤ _
    rw [hl3, List.length_append, List.length_append, List.length_append, hll]
    simp only [Bool.false_eq_true, if_false, if_true, List.length_cons, List.length_nil]
    omega
  have HB := Lib.hid hB
  have HS := Lib.hid hS
  have HIH := Lib.hid IH
  have Hd := Lib.hid hd
  have HKs := Lib.hid hks
  rw [← hl3]
  simp only [Bool.false_eq_true, if_false, List.append_nil] at hl3
  rw [← hl3] at hW2
  clear hW3 hUint hcat hsz
  generalize hS0 : shp ks = s0 at *
  have hst0 : Hid (([] : List UInt8) ++ shp ks = s0) := by show _ = _; rw [List.nil_append, hS0]
  generalize l ++ (decU kd ++ [60]) = l1 at *
  try generalize l1 ++ u8s (hexL bs) = l2 at *
  generalize bs.length = k at *
  clear hst hsv hs3 hsk hs1 hll hdl hdk hN h8 hy hl hB hS hkd hks hx0 hd IH hl3 hS0
  go_enter Tryd.func28, Tryd.ntmps28
  go_wp2_with (first
    | (have g0 := B4; go_at_call 35; refine (hN0.out _ B4.out).mono ?_; rintro e w7 ⟨rfl, q⟩
       have S7 := Lib.hid (S4.out.below q)
       have B7 := Lib.hid (B4.out.trans (q.mono B4.out.size))
       clear q)
    | (have g0 := B3; go_at_call 46; refine (hW2.out _ S3.out B3.out.size).mono ?_; rintro e w4 ⟨⟨x4, rfl⟩, q1, q2⟩
       have S4 := Lib.hid q1
       have B4 := Lib.hid (B3.out.trans q2)
       clear q1 q2)
    | (have g0 := B2; go_at_call 48; refine (hText.out _ _ P2.out).mono ?_; rintro e w3 ⟨rfl, q⟩
       have S3 := Lib.hid (S2.out.below q)
       have B3 := Lib.hid (B2.out.trans (q.mono B2.out.size))
       clear q)
    | (have g0 := B1; go_at_call 41; refine (hPart.out _ B1.out).mono ?_; rintro e w2 ⟨a2, rfl, q0, q⟩
       have P2 := Lib.hid q0
       have S2 := Lib.hid (S1.out.below q)
       have B2 := Lib.hid (B1.out.trans (q.mono B1.out.size))
       clear q q0)
    | (have g0 := B0; go_at_call 46; refine (hW1.out _ S0.out B0.out.size).mono ?_; rintro e w1 ⟨⟨x1, rfl⟩, q1, q2⟩
       have S1 := Lib.hid q1
       have B1 := Lib.hid (B0.out.trans q2)
       clear q1 q2)
    | (go_at_call 47; refine (hItoa.out _ HB.out).mono ?_; rintro e w0 ⟨rfl, q⟩
       have S0 := Lib.hid (HS.out.below q)
       have B0 := Lib.hid (HB.out.trans (q.mono HB.out.size))
       clear q)
    | (go_at_call 25; refine (hKind.out _ (by first | exact B6.out | exact B4.out | exact HB.out)).mono ?_; rintro e wk ⟨rfl, rfl⟩)
    | (go_at_call 22; refine (hVal.out _ HB.out).mono ?_; rintro e wk ⟨rfl, rfl⟩))
  go_loopw [6, 7] (fun v6 v7 wr => ∃ (r : Tr) (A lr : KV) (dn : List UInt8), v6 = .int .u8 (hdB lr : Nat) ∧ v7 = hdK lr ∧ Hid (dn ++ shp r = s0) ∧ Hid (tdep r ≤ N) ∧ Hid (Kids Q kk ks r A lr) ∧ Hid (SB wb.heap.size b (l3 ++ dn) wr) ∧ Hid (Below wb.heap.size wb wr)) (fun v6 v7 _ => match v7 with | .pointer none => 0 | _ => 256 - (intOf v6).toNat)
  case atStart => exact ⟨ks, [], kk, [], rfl, rfl, hst0, Hd, HKs, by rw [List.append_nil]; exact S7, B7⟩
  case round =>
    clear hst0 Hd HKs S7 B7 hN0
    obtain ⟨r, A, lr, dn, rfl, rfl, hE, hdr, hKd, hSr, hBr⟩ := hrel
    by_cases hl : lr = []
    · subst hl
      obtain rfl := hKd.out.done
      have hW9 : Hid (Calls Tryd.prog 46 #[.pointer (some ⟨b, 0, none⟩), .string ⟨#[62]⟩] wr fun e w' => (∃ x, e = .returned (.tuple #[.int .i64 x, .nilIface])) ∧ SB wb.heap.size b (l3 ++ s0 ++ [62]) w' ∧ Below wb.heap.size wr w') := by
        have e := hE.out
        rw [show shp .nil = [] from rfl, List.append_nil] at e
        have h := hSr.out
        rw [e] at h
        exact sb_writeS h rfl (by have := hlen3.out; rw [List.length_append]; simp; omega) hBr.out.size
      rw [show hdK ([] : KV) = .pointer none from rfl]
      go_wp2_with (go_at_call 46; refine hW9.out.mono ?_; rintro e w9 ⟨⟨x9, rfl⟩, q1, q2⟩; have S9 := Lib.hid q1; have B9 := Lib.hid (hBr.out.trans q2); clear q1 q2)
      go_end0
      exact ⟨rfl, S9.out, B9.out⟩
    · obtain ⟨b', t, r', x, lr', rfl, rfl, hb1, hx1, hb256, ⟨k', rfl⟩, hTV, hIN, hOk, hnext, hkn⟩ := hKd.out.next hl
      rw [hb1, hx1]
      have hE2 : Hid (dn ++ (58 :: u8s (hexL [b'])) ++ shp t ++ shp r' = s0) := by show _ = _; rw [← hE.out]; simp [shp]
      have hlen := congrArg List.length hE2.out
      simp only [List.length_append] at hlen
      obtain ⟨st', hst'⟩ : ∃ s : ByteArray, s = ⟨(u8s (hexL [b'])).toArray⟩ := ⟨_, rfl⟩
      obtain ⟨s5, hs5⟩ : ∃ s : ByteArray, s = ⟨(58 :: u8s (hexL [b'])).toArray⟩ := ⟨_, rfl⟩
      have hcat5 : (⟨#[58]⟩ : ByteArray) ++ st' = s5 := by rw [hst', hs5]; exact cat_str [58] (u8s (hexL [b']))
      have hsz5 : ¬ 9223372036854775807 < 1 + st'.size := by rw [hst', show (⟨(u8s (hexL [b'])).toArray⟩ : ByteArray).size = (u8s (hexL [b'])).length by simp [ByteArray.size]]; simp [u8s, hexL_len]
      have hA : Hid (Below wr.heap.size wr (wr.alloc (.cells #[.int .u8 (b' : Nat)] 5))) := (Below.refl _ wr).alloc (Nat.le_refl _) _
      have hTx : Hid (Calls Tryd.prog 48 #[.slice (some ⟨wr.heap.size, 0, none⟩) 1 1] (wr.alloc (.cells #[.int .u8 (b' : Nat)] 5)) fun e w' => e = .returned (.string st') ∧ Below wr.heap.size wr w') := by
        refine (keys_text (sl_one wr b' 5 hb256) (by omega)).mono fun e w' ⟨q1, q2⟩ => ⟨by rw [hst']; exact q1, hA.out.trans (q2.mono hA.out.size)⟩
      have hW5 : Hid (∀ X, SB wb.heap.size b (l3 ++ dn) X → wb.heap.size ≤ X.heap.size → Calls Tryd.prog 46 #[.pointer (some ⟨b, 0, none⟩), .string s5] X fun e w' => (∃ x, e = .returned (.tuple #[.int .i64 x, .nilIface])) ∧ SB wb.heap.size b (l3 ++ dn ++ (58 :: u8s (hexL [b']))) w' ∧ Below wb.heap.size X w') := fun X h1 h2 => sb_writeS h1 hs5 (by have := hlen3.out; rw [List.length_append]; omega) h2
      have hSh : Hid (∀ X, Below wb.heap.size wb X → SB wb.heap.size b (l3 ++ dn ++ (58 :: u8s (hexL [b']))) X → Calls Tryd.prog 28 #[.pointer (some ⟨b, 0, none⟩), .pointer (some ⟨k', 0, none⟩)] X fun e w' => e = .returned (.tuple #[]) ∧ SB wb.heap.size b (l3 ++ dn ++ (58 :: u8s (hexL [b'])) ++ shp t) w' ∧ Below wb.heap.size wb w') := fun X h1 h2 =>
        HIH.out t X _ b _ (by have h2 := hdr.out; simp only [tdep] at h2; omega) hIN hTV hOk (by have := hlen3.out; rw [List.length_append, List.length_append]; omega) h1 h2
      have hd2 : Hid (tdep r' ≤ N) := by show _ ≤ _; have h2 := hdr.out; simp only [tdep] at h2; omega
      have hN2 : Hid (∀ X, Below wb.heap.size wb X → Calls Tryd.prog 35 #[.pointer (some ⟨n, 0, none⟩), .int .i64 ((b' + 1 : Nat) : Int)] X fun e w' => e = .returned (.tuple #[.int .u8 (hdB lr' : Nat), hdK lr']) ∧ Below X.heap.size X w') := fun X hb' => by
        have := hNx.out X ((b' + 1 : Nat) : Int) hb' (by omega) (by omega)
        rw [show (((b' + 1 : Nat) : Int)) = (b' : Int) + 1 by omega, hkn, stepV_head] at this
        exact this
      have hK2 := Lib.hid hnext
      have hwb : IntKind.i64.wrap ((b' : Int) + 1) = ((b' + 1 : Nat) : Int) := by rw [show (b' : Int) + 1 = ((b' + 1 : Nat) : Int) by omega]; exact IntWalk.i64_in _ (by omega)
      have hwc : IntKind.i64.wrap (b' : Int) = (b' : Int) := IntWalk.i64_in _ (by omega)
      have hms := Lib.hid (kids_rest hnext)
      have hSA := Lib.hid hSr.out
      have he9 : Hid (l3 ++ dn ++ (58 :: u8s (hexL [b'])) ++ shp t = l3 ++ (dn ++ (58 :: u8s (hexL [b'])) ++ shp t)) := by show _ = _; simp
      generalize l3 ++ dn ++ (58 :: u8s (hexL [b'])) ++ shp t = l9 at *
      generalize l3 ++ dn ++ (58 :: u8s (hexL [b'])) = l8 at *
      generalize l3 ++ dn = l7 at *
      clear hTV hIN hOk hnext hkn hKd hl hb1 hx1 hdr hst' hs5 hlen hE
      go_wp2_with (first
        | (have g0 := B8; go_at_call 35; refine (hN2.out _ B8.out).mono ?_; rintro e w9 ⟨rfl, z⟩
           have S9 := Lib.hid (S8.out.below z)
           have B9 := Lib.hid (B8.out.trans (z.mono B8.out.size))
           clear z)
        | (have g0 := B7; go_at_call 28; refine (hSh.out _ B7.out S7.out).mono ?_; rintro e w8 ⟨rfl, z1, z2⟩
           have S8 := Lib.hid z1
           have B8 := Lib.hid z2
           clear z1 z2)
        | (have g0 := B6; go_at_call 46; refine (hW5.out _ S6.out B6.out.size).mono ?_; rintro e w7 ⟨⟨x7, rfl⟩, q1, q2⟩
           have S7 := Lib.hid q1
           have B7 := Lib.hid (B6.out.trans q2)
           clear q1 q2)
        | (go_at_call 48; refine hTx.out.mono ?_; rintro e w6 ⟨rfl, q⟩
           have S6 := Lib.hid (hSA.out.below q)
           have B6 := Lib.hid (hBr.out.trans (q.mono hBr.out.size))
           clear q))
      rw [he9.out] at S9
      go_roundw
      case rel => exact ⟨r', A ++ [(b', .pointer (some ⟨k', 0, none⟩))], lr', _, rfl, rfl, hE2, hd2, hK2, S9, B9⟩
      case measure =>
        cases lr' with
        | nil => simp [hdK, hdB, intOf]; omega
        | cons y l => have := hms.out y (by simp); simp [hdK, hdB, intOf]; split <;> omega
theorem shp_any {wb w0 : World} {Q : List NP} (hT : PTab wb) (hQ : StoreP NoB w0 wb Q) : ∀ N, ShpAsk wb Q N
  | N, .nil, _, _, _, _, _, hn, _, _, _, _, _ => hn.elim
  | N, .kid .., _, _, _, _, _, hn, _, _, _, _, _ => hn.elim
  | 0, .node .., _, _, _, _, hd, _, _, _, _, _, _ => by simp only [tdep] at hd; omega
  | N + 1, .node bs v has leaf ks, w, a, b, l, hd, hn, hV, hO, hl, hB, hS => by
    have hI : TreeIn Q 0 (.node bs v has leaf ks) (.pointer a) [] := by
      rcases hV with ⟨h, _⟩ | ⟨_, h⟩
      · cases h
      · exact h
    obtain ⟨n, kk, rfl, N1, K1, x1, _⟩ := nodew_of hQ hI hO
    obtain ⟨y, rfl⟩ : ∃ y : Nat, v = (y : Nat) := ⟨v.toNat, by have := hO.2.1; omega⟩
    have hy : y < 18446744073709551616 := by have := hO.2.2.1; omega
    have h8 := hO.1
    have hm := chain256 hO.2.2.2.2.2.1 hO.2.2.2.2.2.2
    have hkc := krowC_chain ks hO.2.2.2.2.2.1
    have hll : (u8s (hexL bs)).length = 2 * bs.length := by simp [u8s, hexL_len]
    simp only [tdep] at hd
    cases leaf with
    | true =>
      obtain ⟨e1, e2⟩ := hO.2.2.2.2.1 rfl
      subst e1; subst e2
      simp only [shp, if_true, Int.toNat_natCast, List.length_append, List.length_cons, List.length_nil, hll] at hl
      have := shp_leaf (l := l) (b := b) hT N1 h8 hy (by omega) hB hS
      simp only [shp, if_true, Int.toNat_natCast, List.append_nil]
      simp only [List.append_assoc] at this
      exact this
    | false =>
      simp only [shp, Bool.false_eq_true, if_false, Int.toNat_natCast, hkc, List.length_append, List.length_cons, List.length_nil, hll] at hl
      cases has with
      | true =>
        have := shp_in_true (l := l) (b := b) (shp_any hT hQ N) hT N1 hm K1 x1 h8 hy (by omega) (by simp only [if_true, List.length_append, List.length_cons, List.length_nil] at hl ⊢; omega) hB hS
        simp only [shp, Bool.false_eq_true, if_false, if_true, Int.toNat_natCast, hkc]
        simp only [if_true, List.append_assoc] at this
        simp only [List.append_assoc]
        exact this
      | false =>
        have := shp_in_false (l := l) (b := b) (shp_any hT hQ N) hT N1 hm K1 x1 h8 hy (by omega) (by simp only [Bool.false_eq_true, if_false, List.length_append, List.length_cons, List.length_nil] at hl ⊢; omega) hB hS
        simp only [shp, Bool.false_eq_true, if_false, Int.toNat_natCast, hkc]
        simp only [Bool.false_eq_true, if_false, List.append_assoc] at this
        simp only [List.append_assoc]
        exact this
end Go.Proofs.YtgijnjdcpipfiaaDoor
/- What the laws of the chapters 17, 30, 32 ask of pairs: whether they are too many; their tree. -/
namespace Go.Proofs.YtgijnjdcpipfiaaDoor
open Go.RowKit
theorem far_m {m n : Nat} {l : PL} (h : (decide (m < n) || farL 300 l) = false) : n ≤ m ∧ ∀ x ∈ l, x.1.length ≤ 300 := by
  simp only [Bool.or_eq_false_iff, decide_eq_false_iff_not] at h
  refine ⟨by omega, fun x hx => ?_⟩
  have := h.2
  unfold farL at this
  rw [List.any_eq_false] at this
  have := this x hx
  simp at this
  exact this
end Go.Proofs.YtgijnjdcpipfiaaDoor
/- What the texts on numbers of trees share. -/
namespace Go.Proofs.YtgijnjdcpipfiaaDoor
open Go.RowKit
theorem below_al (w : World) (o : Obj) : Below w.heap.size w (w.alloc o) := (Below.refl _ w).alloc (Nat.le_refl _) o
theorem treeV_nz {Q : List NP} {t : Tr} {v : Value} (h : TreeV Q t v) : t = .nil ∨ IsN t := by
  rcases h with ⟨h, _⟩ | ⟨h, _⟩
  · exact Or.inl h
  · exact Or.inr h
end Go.Proofs.YtgijnjdcpipfiaaDoor
/- canon.Shape. -/
namespace Go.Proofs.YtgijnjdcpipfiaaDoor
open Go.RowKit
theorem shape_nil {w w1 : World} {b : Nat} (hS : SB w.heap.size b [] w1) (hB : Below w.heap.size w w1) : Calls Tryd.prog 28 #[.pointer (some ⟨b, 0, none⟩), .pointer none] w1 fun e w' => e = .returned (.tuple #[]) ∧ SB w.heap.size b [46] w' ∧ Below w.heap.size w w' := by
  have hW : Hid (Calls Tryd.prog 46 #[.pointer (some ⟨b, 0, none⟩), .string ⟨#[46]⟩] w1 fun e w' => (∃ x, e = .returned (.tuple #[.int .i64 x, .nilIface])) ∧ SB w.heap.size b [46] w' ∧ Below w.heap.size w1 w') := sb_writeS hS (ls := [46]) rfl (by simp) hB.size
  have HB := Lib.hid hB
  clear hS hB
  go_enter Tryd.func28, Tryd.ntmps28
  go_wp2_with (go_at_call 46; refine hW.out.mono ?_; rintro e w9 ⟨⟨x9, rfl⟩, q1, q2⟩; have S9 := Lib.hid q1; have B9 := Lib.hid (HB.out.trans q2); clear q1 q2)
  (try simp only [Exit.inBlock, Exit.then])
  refine bodyPost_ret (results_none rfl _ _ _) rfl ?_
  exact ⟨rfl, S9.out, B9.out⟩
theorem canon_shape {w0 w : World} {Q : List NP} {t : Tr} {v : Option Addr} (hT : PTab w) (hQ : StoreP NoB w0 w Q) (hV : TreeV Q t (.pointer v)) (hO : TOk t) (hl : (shp t).length ≤ 700000) : Calls Tryd.prog 10 #[.pointer v] w (belowPost (.string ⟨(shpT t).toArray⟩) w) := by
  have hA : Below w.heap.size w (w.alloc (.cells #[.pointer none, .slice none 0 0] sbT)) := (Below.refl _ w).alloc (Nat.le_refl _) _
  have hSh : Hid (Calls Tryd.prog 28 #[.pointer (some ⟨w.heap.size, 0, none⟩), .pointer v] (w.alloc (.cells #[.pointer none, .slice none 0 0] sbT)) fun e w' => e = .returned (.tuple #[]) ∧ SB w.heap.size w.heap.size (shpT t) w' ∧ Below w.heap.size w w') := by
    rcases treeV_nz hV with h | h
    · subst h
      obtain rfl : v = none := by
        rcases hV with ⟨_, h⟩ | ⟨h, _⟩
        · simpa using h
        · exact h.elim
      exact shape_nil (SB.new w) hA
    · have := shp_any hT hQ _ t _ v w.heap.size [] (Nat.le_refl _) h hV hO (by simpa using hl) hA (SB.new w)
      have e : shpT t = shp t := by
        cases t with
        | nil => exact h.elim
        | kid => rfl
        | node => rfl
      rw [e]
      exact this
  clear hA hT hQ hV hO hl
  generalize shpT t = l at *
  go_enter Tryd.func10, Tryd.ntmps10
  go_wp2_with (first
    | (go_at_call 28; refine hSh.out.mono ?_; rintro e w1 ⟨rfl, q1, q2⟩
       have S1 := Lib.hid q1
       have B1 := Lib.hid q2
       clear q1 q2)
    | (go_at_call 29; refine (sb_string S1.out B1.out.size).mono ?_; rintro e w2 ⟨rfl, q⟩
       have B2 := Lib.hid (B1.out.trans q)
       clear q))
  go_ret
  exact ⟨rfl, B2.out⟩
end Go.Proofs.YtgijnjdcpipfiaaDoor
/- canon.each at any tree, for callbacks that are told each node. -/
namespace Go.Proofs.YtgijnjdcpipfiaaDoor
open Go.RowKit
/-- what is told of a tree behind some bytes, node by node -/
def tv {α : Type} (tell : List Nat → Int → Bool → Bool → Nat → List α) : Tr → List Nat → List α
  | .nil, _ => []
  | .kid b t r, k => tv tell t (k ++ [b]) ++ tv tell r k
  | .node bs v has leaf ks, k => tell (k ++ bs) v has leaf (chain ks).length ++ tv tell ks (k ++ bs)
/-- what a callback does, at a node -/
def CbTell {α : Type} (tell : List Nat → Int → Bool → Bool → Nat → List α) (S : (Nat → Prop) → List α → World → Prop) (w : World) (fn : FuncId) (m : Nat) : Prop :=
  ∀ F L X (n : Nat) bs (val : Int) has leaf mm kk (a : Option Addr) (nn c : Nat) key, S F L X → NodeW X n bs val has leaf mm kk → Sl X a nn c key → nn ≤ 900000 → 0 ≤ val → val < 18446744073709551616 → mm ≤ 256 → Below w.heap.size w X → L.length ≤ 2000 →
    Calls Tryd.prog fn #[.slice a nn c, .pointer (some ⟨n, 0, none⟩), .pointer (some ⟨m, 0, none⟩)] X fun e X' => e = .returned (.tuple #[]) ∧ ∃ F', S F' (L ++ tell key val has leaf mm) X' ∧ Mod F X X' ∧ ∀ j, F' j → F j ∨ X.heap.size ≤ j
/-- what each is asked for at a tree -/
def EachAskG {α : Type} (tell : List Nat → Int → Bool → Bool → Nat → List α) (S : (Nat → Prop) → List α → World → Prop) (w : World) (cf : Value) (N : Nat) : Prop := ∀ (t : Tr) {w0 : World} {Q : List NP} {p : Option Addr}, tdep t ≤ N → StoreP NoB w0 w Q → TreeIn Q 0 t (.pointer p) [] → IsN t → TOk t → ∀ {X : World} {v : Value} {k : List Nat} {bo : Option Nat} {cap : Nat} {F : Nat → Prop} {L : List α} {bf bd : Nat}, EaS S w bf bd cf (eachF bf bd) v k bo cap F L X → (∀ x ∈ k, x < 256) → k.length + tway t ≤ 900000 → L.length + (tv tell t k).length ≤ 2000 →
  Calls Tryd.prog 40 #[v, .pointer p, .pointer (some ⟨bf, 0, none⟩), .pointer (some ⟨bd, 0, none⟩)] X fun e X' => e = .returned (.tuple #[]) ∧ ∃ F', EaS S w bf bd cf (eachF bf bd) v k bo cap F' (L ++ tv tell t k) X' ∧ Ext bo F X X' F'
set_option maxHeartbeats 4000000 in
set_option maxRecDepth 100000 in
theorem each1G_fn {α : Type} {tell : List Nat → Int → Bool → Bool → Nat → List α} {S : (Nat → Prop) → List α → World → Prop} {w : World} {m : Nat} (hS : CbT S w.heap.size) (hf : CbTell tell S w (24) m) (N : Nat) (IH : EachAskG tell S w (.func (.func 24) #[] #[.pointer (some ⟨m, 0, none⟩)]) N)
    {w0 X : World} {Q : List NP} (hQ : StoreP NoB w0 w Q) {n : Nat} {bs : List Nat} {val : Int} {has leaf : Bool} {mm : Nat} {kk : KV} {ks : Tr} (h : NodeW w n bs val has leaf mm kk) (hKs : Kids Q kk ks ks [] kk) (hk0 : knxt kk 0 = kk.head?) (hdp : tdep ks ≤ N) (hb8 : ∀ x ∈ bs, x < 256) (hv0 : 0 ≤ val) (hv1 : val < 18446744073709551616) (hmm : mm ≤ 256)
    {v : Value} {k : List Nat} {bo : Option Nat} {cap : Nat} {F : Nat → Prop} {L : List α} {bf bd : Nat} (hE : EaS S w bf bd (.func (.func 24) #[] #[.pointer (some ⟨m, 0, none⟩)]) (eachF bf bd) v k bo cap F L X) (hk8 : ∀ x ∈ k, x < 256) (hway : k.length + (bs.length + tway ks) ≤ 900000) {T : List α} (hT : T = L ++ tell (k ++ bs) val has leaf mm ++ tv tell ks (k ++ bs)) (htot : T.length ≤ 2000) :
    Calls Tryd.prog 40 #[v, .pointer (some ⟨n, 0, none⟩), .pointer (some ⟨bf, 0, none⟩), .pointer (some ⟨bd, 0, none⟩)] X fun e X' => e = .returned (.tuple #[]) ∧ ∃ F', EaS S w bf bd (.func (.func 24) #[] #[.pointer (some ⟨m, 0, none⟩)]) (eachF bf bd) v k bo cap F' T X' ∧ Ext bo F X X' F' := by
  have hPart := Lib.hid (h.part X hE.since)
  have HN := Lib.hid h
  have HS := Lib.hid hS
  have HF := Lib.hid hf
  have HQ := Lib.hid hQ
  have HE := Lib.hid hE
  have hn0 : Hid (∀ X, Below w.heap.size w X → Calls Tryd.prog 35 #[.pointer (some ⟨n, 0, none⟩), .int .i64 0] X fun e w' => e = .returned (.tuple #[.int .u8 (hdB kk : Nat), hdK kk]) ∧ Below X.heap.size X w') := fun X hX => by
    have := h.next X 0 hX (by omega) (by omega)
    rw [hk0, stepV_head] at this
    exact this
  obtain ⟨kb, hkbe⟩ : ∃ kb, kb = k ++ bs := ⟨_, rfl⟩
  have HKe := Lib.hid hkbe
  have hT2 : Hid (L ++ tell kb val has leaf mm ++ tv tell ks kb = T) := by rw [hkbe]; exact hT.symm
  have hLl : Hid (L.length ≤ 2000) := by show _ ≤ _; have := congrArg List.length hT; simp only [List.length_append] at this; omega
  have HT := Lib.hid htot
  have hKs0 := Lib.hid hKs
  have hkl : Hid (k.length ≤ 1000000) := by show _ ≤ _; omega
  have hbl : Hid (bs.length ≤ 1000000) := by show _ ≤ _; omega
  have h1m : Hid (1 ≤ 1000000) := by show _ ≤ _; omega
  have hkb : Hid (∀ x ∈ kb, x < 256) := fun x hx => by
    rw [hkbe] at hx
    rcases List.mem_append.1 hx with hx | hx
    · exact hk8 x hx
    · exact hb8 x hx
  have hkbl : Hid (kb.length + tway ks ≤ 900000) := by show _ ≤ _; rw [hkbe, List.length_append]; omega
  have hv := Lib.hid (And.intro hv0 hv1)
  have Hmm := Lib.hid hmm
  clear h hKs hk0 hb8 hv0 hv1 hmm hE hk8 hway hT htot hS hf hQ hkbe
  go_enter Tryd.func40, Tryd.ntmps40
  go_wp2_with (first
    | (go_at_call 35; refine (hn0.out _ B3.out).mono ?_; rintro e w4 ⟨rfl, z1⟩; have E4 := Lib.hid (E3.out.below HS.out z1); have Y4 := Lib.hid (Y3.out.trans (Ext.of_below z1)); clear z1)
    | (go_at_call 24; refine (HF.out _ _ _ _ _ _ _ _ _ _ _ _ _ _ E2.out.st hNX.out hSl.out (by have := hkbl.out; omega) hv.out.1 hv.out.2 Hmm.out E2.out.since hLl.out).mono ?_; rintro e w3 ⟨rfl, F3, s3, m3, f3⟩
       obtain ⟨q1, q2⟩ := E2.out.told HS.out s3 m3 f3
       have E3 := Lib.hid q1
       have Y3 := Lib.hid q2
       have B3 := Lib.hid q1.since
       clear s3 m3 f3 q1 q2)
    | (at_builtin; go_loud (refine wpList_append_way (v := v) rfl (.tmp 10) (.tmp 12) rfl rfl E1.out.way ⟨X.heap.size, 0, none⟩ bs.length bs.length bs rfl rfl hnews.out hkl.out hbl.out ?_); intro v2 w2 bo2 cap2 HW HG HM HK
       obtain ⟨q1, q2⟩ := E1.out.app HS.out HW.out HG.out HM.out
       rw [← HKe.out] at q1
       have E2 := Lib.hid q1
       have hNX := Lib.hid (HN.out.below q1.since)
       obtain ⟨a2, hv2, sl2⟩ := q1.way.sl hkb.out
       subst hv2
       have hSl := Lib.hid sl2
       have cbf := q1.xf
       clear q1 q2 sl2 HW)
    | (go_at_call 41; refine hPart.out.mono ?_; rintro e w1 ⟨rfl, s1, b1⟩
       have E1 := Lib.hid (HE.out.below HS.out b1)
       have B1 := Lib.hid b1
       have hnews := Lib.hid (sl_news s1 (Below.refl _ w1))
       clear s1 b1))
  have E4' := E4
  have Y4' := Y4
  clear E4 Y4 Y3 E3 E2 B3 hNX hSl cbf hnews hn0 hPart hLl hbl
  go_loopw [6, 7] (fun v6 v7 wr => ∃ (F1 : Nat → Prop) (L1 : List α) (r : Tr) (A lr : KV), v6 = .int .u8 (hdB lr : Nat) ∧ v7 = hdK lr ∧ Hid (EaS S w bf bd (.func (.func 24) #[] #[.pointer (some ⟨m, 0, none⟩)]) (eachF bf bd) (.slice a2 kb.length cap2) kb bo2 cap2 F1 L1 wr) ∧ Hid (Ext bo2 F w2 wr F1) ∧ Hid (Kids Q kk ks r A lr) ∧ Hid (L1 ++ tv tell r kb = T) ∧ Hid (tdep r ≤ N ∧ kb.length + tway r ≤ 900000)) (fun v6 v7 _ => match v7 with | .pointer none => 0 | _ => 256 - (intOf v6).toNat)
  case atStart => exact ⟨F3, _, ks, [], kk, rfl, rfl, E4', Y4', hKs0, hT2, hdp, hkbl.out⟩
  case round =>
    clear E4' Y4' hKs0 hT2 hkbl
    obtain ⟨F1, L1, r, A, lr, rfl, rfl, hE, hY, hKd, hL, hdr⟩ := hrel
    by_cases hl : lr = []
    · subst hl
      obtain rfl := hKd.out.done
      rw [show hdK ([] : KV) = .pointer none from rfl]
      go_wp2_with fail
      go_end0
      have e := hL.out
      simp only [tv, List.append_nil] at e
      have q := hE.out
      rw [HKe.out, e] at q
      obtain ⟨q1, q2⟩ := E1.out.back HS.out HG.out HM.out HK.out q hY.out
      exact ⟨rfl, F1, q1, (Ext.of_below B1.out).trans q2⟩
    · obtain ⟨b, t, r', x, lr', rfl, rfl, hb1, hx1, hb256, ⟨kn, rfl⟩, hTV, hIN, hOk, hnext, hkn⟩ := hKd.out.next hl
      rw [hb1, hx1]
      obtain ⟨kb2, hkb2⟩ : ∃ kb2, kb2 = kb ++ [b] := ⟨_, rfl⟩
      have HK2 := Lib.hid hkb2
      have hL2 : Hid (L1 ++ tv tell t kb2 ++ tv tell r' kb = T) := by show _ = _; rw [← hL.out, hkb2]; simp [tv]
      have hLl : Hid (L1.length + (tv tell t kb2).length ≤ 2000) := by
        have := congrArg List.length hL2.out
        have := HT.out
        simp only [List.length_append] at *
        show _ ≤ _
        omega
      have hdr1 := hdr.out.1
      have hdr2 := hdr.out.2
      simp only [tdep] at hdr1
      simp only [tway] at hdr2
      have hTI : TreeIn Q 0 t (.pointer (some ⟨kn, 0, none⟩)) [] := by
        rcases hTV with ⟨_, e⟩ | ⟨_, e⟩
        · cases e
        · exact e
      have hk2 : Hid (∀ x ∈ kb2, x < 256) := fun x hx => by
        rw [hkb2] at hx
        rcases List.mem_append.1 hx with hx | hx
        · exact hkb.out x hx
        · obtain rfl := List.mem_singleton.1 hx; exact hb256
      have hRec : Hid (∀ w8 v8 bo8 cap8, EaS S w bf bd (.func (.func 24) #[] #[.pointer (some ⟨m, 0, none⟩)]) (eachF bf bd) v8 kb2 bo8 cap8 F1 L1 w8 → Calls Tryd.prog 40 #[v8, .pointer (some ⟨kn, 0, none⟩), .pointer (some ⟨bf, 0, none⟩), .pointer (some ⟨bd, 0, none⟩)] w8 fun e X' => e = .returned (.tuple #[]) ∧ ∃ F', EaS S w bf bd (.func (.func 24) #[] #[.pointer (some ⟨m, 0, none⟩)]) (eachF bf bd) v8 kb2 bo8 cap8 F' (L1 ++ tv tell t kb2) X' ∧ Ext bo8 F1 w8 X' F') := fun w8 v8 bo8 cap8 q =>
        IH t (by omega) HQ.out hTI hIN hOk q hk2.out (by rw [hkb2, List.length_append, List.length_singleton]; omega) hLl.out
      have hN2 : Hid (∀ wr', Below w.heap.size w wr' → Calls Tryd.prog 35 #[.pointer (some ⟨n, 0, none⟩), .int .i64 ((b + 1 : Nat) : Int)] wr' fun e w' => e = .returned (.tuple #[.int .u8 (hdB lr' : Nat), hdK lr']) ∧ Below wr'.heap.size wr' w') := fun wr' hb' => by
        have := HN.out.next wr' ((b + 1 : Nat) : Int) hb' (by omega) (by omega)
        rw [show (((b + 1 : Nat) : Int)) = (b : Int) + 1 by omega, hkn, stepV_head] at this
        exact this
      have hK2 := Lib.hid hnext
      have hwb : IntKind.i64.wrap ((b : Int) + 1) = ((b + 1 : Nat) : Int) := by rw [show (b : Int) + 1 = ((b + 1 : Nat) : Int) by omega]; exact IntWalk.i64_in _ (by omega)
      have hwc : IntKind.i64.wrap (b : Int) = (b : Int) := IntWalk.i64_in _ (by omega)
      have hms : Hid (∀ p ∈ lr', b < p.1 ∧ p.1 < 256) := kids_rest hnext
      have hdr3 : Hid (tdep r' ≤ N ∧ kb.length + tway r' ≤ 900000) := And.intro (by omega) (by omega)
      have hkbL : Hid (kb.length ≤ 1000000) := by show _ ≤ _; omega
      have hAd : Hid (Below wr.heap.size wr (wr.alloc (.cells #[.int .u8 (b : Nat)] 5)).drew) := ((Below.refl _ wr).alloc (Nat.le_refl _) _).drew
      have hEA := Lib.hid (hE.out.below HS.out hAd.out)
      have hnews : Hid (∀ j u, (bV [b])[j]? = some u → (wr.alloc (.cells #[.int .u8 (b : Nat)] 5)).drew.cell? ((⟨wr.heap.size, 0, none⟩ : Addr).add j) = some u) := news_alloc wr [.int .u8 (b : Nat)] 5
      have cd0 := hE.out.xd
      have cdA : ∀ o, (wr.alloc o).cell? ⟨bd, 0, none⟩ = some (eachF bf bd) := fun o => (hE.out.below HS.out ((Below.refl _ wr).alloc (Nat.le_refl _) o)).xd
      unfold eachF at cd0 cdA
      clear hTV hTI hIN hOk hnext hkn hKd hl hb1 hx1 hdr hdr1 hdr2 hL hkb2
      go_wp2_with fail
      go_region_law (first
        | (refine step_append_way (v := .slice a2 kb.length cap2) rfl (.tmp 34) (.tmp 36) rfl rfl hEA.out.way ⟨wr.heap.size, 0, none⟩ 1 1 [b] rfl rfl hnews.out hkbL.out h1m.out ?_; intro v8 w8 bo8 cap8 HW8 HG8 HM8 HK8
           obtain ⟨q1, q2⟩ := hEA.out.app HS.out HW8.out HG8.out HM8.out
           rw [← HK2.out] at q1
           have E8 := Lib.hid q1
           have cd8 := q1.xd
           unfold eachF at cd8
           clear q1 q2)
        | (go_simp; go_at_call 40; refine (hRec.out _ _ _ _ E8.out).mono ?_; rintro e w9 ⟨rfl, F9, q9, y9⟩
           have E9 := Lib.hid (hEA.out.back HS.out HG8.out HM8.out HK8.out (by rw [← HK2.out]; exact q9) y9)
           clear q9 y9))
      all_goals
        go_wp2_with (go_at_call 35; refine (hN2.out _ E9.out.1.since).mono ?_; rintro e w10 ⟨rfl, z1⟩; have E10 := Lib.hid (E9.out.1.below HS.out z1); have Y10 := Lib.hid (hY.out.trans ((Ext.of_below hAd.out).trans (E9.out.2.trans (Ext.of_below z1)))); clear z1)
        go_roundw
        case rel => exact ⟨F9, _, r', A ++ [(b, .pointer (some ⟨kn, 0, none⟩))], lr', rfl, rfl, E10, Y10, hK2, hL2, hdr3⟩
        case measure =>
          cases lr' with
          | nil => simp [hdK, hdB, intOf]; omega
          | cons y l => have := hms.out y (by simp); simp [hdK, hdB, intOf]; split <;> omega
theorem eachAnyG_fn {α : Type} {tell : List Nat → Int → Bool → Bool → Nat → List α} {S : (Nat → Prop) → List α → World → Prop} {w : World} {m : Nat} (hS : CbT S w.heap.size) (hf : CbTell tell S w (24) m) : ∀ N, EachAskG tell S w (.func (.func 24) #[] #[.pointer (some ⟨m, 0, none⟩)]) N
  | 0 => fun t w0 Q p hd hQ hT hN hO => by
    cases t with
    | nil => exact hN.elim
    | kid => exact hN.elim
    | node => simp only [tdep] at hd; omega
  | N + 1 => fun t w0 Q p hd hQ hT hN hO X v k bo cap F L bf bd hE hk8 hway htot => by
    cases t with
    | nil => exact hN.elim
    | kid => exact hN.elim
    | node bs val has leaf ks =>
      simp only [tdep] at hd
      simp only [tway] at hway
      obtain ⟨n, kk, rfl, h1, h2, h3, _⟩ := nodew_of hQ hT hO
      have hm2 := chain256 hO.2.2.2.2.2.1 hO.2.2.2.2.2.2
      obtain ⟨o1, o2, o3, _⟩ := hO
      refine each1G_fn hS hf N (eachAnyG_fn hS hf N) hQ h1 h2 h3 (by omega) o1 o2 o3 hm2 hE hk8 hway (T := L ++ tv tell (.node bs val has leaf ks) k) ?_ (by rw [List.length_append]; exact htot)
      simp only [tv, List.append_assoc]
theorem eachTopG_fn {α : Type} {tell : List Nat → Int → Bool → Bool → Nat → List α} {S : (Nat → Prop) → List α → World → Prop} {w w0 X : World} {m : Nat} (hS : CbT S w.heap.size) (hf : CbTell tell S w (24) m) {t : Tr} {Q : List NP} {p : Option Addr} (hQ : StoreP NoB w0 w Q) (hT : TreeV Q t (.pointer p)) (hO : TOk t) (hb : Below w.heap.size w X) {F : Nat → Prop} (hs : S F [] X) (hway : tway t ≤ 900000) (htot : (tv tell t []).length ≤ 2000) :
    Calls Tryd.prog 20 #[.pointer p, .func (.func 24) #[] #[.pointer (some ⟨m, 0, none⟩)]] X fun e X' => e = .returned (.tuple #[]) ∧ ∃ F', S F' (tv tell t []) X' ∧ Mod F X X' ∧ ∀ j, F' j → F j ∨ X.heap.size ≤ j := by
  obtain ⟨w1, hw1⟩ : ∃ w1, w1 = X.alloc (.cells #[.func (.func 24) #[] #[.pointer (some ⟨m, 0, none⟩)]] 59) := ⟨_, rfl⟩
  have hbx : w1.heap[X.heap.size]? = some (.cells [.func (.func 24) #[] #[.pointer (some ⟨m, 0, none⟩)]].toArray 59 (0, 0)) := by rw [hw1]; exact heap_alloc_new X _
  have hA1 : Below X.heap.size X w1 := by rw [hw1]; exact (Below.refl _ X).alloc (Nat.le_refl _) _
  have hs1 : w1.heap.size = X.heap.size + 1 := by rw [hw1, World.size_alloc]
  have hE : Hid (∀ t', Calls Tryd.prog 40 #[.slice none 0 0, .pointer p, .pointer (some ⟨X.heap.size, 0, none⟩), .pointer (some ⟨w1.heap.size, 0, none⟩)] (w1.alloc (.cells #[eachF X.heap.size w1.heap.size] t')) fun e X' => e = .returned (.tuple #[]) ∧ ∃ F', S F' (tv tell t []) X' ∧ Mod F X X' ∧ ∀ j, F' j → F j ∨ X.heap.size ≤ j) := fun t' => by
    have hA2 : Below w1.heap.size w1 (w1.alloc (.cells #[eachF X.heap.size w1.heap.size] t')) := (Below.refl _ w1).alloc (Nat.le_refl _) _
    have hA : Below X.heap.size X (w1.alloc (.cells #[eachF X.heap.size w1.heap.size] t')) := hA1.trans (hA2.mono hA1.size)
    have hF : ∀ b, X.heap.size ≤ b → ¬ F b := fun b h q => by have := hS.high F [] X hs b q; omega
    rcases hT with ⟨rfl, e⟩ | ⟨hn, hT⟩
    · obtain rfl : p = none := by simpa using e
      refine (each1_nil _ _ _).mono ?_
      rintro e w' ⟨rfl, rfl⟩
      exact ⟨rfl, F, hS.keep F [] X _ hs fun j hj => hA.block j (hS.high F [] X hs j hj), Mod.of_below hA, fun j hj => Or.inl hj⟩
    · have hEA : EaS S w X.heap.size w1.heap.size (.func (.func 24) #[] #[.pointer (some ⟨m, 0, none⟩)]) (eachF X.heap.size w1.heap.size) (.slice none 0 0) [] none 0 F [] (w1.alloc (.cells #[eachF X.heap.size w1.heap.size] t')) := by
        refine ⟨hb.trans (hA.mono hb.size), WayAt.nil _, fun g e => (by cases e), hS.keep F [] X _ hs fun j hj => hA.block j (hS.high F [] X hs j hj), fun g e => (by cases e), ?_, ?_, ⟨hF _ (Nat.le_refl _), by simp⟩, ⟨hF _ (by omega), by simp⟩⟩
        · rw [cell_of_blk ((hA2.block _ (Array.getElem?_eq_some_iff.1 hbx).1).trans hbx)]; rfl
        · rw [cell_of_blk (c := [eachF X.heap.size w1.heap.size]) (t := t') (heap_alloc_new w1 _)]; rfl
      refine (eachAnyG_fn hS hf (tdep t) t (Nat.le_refl _) hQ hT hn hO hEA (by simp) (by simpa using hway) (by simpa using htot)).mono ?_
      rintro e X' ⟨rfl, F', q, q1, q2⟩
      have q3 := q.st
      simp only [List.nil_append] at q3
      refine ⟨rfl, F', q3, (Mod.of_below hA).then q1 fun i _ r => ?_, fun j hj => ?_⟩
      · rcases r with r | r
        · cases r
        · exact r
      · rcases q2 j hj with r | r
        · exact Or.inl r
        · exact Or.inr (Nat.le_trans hA.size r)
  unfold eachF at hE
  generalize tv tell t [] = T at *
  clear hQ hb hT hO hbx hA1 hs1 hway htot hs hS hf
  go_enter Tryd.func20, Tryd.ntmps20
  go_upto_region 1 with fail
  rw [← hw1]
  clear hw1
  go_wp2_with (go_at_call 40; refine (hE.out _).mono ?_; rintro e w' ⟨rfl, q⟩; have q := Lib.hid q)
  go_end0
  exact ⟨rfl, q.out⟩

set_option maxHeartbeats 4000000 in
set_option maxRecDepth 100000 in
theorem each1G_pt {α : Type} {tell : List Nat → Int → Bool → Bool → Nat → List α} {S : (Nat → Prop) → List α → World → Prop} {w : World} {m : Nat} (hS : CbT S w.heap.size) (hf : CbTell tell S w (37) m) (N : Nat) (IH : EachAskG tell S w (.func (.func 37) #[] #[.pointer (some ⟨m, 0, none⟩)]) N)
    {w0 X : World} {Q : List NP} (hQ : StoreP NoB w0 w Q) {n : Nat} {bs : List Nat} {val : Int} {has leaf : Bool} {mm : Nat} {kk : KV} {ks : Tr} (h : NodeW w n bs val has leaf mm kk) (hKs : Kids Q kk ks ks [] kk) (hk0 : knxt kk 0 = kk.head?) (hdp : tdep ks ≤ N) (hb8 : ∀ x ∈ bs, x < 256) (hv0 : 0 ≤ val) (hv1 : val < 18446744073709551616) (hmm : mm ≤ 256)
    {v : Value} {k : List Nat} {bo : Option Nat} {cap : Nat} {F : Nat → Prop} {L : List α} {bf bd : Nat} (hE : EaS S w bf bd (.func (.func 37) #[] #[.pointer (some ⟨m, 0, none⟩)]) (eachF bf bd) v k bo cap F L X) (hk8 : ∀ x ∈ k, x < 256) (hway : k.length + (bs.length + tway ks) ≤ 900000) {T : List α} (hT : T = L ++ tell (k ++ bs) val has leaf mm ++ tv tell ks (k ++ bs)) (htot : T.length ≤ 2000) :
    Calls Tryd.prog 40 #[v, .pointer (some ⟨n, 0, none⟩), .pointer (some ⟨bf, 0, none⟩), .pointer (some ⟨bd, 0, none⟩)] X fun e X' => e = .returned (.tuple #[]) ∧ ∃ F', EaS S w bf bd (.func (.func 37) #[] #[.pointer (some ⟨m, 0, none⟩)]) (eachF bf bd) v k bo cap F' T X' ∧ Ext bo F X X' F' := by
  have hPart := Lib.hid (h.part X hE.since)
  have HN := Lib.hid h
  have HS := Lib.hid hS
  have HF := Lib.hid hf
  have HQ := Lib.hid hQ
  have HE := Lib.hid hE
  have hn0 : Hid (∀ X, Below w.heap.size w X → Calls Tryd.prog 35 #[.pointer (some ⟨n, 0, none⟩), .int .i64 0] X fun e w' => e = .returned (.tuple #[.int .u8 (hdB kk : Nat), hdK kk]) ∧ Below X.heap.size X w') := fun X hX => by
    have := h.next X 0 hX (by omega) (by omega)
    rw [hk0, stepV_head] at this
    exact this
  obtain ⟨kb, hkbe⟩ : ∃ kb, kb = k ++ bs := ⟨_, rfl⟩
  have HKe := Lib.hid hkbe
  have hT2 : Hid (L ++ tell kb val has leaf mm ++ tv tell ks kb = T) := by rw [hkbe]; exact hT.symm
  have hLl : Hid (L.length ≤ 2000) := by show _ ≤ _; have := congrArg List.length hT; simp only [List.length_append] at this; omega
  have HT := Lib.hid htot
  have hKs0 := Lib.hid hKs
  have hkl : Hid (k.length ≤ 1000000) := by show _ ≤ _; omega
  have hbl : Hid (bs.length ≤ 1000000) := by show _ ≤ _; omega
  have h1m : Hid (1 ≤ 1000000) := by show _ ≤ _; omega
  have hkb : Hid (∀ x ∈ kb, x < 256) := fun x hx => by
    rw [hkbe] at hx
    rcases List.mem_append.1 hx with hx | hx
    · exact hk8 x hx
    · exact hb8 x hx
  have hkbl : Hid (kb.length + tway ks ≤ 900000) := by show _ ≤ _; rw [hkbe, List.length_append]; omega
  have hv := Lib.hid (And.intro hv0 hv1)
  have Hmm := Lib.hid hmm
  clear h hKs hk0 hb8 hv0 hv1 hmm hE hk8 hway hT htot hS hf hQ hkbe
  go_enter Tryd.func40, Tryd.ntmps40
  go_wp2_with (first
    | (go_at_call 35; refine (hn0.out _ B3.out).mono ?_; rintro e w4 ⟨rfl, z1⟩; have E4 := Lib.hid (E3.out.below HS.out z1); have Y4 := Lib.hid (Y3.out.trans (Ext.of_below z1)); clear z1)
    | (go_at_call 37; refine (HF.out _ _ _ _ _ _ _ _ _ _ _ _ _ _ E2.out.st hNX.out hSl.out (by have := hkbl.out; omega) hv.out.1 hv.out.2 Hmm.out E2.out.since hLl.out).mono ?_; rintro e w3 ⟨rfl, F3, s3, m3, f3⟩
       obtain ⟨q1, q2⟩ := E2.out.told HS.out s3 m3 f3
       have E3 := Lib.hid q1
       have Y3 := Lib.hid q2
       have B3 := Lib.hid q1.since
       clear s3 m3 f3 q1 q2)
    | (at_builtin; go_loud (refine wpList_append_way (v := v) rfl (.tmp 10) (.tmp 12) rfl rfl E1.out.way ⟨X.heap.size, 0, none⟩ bs.length bs.length bs rfl rfl hnews.out hkl.out hbl.out ?_); intro v2 w2 bo2 cap2 HW HG HM HK
       obtain ⟨q1, q2⟩ := E1.out.app HS.out HW.out HG.out HM.out
       rw [← HKe.out] at q1
       have E2 := Lib.hid q1
       have hNX := Lib.hid (HN.out.below q1.since)
       obtain ⟨a2, hv2, sl2⟩ := q1.way.sl hkb.out
       subst hv2
       have hSl := Lib.hid sl2
       have cbf := q1.xf
       clear q1 q2 sl2 HW)
    | (go_at_call 41; refine hPart.out.mono ?_; rintro e w1 ⟨rfl, s1, b1⟩
       have E1 := Lib.hid (HE.out.below HS.out b1)
       have B1 := Lib.hid b1
       have hnews := Lib.hid (sl_news s1 (Below.refl _ w1))
       clear s1 b1))
  have E4' := E4
  have Y4' := Y4
  clear E4 Y4 Y3 E3 E2 B3 hNX hSl cbf hnews hn0 hPart hLl hbl
  go_loopw [6, 7] (fun v6 v7 wr => ∃ (F1 : Nat → Prop) (L1 : List α) (r : Tr) (A lr : KV), v6 = .int .u8 (hdB lr : Nat) ∧ v7 = hdK lr ∧ Hid (EaS S w bf bd (.func (.func 37) #[] #[.pointer (some ⟨m, 0, none⟩)]) (eachF bf bd) (.slice a2 kb.length cap2) kb bo2 cap2 F1 L1 wr) ∧ Hid (Ext bo2 F w2 wr F1) ∧ Hid (Kids Q kk ks r A lr) ∧ Hid (L1 ++ tv tell r kb = T) ∧ Hid (tdep r ≤ N ∧ kb.length + tway r ≤ 900000)) (fun v6 v7 _ => match v7 with | .pointer none => 0 | _ => 256 - (intOf v6).toNat)
  case atStart => exact ⟨F3, _, ks, [], kk, rfl, rfl, E4', Y4', hKs0, hT2, hdp, hkbl.out⟩
  case round =>
    clear E4' Y4' hKs0 hT2 hkbl
    obtain ⟨F1, L1, r, A, lr, rfl, rfl, hE, hY, hKd, hL, hdr⟩ := hrel
    by_cases hl : lr = []
    · subst hl
      obtain rfl := hKd.out.done
      rw [show hdK ([] : KV) = .pointer none from rfl]
      go_wp2_with fail
      go_end0
      have e := hL.out
      simp only [tv, List.append_nil] at e
      have q := hE.out
      rw [HKe.out, e] at q
      obtain ⟨q1, q2⟩ := E1.out.back HS.out HG.out HM.out HK.out q hY.out
      exact ⟨rfl, F1, q1, (Ext.of_below B1.out).trans q2⟩
    · obtain ⟨b, t, r', x, lr', rfl, rfl, hb1, hx1, hb256, ⟨kn, rfl⟩, hTV, hIN, hOk, hnext, hkn⟩ := hKd.out.next hl
      rw [hb1, hx1]
      obtain ⟨kb2, hkb2⟩ : ∃ kb2, kb2 = kb ++ [b] := ⟨_, rfl⟩
      have HK2 := Lib.hid hkb2
      have hL2 : Hid (L1 ++ tv tell t kb2 ++ tv tell r' kb = T) := by show _ = _; rw [← hL.out, hkb2]; simp [tv]
      have hLl : Hid (L1.length + (tv tell t kb2).length ≤ 2000) := by
        have := congrArg List.length hL2.out
        have := HT.out
        simp only [List.length_append] at *
        show _ ≤ _
        omega
      have hdr1 := hdr.out.1
      have hdr2 := hdr.out.2
      simp only [tdep] at hdr1
      simp only [tway] at hdr2
      have hTI : TreeIn Q 0 t (.pointer (some ⟨kn, 0, none⟩)) [] := by
        rcases hTV with ⟨_, e⟩ | ⟨_, e⟩
        · cases e
        · exact e
      have hk2 : Hid (∀ x ∈ kb2, x < 256) := fun x hx => by
        rw [hkb2] at hx
        rcases List.mem_append.1 hx with hx | hx
        · exact hkb.out x hx
        · obtain rfl := List.mem_singleton.1 hx; exact hb256
      have hRec : Hid (∀ w8 v8 bo8 cap8, EaS S w bf bd (.func (.func 37) #[] #[.pointer (some ⟨m, 0, none⟩)]) (eachF bf bd) v8 kb2 bo8 cap8 F1 L1 w8 → Calls Tryd.prog 40 #[v8, .pointer (some ⟨kn, 0, none⟩), .pointer (some ⟨bf, 0, none⟩), .pointer (some ⟨bd, 0, none⟩)] w8 fun e X' => e = .returned (.tuple #[]) ∧ ∃ F', EaS S w bf bd (.func (.func 37) #[] #[.pointer (some ⟨m, 0, none⟩)]) (eachF bf bd) v8 kb2 bo8 cap8 F' (L1 ++ tv tell t kb2) X' ∧ Ext bo8 F1 w8 X' F') := fun w8 v8 bo8 cap8 q =>
        IH t (by omega) HQ.out hTI hIN hOk q hk2.out (by rw [hkb2, List.length_append, List.length_singleton]; omega) hLl.out
      have hN2 : Hid (∀ wr', Below w.heap.size w wr' → Calls Tryd.prog 35 #[.pointer (some ⟨n, 0, none⟩), .int .i64 ((b + 1 : Nat) : Int)] wr' fun e w' => e = .returned (.tuple #[.int .u8 (hdB lr' : Nat), hdK lr']) ∧ Below wr'.heap.size wr' w') := fun wr' hb' => by
        have := HN.out.next wr' ((b + 1 : Nat) : Int) hb' (by omega) (by omega)
        rw [show (((b + 1 : Nat) : Int)) = (b : Int) + 1 by omega, hkn, stepV_head] at this
        exact this
      have hK2 := Lib.hid hnext
      have hwb : IntKind.i64.wrap ((b : Int) + 1) = ((b + 1 : Nat) : Int) := by rw [show (b : Int) + 1 = ((b + 1 : Nat) : Int) by omega]; exact IntWalk.i64_in _ (by omega)
      have hwc : IntKind.i64.wrap (b : Int) = (b : Int) := IntWalk.i64_in _ (by omega)
      have hms : Hid (∀ p ∈ lr', b < p.1 ∧ p.1 < 256) := kids_rest hnext
      have hdr3 : Hid (tdep r' ≤ N ∧ kb.length + tway r' ≤ 900000) := And.intro (by omega) (by omega)
      have hkbL : Hid (kb.length ≤ 1000000) := by show _ ≤ _; omega
      have hAd : Hid (Below wr.heap.size wr (wr.alloc (.cells #[.int .u8 (b : Nat)] 5)).drew) := ((Below.refl _ wr).alloc (Nat.le_refl _) _).drew
      have hEA := Lib.hid (hE.out.below HS.out hAd.out)
      have hnews : Hid (∀ j u, (bV [b])[j]? = some u → (wr.alloc (.cells #[.int .u8 (b : Nat)] 5)).drew.cell? ((⟨wr.heap.size, 0, none⟩ : Addr).add j) = some u) := news_alloc wr [.int .u8 (b : Nat)] 5
      have cd0 := hE.out.xd
      have cdA : ∀ o, (wr.alloc o).cell? ⟨bd, 0, none⟩ = some (eachF bf bd) := fun o => (hE.out.below HS.out ((Below.refl _ wr).alloc (Nat.le_refl _) o)).xd
      unfold eachF at cd0 cdA
      clear hTV hTI hIN hOk hnext hkn hKd hl hb1 hx1 hdr hdr1 hdr2 hL hkb2
      go_wp2_with fail
      go_region_law (first
        | (refine step_append_way (v := .slice a2 kb.length cap2) rfl (.tmp 34) (.tmp 36) rfl rfl hEA.out.way ⟨wr.heap.size, 0, none⟩ 1 1 [b] rfl rfl hnews.out hkbL.out h1m.out ?_; intro v8 w8 bo8 cap8 HW8 HG8 HM8 HK8
           obtain ⟨q1, q2⟩ := hEA.out.app HS.out HW8.out HG8.out HM8.out
           rw [← HK2.out] at q1
           have E8 := Lib.hid q1
           have cd8 := q1.xd
           unfold eachF at cd8
           clear q1 q2)
        | (go_simp; go_at_call 40; refine (hRec.out _ _ _ _ E8.out).mono ?_; rintro e w9 ⟨rfl, F9, q9, y9⟩
           have E9 := Lib.hid (hEA.out.back HS.out HG8.out HM8.out HK8.out (by rw [← HK2.out]; exact q9) y9)
           clear q9 y9))
      all_goals
        go_wp2_with (go_at_call 35; refine (hN2.out _ E9.out.1.since).mono ?_; rintro e w10 ⟨rfl, z1⟩; have E10 := Lib.hid (E9.out.1.below HS.out z1); have Y10 := Lib.hid (hY.out.trans ((Ext.of_below hAd.out).trans (E9.out.2.trans (Ext.of_below z1)))); clear z1)
        go_roundw
        case rel => exact ⟨F9, _, r', A ++ [(b, .pointer (some ⟨kn, 0, none⟩))], lr', rfl, rfl, E10, Y10, hK2, hL2, hdr3⟩
        case measure =>
          cases lr' with
          | nil => simp [hdK, hdB, intOf]; omega
          | cons y l => have := hms.out y (by simp); simp [hdK, hdB, intOf]; split <;> omega
theorem eachAnyG_pt {α : Type} {tell : List Nat → Int → Bool → Bool → Nat → List α} {S : (Nat → Prop) → List α → World → Prop} {w : World} {m : Nat} (hS : CbT S w.heap.size) (hf : CbTell tell S w (37) m) : ∀ N, EachAskG tell S w (.func (.func 37) #[] #[.pointer (some ⟨m, 0, none⟩)]) N
  | 0 => fun t w0 Q p hd hQ hT hN hO => by
    cases t with
    | nil => exact hN.elim
    | kid => exact hN.elim
    | node => simp only [tdep] at hd; omega
  | N + 1 => fun t w0 Q p hd hQ hT hN hO X v k bo cap F L bf bd hE hk8 hway htot => by
    cases t with
    | nil => exact hN.elim
    | kid => exact hN.elim
    | node bs val has leaf ks =>
      simp only [tdep] at hd
      simp only [tway] at hway
      obtain ⟨n, kk, rfl, h1, h2, h3, _⟩ := nodew_of hQ hT hO
      have hm2 := chain256 hO.2.2.2.2.2.1 hO.2.2.2.2.2.2
      obtain ⟨o1, o2, o3, _⟩ := hO
      refine each1G_pt hS hf N (eachAnyG_pt hS hf N) hQ h1 h2 h3 (by omega) o1 o2 o3 hm2 hE hk8 hway (T := L ++ tv tell (.node bs val has leaf ks) k) ?_ (by rw [List.length_append]; exact htot)
      simp only [tv, List.append_assoc]
theorem eachTopG_pt {α : Type} {tell : List Nat → Int → Bool → Bool → Nat → List α} {S : (Nat → Prop) → List α → World → Prop} {w w0 X : World} {m : Nat} (hS : CbT S w.heap.size) (hf : CbTell tell S w (37) m) {t : Tr} {Q : List NP} {p : Option Addr} (hQ : StoreP NoB w0 w Q) (hT : TreeV Q t (.pointer p)) (hO : TOk t) (hb : Below w.heap.size w X) {F : Nat → Prop} (hs : S F [] X) (hway : tway t ≤ 900000) (htot : (tv tell t []).length ≤ 2000) :
    Calls Tryd.prog 20 #[.pointer p, .func (.func 37) #[] #[.pointer (some ⟨m, 0, none⟩)]] X fun e X' => e = .returned (.tuple #[]) ∧ ∃ F', S F' (tv tell t []) X' ∧ Mod F X X' ∧ ∀ j, F' j → F j ∨ X.heap.size ≤ j := by
  obtain ⟨w1, hw1⟩ : ∃ w1, w1 = X.alloc (.cells #[.func (.func 37) #[] #[.pointer (some ⟨m, 0, none⟩)]] 59) := ⟨_, rfl⟩
  have hbx : w1.heap[X.heap.size]? = some (.cells [.func (.func 37) #[] #[.pointer (some ⟨m, 0, none⟩)]].toArray 59 (0, 0)) := by rw [hw1]; exact heap_alloc_new X _
  have hA1 : Below X.heap.size X w1 := by rw [hw1]; exact (Below.refl _ X).alloc (Nat.le_refl _) _
  have hs1 : w1.heap.size = X.heap.size + 1 := by rw [hw1, World.size_alloc]
  have hE : Hid (∀ t', Calls Tryd.prog 40 #[.slice none 0 0, .pointer p, .pointer (some ⟨X.heap.size, 0, none⟩), .pointer (some ⟨w1.heap.size, 0, none⟩)] (w1.alloc (.cells #[eachF X.heap.size w1.heap.size] t')) fun e X' => e = .returned (.tuple #[]) ∧ ∃ F', S F' (tv tell t []) X' ∧ Mod F X X' ∧ ∀ j, F' j → F j ∨ X.heap.size ≤ j) := fun t' => by
    have hA2 : Below w1.heap.size w1 (w1.alloc (.cells #[eachF X.heap.size w1.heap.size] t')) := (Below.refl _ w1).alloc (Nat.le_refl _) _
    have hA : Below X.heap.size X (w1.alloc (.cells #[eachF X.heap.size w1.heap.size] t')) := hA1.trans (hA2.mono hA1.size)
    have hF : ∀ b, X.heap.size ≤ b → ¬ F b := fun b h q => by have := hS.high F [] X hs b q; omega
    rcases hT with ⟨rfl, e⟩ | ⟨hn, hT⟩
    · obtain rfl : p = none := by simpa using e
      refine (each1_nil _ _ _).mono ?_
      rintro e w' ⟨rfl, rfl⟩
      exact ⟨rfl, F, hS.keep F [] X _ hs fun j hj => hA.block j (hS.high F [] X hs j hj), Mod.of_below hA, fun j hj => Or.inl hj⟩
    · have hEA : EaS S w X.heap.size w1.heap.size (.func (.func 37) #[] #[.pointer (some ⟨m, 0, none⟩)]) (eachF X.heap.size w1.heap.size) (.slice none 0 0) [] none 0 F [] (w1.alloc (.cells #[eachF X.heap.size w1.heap.size] t')) := by
        refine ⟨hb.trans (hA.mono hb.size), WayAt.nil _, fun g e => (by cases e), hS.keep F [] X _ hs fun j hj => hA.block j (hS.high F [] X hs j hj), fun g e => (by cases e), ?_, ?_, ⟨hF _ (Nat.le_refl _), by simp⟩, ⟨hF _ (by omega), by simp⟩⟩
        · rw [cell_of_blk ((hA2.block _ (Array.getElem?_eq_some_iff.1 hbx).1).trans hbx)]; rfl
        · rw [cell_of_blk (c := [eachF X.heap.size w1.heap.size]) (t := t') (heap_alloc_new w1 _)]; rfl
      refine (eachAnyG_pt hS hf (tdep t) t (Nat.le_refl _) hQ hT hn hO hEA (by simp) (by simpa using hway) (by simpa using htot)).mono ?_
      rintro e X' ⟨rfl, F', q, q1, q2⟩
      have q3 := q.st
      simp only [List.nil_append] at q3
      refine ⟨rfl, F', q3, (Mod.of_below hA).then q1 fun i _ r => ?_, fun j hj => ?_⟩
      · rcases r with r | r
        · cases r
        · exact r
      · rcases q2 j hj with r | r
        · exact Or.inl r
        · exact Or.inr (Nat.le_trans hA.size r)
  unfold eachF at hE
  generalize tv tell t [] = T at *
  clear hQ hb hT hO hbx hA1 hs1 hway htot hs hS hf
  go_enter Tryd.func20, Tryd.ntmps20
  go_upto_region 1 with fail
  rw [← hw1]
  clear hw1
  go_wp2_with (go_at_call 40; refine (hE.out _).mono ?_; rintro e w' ⟨rfl, q⟩; have q := Lib.hid q)
  go_end0
  exact ⟨rfl, q.out⟩
end Go.Proofs.YtgijnjdcpipfiaaDoor
/- canon.Fine. -/
namespace Go.Proofs.YtgijnjdcpipfiaaDoor
open Go.RowKit
/-- what Fine is told: whether a node is fine -/
def fnT (key : List Nat) (val : Int) (has leaf : Bool) (m : Nat) : List Bool := [!((!leaf && decide ((if has then m + 1 else m) < 2)) || (has && decide (65535 < key.length)))]
/-- whether a tree is fine -/
def fineB (t : Tr) : Bool := (tv fnT t []).all id
def SFin (lo m : Nat) (F : Nat → Prop) (L : List Bool) (w : World) : Prop := w.heap[m]? = some (.cells [.bool (L.all id)].toArray 4 (0, 0)) ∧ (F = fun j => j = m) ∧ lo ≤ m
theorem sfn_cb (lo m : Nat) : CbT (SFin lo m) lo := by
  refine ⟨fun F L w w' ⟨h1, h2, h3⟩ hk => ⟨(hk m (by rw [h2])).trans h1, h2, h3⟩, fun F L w ⟨h1, h2, h3⟩ j hj => ?_, fun F L w ⟨h1, h2, h3⟩ j hj => ?_⟩
  · subst h2; have hj : j = m := hj; rw [hj]; exact h3
  · subst h2; have hj : j = m := hj; rw [hj]; exact (Array.getElem?_eq_some_iff.1 h1).1
set_option maxHeartbeats 1000000 in
theorem fine_cbt (w : World) (m : Nat) : CbTell fnT (SFin w.heap.size m) w (24) m := fun F L X n bs val has leaf mm kk a nn c key ⟨h1, h2, h3⟩ hN hK hn hv0 hv1 hmm hb hL => by
  have hV := Lib.hid (hN.val X (Below.refl _ _))
  have hKd := Lib.hid (hN.kind X (Below.refl _ _))
  have hOc := Lib.hid (hN.occ X (Below.refl _ _))
  have hf := frozen_of_blk h1 0
  have hcell : X.cell? ⟨m, 0, none⟩ = some (.bool (L.all id)) := by rw [cell_of_blk h1]; rfl
  have hMy := Lib.hid (keys_may (w := X) (a := a) (n := nn) (c := c))
  have hE : Hid (∃ F', SFin w.heap.size m F' (L ++ [false]) (X.setCell ⟨m, 0, none⟩ (.bool false)) ∧ Mod F X (X.setCell ⟨m, 0, none⟩ (.bool false)) ∧ ∀ j, F' j → F j ∨ X.heap.size ≤ j) := by
    refine ⟨F, ⟨?_, h2, h3⟩, (Mod.refl _ X).setCell ⟨m, 0, none⟩ _ (fun _ => by rw [h2]), fun j hj => Or.inl hj⟩
    rw [setCell_list _ _ _ _ _ _ h1, setRow_heap _ _ _ _ _ _ h1]
    simp
  have hE0 : Hid (∃ F', SFin w.heap.size m F' (L ++ [true]) X ∧ Mod F X X ∧ ∀ j, F' j → F j ∨ X.heap.size ≤ j) := ⟨F, ⟨by rw [h1]; simp, h2, h3⟩, Mod.refl _ _, fun j hj => Or.inl hj⟩
  have hkl := hK.len
  obtain ⟨o, ho⟩ : ∃ o, o = if has then mm + 1 else mm := ⟨_, rfl⟩
  rw [← ho] at hOc
  have htell : fnT key val has leaf mm = [!((!leaf && decide (o < 2)) || (has && decide (65535 < nn)))] := by rw [ho, ← hkl]; rfl
  rw [htell]
  have hkd := kindOf_cases mm
  obtain ⟨kd, hkde⟩ : ∃ kd, kd = kindOf mm := ⟨_, rfl⟩
  rw [← hkde] at hKd hkd
  generalize L.all id = V at *
  clear htell ho hkl h1 h2 h3 hN hK hb hkde
  cases leaf with
  | true =>
    cases has with
    | false =>
      have e : (!((!true && decide (o < 2)) || (false && decide (65535 < nn)))) = true := rfl
      rw [e]
      clear e hkd
      go_enter Tryd.func24, Tryd.ntmps24
      go_wp2_with (first
        | (go_at_call 22; refine hV.out.mono ?_; rintro e w' ⟨rfl, rfl⟩)
        | (go_at_call 25; refine hKd.out.mono ?_; rintro e w' ⟨rfl, rfl⟩))
      go_end0
      exact ⟨rfl, hE0.out⟩
    | true =>
      by_cases hl : 65535 < nn
      · have e : (!((!true && decide (o < 2)) || (true && decide (65535 < nn)))) = false := by simp [hl]
        rw [e]
        have hMy2 : Hid (Calls Tryd.prog 27 #[.slice a nn c] X fun e w' => e = .returned (.int .i64 8) ∧ X = w') := by have := hMy.out; rw [if_pos hl] at this; exact this
        clear e hkd hMy hl
        go_enter Tryd.func24, Tryd.ntmps24
        go_wp2_with (first
          | (go_at_call 22; refine hV.out.mono ?_; rintro e w' ⟨rfl, rfl⟩)
          | (go_at_call 25; refine hKd.out.mono ?_; rintro e w' ⟨rfl, rfl⟩)
          | (go_at_call 27; refine hMy2.out.mono ?_; rintro e w' ⟨rfl, rfl⟩))
        go_end0
        exact ⟨rfl, hE.out⟩
      · have e : (!((!true && decide (o < 2)) || (true && decide (65535 < nn)))) = true := by simp [hl]
        rw [e]
        have hMy2 : Hid (Calls Tryd.prog 27 #[.slice a nn c] X fun e w' => e = .returned (.int .i64 0) ∧ X = w') := by have := hMy.out; rw [if_neg hl] at this; exact this
        clear e hkd hMy hl
        go_enter Tryd.func24, Tryd.ntmps24
        go_wp2_with (first
          | (go_at_call 22; refine hV.out.mono ?_; rintro e w' ⟨rfl, rfl⟩)
          | (go_at_call 25; refine hKd.out.mono ?_; rintro e w' ⟨rfl, rfl⟩)
          | (go_at_call 27; refine hMy2.out.mono ?_; rintro e w' ⟨rfl, rfl⟩))
        go_end0
        exact ⟨rfl, hE0.out⟩
  | false =>
    have hk1 : ((kd : Int) == 1) = false := by rw [beq_eq_false_iff_ne]; omega
    have hk1' : ((kd : Int) != 1) = true := by rw [bne_iff_ne]; omega
    have hKd2 : Hid (Calls Tryd.prog 25 #[.pointer (some ⟨n, 0, none⟩)] X fun e w' => e = .returned (.int .i64 (kd : Nat)) ∧ X = w') := hKd
    clear hKd hkd
    by_cases ho : o < 2
    · have e : (!((!false && decide (o < 2)) || (has && decide (65535 < nn)))) = false := by simp [ho]
      rw [e]
      have j1 : (o : Int) < 2 := by omega
      clear e ho hMy
      go_enter Tryd.func24, Tryd.ntmps24
      go_wp2_with (first
        | (go_at_call 22; refine hV.out.mono ?_; rintro e w' ⟨rfl, rfl⟩)
        | (go_at_call 25; refine hKd2.out.mono ?_; rintro e w' ⟨rfl, rfl⟩)
        | (go_at_call 26; refine hOc.out.mono ?_; rintro e w' ⟨rfl, rfl⟩))
      go_end0
      exact ⟨rfl, hE.out⟩
    · have j1 : ¬ (o : Int) < 2 := by omega
      cases has with
      | false =>
        have e : (!((!false && decide (o < 2)) || (false && decide (65535 < nn)))) = true := by simp [ho]
        rw [e]
        clear e ho hMy
        go_enter Tryd.func24, Tryd.ntmps24
        go_wp2_with (first
          | (go_at_call 22; refine hV.out.mono ?_; rintro e w' ⟨rfl, rfl⟩)
          | (go_at_call 25; refine hKd2.out.mono ?_; rintro e w' ⟨rfl, rfl⟩)
          | (go_at_call 26; refine hOc.out.mono ?_; rintro e w' ⟨rfl, rfl⟩))
        go_end0
        exact ⟨rfl, hE0.out⟩
      | true =>
        by_cases hl : 65535 < nn
        · have e : (!((!false && decide (o < 2)) || (true && decide (65535 < nn)))) = false := by simp [hl]
          rw [e]
          have hMy2 : Hid (Calls Tryd.prog 27 #[.slice a nn c] X fun e w' => e = .returned (.int .i64 8) ∧ X = w') := by have := hMy.out; rw [if_pos hl] at this; exact this
          clear e ho hMy hl
          go_enter Tryd.func24, Tryd.ntmps24
          go_wp2_with (first
            | (go_at_call 22; refine hV.out.mono ?_; rintro e w' ⟨rfl, rfl⟩)
            | (go_at_call 25; refine hKd2.out.mono ?_; rintro e w' ⟨rfl, rfl⟩)
            | (go_at_call 26; refine hOc.out.mono ?_; rintro e w' ⟨rfl, rfl⟩)
            | (go_at_call 27; refine hMy2.out.mono ?_; rintro e w' ⟨rfl, rfl⟩))
          go_end0
          exact ⟨rfl, hE.out⟩
        · have e : (!((!false && decide (o < 2)) || (true && decide (65535 < nn)))) = true := by simp [hl, ho]
          rw [e]
          have hMy2 : Hid (Calls Tryd.prog 27 #[.slice a nn c] X fun e w' => e = .returned (.int .i64 0) ∧ X = w') := by have := hMy.out; rw [if_neg hl] at this; exact this
          clear e ho hMy hl
          go_enter Tryd.func24, Tryd.ntmps24
          go_wp2_with (first
            | (go_at_call 22; refine hV.out.mono ?_; rintro e w' ⟨rfl, rfl⟩)
            | (go_at_call 25; refine hKd2.out.mono ?_; rintro e w' ⟨rfl, rfl⟩)
            | (go_at_call 26; refine hOc.out.mono ?_; rintro e w' ⟨rfl, rfl⟩)
            | (go_at_call 27; refine hMy2.out.mono ?_; rintro e w' ⟨rfl, rfl⟩))
          go_end0
          exact ⟨rfl, hE0.out⟩
set_option maxHeartbeats 1000000 in
theorem fine_any {w0 w : World} {Q : List NP} {t : Tr} {p : Option Addr} (hQ : StoreP NoB w0 w Q) (hT : TreeV Q t (.pointer p)) (hO : TOk t) (hway : tway t ≤ 900000) (htot : (tv fnT t []).length ≤ 2000) : Calls Tryd.prog 9 #[.pointer p] w (belowPost (.bool (fineB t)) w) := by
  have hA : Below w.heap.size w (w.alloc (.cells #[.bool true] 4)) := (Below.refl _ w).alloc (Nat.le_refl _) _
  have hE := Lib.hid (eachTopG_fn (sfn_cb w.heap.size w.heap.size) (fine_cbt w w.heap.size) hQ hT hO hA (F := fun j => j = w.heap.size) ⟨heap_alloc_new w _, rfl, Nat.le_refl _⟩ hway htot)
  have HA := Lib.hid hA
  unfold fineB
  generalize tv fnT t [] = T at *
  clear hQ hT hO hA
  go_enter Tryd.func9, Tryd.ntmps9
  go_wp2_with (go_at_call 20; refine hE.out.mono ?_; rintro e w2 ⟨rfl, F2, ⟨z1, z2, z3⟩, m2, _⟩
               have c2 : w2.cell? ⟨w.heap.size, 0, none⟩ = some (.bool (T.all id)) := (by rw [cell_of_blk z1]; rfl)
               have B2 := Lib.hid (HA.out.trans (m2.belowLo (fun j hj => (by have hj : j = w.heap.size := hj; rw [hj]; exact Nat.le_refl _)) HA.out.size))
               clear z1 z2 z3 m2)
  go_ret
  exact ⟨rfl, B2.out⟩
end Go.Proofs.YtgijnjdcpipfiaaDoor
/- canon.Points. -/
namespace Go.Proofs.YtgijnjdcpipfiaaDoor
open Go.RowKit
abbrev cpT : TypeId := 77
/-- a point's kind, and whether it has a value, as one number -/
def pcode (kd : Nat) (hb : Bool) : Int := ((2 * kd + (if hb then 1 else 0) : Nat) : Int)
theorem pcode_ok {kd : Nat} {hb : Bool} (h : kd ≤ 256) : 0 ≤ pcode kd hb ∧ pcode kd hb < 18446744073709551616 := by unfold pcode; cases hb <;> simp <;> omega
/-- what Points is told -/
def ptT (key : List Nat) (val : Int) (has leaf : Bool) (m : Nat) : PL := if leaf then [] else [(key, pcode (kindOf m) has)]
def flatP (es : EL) : List Value := es.flatMap fun e => [e.1, .int .i64 (e.2 / 2), .bool (decide (e.2 % 2 = 1))]
theorem flatP_snoc (es : EL) (v : Value) (kd : Nat) (hb : Bool) : flatP (es ++ [(v, pcode kd hb)]) = flatP es ++ [v, .int .i64 (kd : Nat), .bool hb] := by
  have h1 : pcode kd hb / 2 = (kd : Nat) := by unfold pcode; cases hb <;> simp <;> omega
  have h2 : decide (pcode kd hb % 2 = 1) = hb := by
    unfold pcode
    cases hb
    · simp only [Bool.false_eq_true, if_false, decide_eq_false_iff_not]; omega
    · simp only [if_true, decide_eq_true_eq]; omega
  simp only [flatP, List.flatMap_append, List.flatMap_cons, List.flatMap_nil, List.append_nil, h1, h2]
theorem flatP_len (es : EL) : (flatP es).length = es.length * 3 := by
  induction es with
  | nil => rfl
  | cons e es ih => simp only [flatP, List.flatMap_cons, List.length_append] at ih ⊢; rw [ih]; simp; omega
theorem flatP_get (es : EL) (i : Nat) (h : i < es.length) : (flatP es)[i * 3]? = some (es[i]).1 ∧ (flatP es)[i * 3 + 1]? = some (.int .i64 ((es[i]).2 / 2)) ∧ (flatP es)[i * 3 + 2]? = some (.bool (decide ((es[i]).2 % 2 = 1))) := by
  induction es generalizing i with
  | nil => simp at h
  | cons e es ih =>
    cases i with
    | zero => exact ⟨rfl, rfl, rfl⟩
    | succ i =>
      have := ih i (by simpa using h)
      have e1 : (i + 1) * 3 = 3 + i * 3 := by omega
      have hd : ∀ q, (flatP (e :: es))[3 + q]? = (flatP es)[q]? := fun q => by
        have : flatP (e :: es) = [e.1, .int .i64 (e.2 / 2), .bool (decide (e.2 % 2 = 1))] ++ flatP es := rfl
        rw [this, List.getElem?_append_right (by simp)]
        simp
      rw [e1, hd, show 3 + i * 3 + 1 = 3 + (i * 3 + 1) by omega, hd, show 3 + i * 3 + 2 = 3 + (i * 3 + 2) by omega, hd]
      exact this
theorem cpInfo : (Tryd.prog.info? cpT).map (fun i => (i.zero, i.size, i.bytes)) = some (some (.agg #[.slice none 0 0, .int .i64 0, .bool false]), 3, 40) := by kernel_rfl
theorem point_news (w : World) (x : Value) (k : Nat) (hb : Bool) (t : TypeId) : ∀ j u, ([x, .int .i64 (k : Nat), .bool hb] : List Value)[j]? = some u → (w.alloc (.cells #[x, .int .i64 (k : Nat), .bool hb] t)).cell? ((⟨w.heap.size, 0, none⟩ : Addr).add j) = some u := fun j u h => by
  have hb : (w.alloc (.cells #[x, .int .i64 (k : Nat), .bool hb] t)).heap[w.heap.size]? = some (.cells [x, .int .i64 (k : Nat), .bool hb].toArray t (0, 0)) := heap_alloc_new w _
  rw [add0, cell_of_blk hb]
  exact h
theorem oneP3 {a : Option Addr} {n c k : Nat} {hb : Bool} : ∀ u ∈ ([.slice a n c, .int .i64 (k : Nat), .bool hb] : List Value), u.oneCell' = true := by
  intro u hu
  simp only [List.mem_cons, List.not_mem_nil, or_false] at hu
  rcases hu with rfl | rfl | rfl <;> rfl
/-! Points. -/
/-- what Points' callback holds -/
structure SPs (lo bl : Nat) (F : Nat → Prop) (L : PL) (w : World) (v : Value) (es : EL) (bo : Option Nat) : Prop where
  var : w.heap[bl]? = some (.cells [v].toArray 47 (0, 0))
  own : OwnS 3 cpT w v L.length (flatP es) bo
  ents : Ents w es L
  fl : F bl
  fo : ∀ g, bo = some g → F g ∧ g ≠ bl
  fe : ∀ i (h : i < es.length) (p : Addr) n c, (es[i]).1 = .slice (some p) n c → F p.block ∧ p.block ≠ bl ∧ bo ≠ some p.block
  low : ∀ j, F j → lo ≤ j
  high : ∀ j, F j → j < w.heap.size
def SPst (lo bl : Nat) (F : Nat → Prop) (L : PL) (w : World) : Prop := ∃ v es bo, SPs lo bl F L w v es bo
theorem sps_cb (lo bl : Nat) : CbT (SPst lo bl) lo := by
  refine ⟨fun F L w w' ⟨v, es, bo, h⟩ hk => ?_, fun F L w ⟨v, es, bo, h⟩ j hj => h.low j hj, fun F L w ⟨v, es, bo, h⟩ j hj => h.high j hj⟩
  refine ⟨v, es, bo, (hk bl h.fl).trans h.var, h.own.keep fun g e => hk g (h.fo g e).1, ⟨h.ents.1, fun i h1 h2 => ?_⟩, h.fl, h.fo, h.fe, h.low, fun j hj => ?_⟩
  · obtain ⟨⟨a, n, c, e, q⟩, r⟩ := h.ents.2 i h1 h2
    refine ⟨⟨a, n, c, e, q.len, ⟨q.at_.1, fun j hj => ?_⟩, q.cap, q.capm, q.nil⟩, r⟩
    obtain ⟨p, ep, z1, z2⟩ := q.at_.2 j hj
    subst ep
    have hF := (h.fe i h1 p n c e).1
    have e1 := hk p.block hF
    refine ⟨p, rfl, ?_, ?_⟩
    · rw [add_block] at z1 ⊢
      have : w'.heap[p.block]? = some _ := e1.trans (Array.getElem?_eq_getElem z1)
      exact (Array.getElem?_eq_some_iff.1 this).1
    · rw [← z2]
      unfold World.cell?
      rw [add_block, e1]
  · have e1 := hk j hj
    have : w'.heap[j]? = some _ := e1.trans (Array.getElem?_eq_getElem (h.high j hj))
    exact (Array.getElem?_eq_some_iff.1 this).1
/-- one more -/
theorem SPs.step {lo bl : Nat} {F : Nat → Prop} {L : PL} {w wc w1 w2 w3 : World} {v v2 : Value} {es : EL} {bo bo2 : Option Nat} (h : SPs lo bl F L w v es bo) (hlo : lo ≤ w.heap.size) {x : List Nat} {kd : Nat} {hb : Bool} {a6 : Option Addr} {n6 c6 : Nat}
    (hb1 : Below w.heap.size w wc) (hs : Sl wc a6 n6 c6 x) (hn : ∀ p : Addr, a6 = some p → w.heap.size ≤ p.block ∧ p.block < wc.heap.size) (hkd : kd ≤ 256) (hb2 : Below wc.heap.size wc w1)
    (ho : OwnS 3 cpT w2 v2 (L.length + 1) (flatP es ++ [.slice a6 n6 c6, .int .i64 (kd : Nat), .bool hb]) bo2) (hm : Mod (fun j => bo = some j) w1 w2) (hn2 : NewOr w1 bo bo2) (h3 : w3 = w2.setCell ⟨bl, 0, none⟩ v2) :
    ∃ F', SPst lo bl F' (L ++ [(x, pcode kd hb)]) w3 ∧ Mod F w w3 ∧ ∀ j, F' j → F j ∨ w.heap.size ≤ j := by
  have s1 := hb1.size
  have s2 := hb2.size
  have s3 := hm.size
  have hbl := h.high bl h.fl
  have hB : Below w.heap.size w w1 := hb1.trans (hb2.mono s1)
  have hv : w2.heap[bl]? = some (.cells [v].toArray 47 (0, 0)) := (hm.same bl (by omega) (fun e => (h.fo bl e).2 rfl)).trans ((hB.block bl hbl).trans h.var)
  have hM2 : Mod F w w2 := (Mod.of_below hB).trans (hm.mono fun j _ e => (h.fo j e).1)
  have hM3 : Mod F w w3 := by rw [h3]; exact hM2.setCell ⟨bl, 0, none⟩ _ (fun _ => h.fl)
  have s4 : w3.heap.size = w2.heap.size := by rw [h3]; simp [World.setCell]
  have hbo2 : ∀ g, bo2 = some g → (F g ∨ w.heap.size ≤ g) ∧ g ≠ bl ∧ g < w2.heap.size := fun g e => by
    subst e
    refine ⟨?_, ?_, ho.lt⟩
    · rcases hn2 with e | ⟨g', e, hg⟩
      · exact Or.inl (h.fo g e.symm).1
      · cases e; exact Or.inr (by omega)
    · rcases hn2 with e | ⟨g', e, hg⟩
      · exact (h.fo g e.symm).2
      · cases e; omega
  have hneq : ∀ p : Addr, a6 = some p → bo2 ≠ some p.block := fun p e e2 => by
    have h1 := hn p e
    rcases hn2 with e3 | ⟨g', e3, hg⟩
    · rw [e3] at e2
      have := h.high _ (h.fo _ e2).1
      omega
    · rw [e3] at e2
      cases e2
      omega
  have hold : ∀ i (hi : i < es.length) (p : Addr) n c, (es[i]).1 = .slice (some p) n c → bo2 ≠ some p.block := fun i hi p n c e e2 => by
    have h1 := h.fe i hi p n c e
    rcases hn2 with e3 | ⟨g', e3, hg⟩
    · exact h1.2.2 (e3 ▸ e2)
    · rw [e3] at e2
      cases e2
      have := h.high _ h1.1
      omega
  refine ⟨fun j => F j ∨ (w.heap.size ≤ j ∧ j < w3.heap.size), ⟨v2, es ++ [(.slice a6 n6 c6, pcode kd hb)], bo2, ?_, ?_, ?_, Or.inl h.fl, ?_, ?_, ?_, ?_⟩, hM3, fun j hj => by rcases hj with e | e; exact Or.inl e; exact Or.inr e.1⟩
  · rw [h3, setCell_list _ _ _ _ _ _ hv, setRow_heap _ _ _ _ _ _ hv]; rfl
  · rw [flatP_snoc, List.length_append]
    rw [h3]
    refine OwnS.keep ho fun g e => Below.heap_setCell _ _ _ _ (hbo2 g e).2.1
  · have hm3 : Mod (fun j => bo = some j ∨ j = bl) w1 w3 := by rw [h3]; exact (hm.mono (fun j _ e => Or.inl e)).setCell ⟨bl, 0, none⟩ _ (fun _ => Or.inr rfl)
    have hE : Ents w3 es L := ents_keep (h.ents.below hB) hm3 (fun i hi p n c e t => by
      have q := h.fe i hi p n c e
      rcases t with t | t
      · exact q.2.2 t
      · exact q.2.1 t)
    have hs1 := hs.below hb2
    refine hE.snoc ⟨⟨_, _, _, rfl, hs1.len, bytes_keep hs1.at_ hm3 (fun p e t => ?_), hs1.cap, hs1.capm, hs1.nil⟩, rfl, pcode_ok hkd⟩
    have q := hn p e
    rcases t with t | t
    · have := h.high _ (h.fo _ t).1; omega
    · omega
  · intro g e
    have q := hbo2 g e
    exact ⟨by rcases q.1 with r | r; exact Or.inl r; exact Or.inr ⟨r, by omega⟩, q.2.1⟩
  · intro i hi p n c e
    by_cases hi2 : i < es.length
    · rw [List.getElem_append_left hi2] at e
      have q := h.fe i hi2 p n c e
      exact ⟨Or.inl q.1, q.2.1, hold i hi2 p n c e⟩
    · have ei : i = es.length := by simp at hi; omega
      subst ei
      have e' : (Value.slice a6 n6 c6) = .slice (some p) n c := by simpa using e
      injection e' with e'
      have q := hn p e'
      exact ⟨Or.inr ⟨q.1, by omega⟩, by omega, hneq p e'⟩
  · intro j hj
    rcases hj with e | e
    · exact h.low j e
    · omega
  · intro j hj
    rcases hj with e | e
    · have := h.high j e; omega
    · exact e.2
set_option maxHeartbeats 4000000 in
set_option maxRecDepth 100000 in
theorem pts_cbt (wN : World) (bl : Nat) : CbTell ptT (SPst wN.heap.size bl) wN (37) bl := fun F L w n bs y has leaf mm kk ka kn kc x ⟨v, es, bo, h⟩ hN hK hkn hy hy2 hmm hb hL => by
  have hV := Lib.hid (hN.val w (Below.refl _ _))
  have hKd := Lib.hid hN.kind
  have hE0 : Hid (∃ F', SPst wN.heap.size bl F' L w ∧ Mod F w w ∧ ∀ j, F' j → F j ∨ w.heap.size ≤ j) := ⟨F, ⟨v, es, bo, h⟩, Mod.refl _ _, fun j hj => Or.inl hj⟩
  obtain ⟨va, vc, hv, _⟩ := h.own.len
  subst hv
  have c1 : w.cell? ⟨bl, 0, none⟩ = some (.slice va L.length vc) := by rw [cell_of_blk h.var]; rfl
  have f1 := frozen_of_blk h.var 0
  have hcl : Hid (Calls Tryd.prog 23 #[.slice ka kn kc] w.drew fun e w' => ∃ a6 c6, e = .returned (.slice a6 kn c6) ∧ Sl w' a6 kn c6 x ∧ Below w.heap.size w w' ∧ ∀ p : Addr, a6 = some p → w.heap.size ≤ p.block ∧ p.block < w'.heap.size) :=
    (clone_new (hK.below (Below.refl _ _).drew) (by omega)).mono fun e w' ⟨a6, c6, e1, e2, e3, e4⟩ => ⟨a6, c6, e1, e2, (Below.refl _ w).drew.trans e3, e4⟩
  have H := Lib.hid h
  have hvar := Lib.hid h.var
  have hbl := Lib.hid (h.high bl h.fl)
  have hlo := Lib.hid hb.size
  have hb1 : Hid (L.length + 1 ≤ maxLen) := by show _ ≤ _; unfold maxLen; omega
  have hb2 : Hid ((L.length + 1) * 40 ≤ 140737488355328) := by show _ ≤ _; omega
  have hfo : Hid (∀ g, bo = some g → g ≠ bl) := fun g e => (h.fo g e).2
  obtain ⟨kd, ekd⟩ : ∃ kd, kd = kindOf mm := ⟨_, rfl⟩
  have hkd : kd ≤ 256 := by rw [ekd]; have := kindOf_cases mm; omega
  have hkd1 : kd ≠ 1 := by rw [ekd]; have := kindOf_cases mm; omega
  clear h hb hK hN
  cases leaf with
  | true =>
    have e : L ++ ptT x y has true mm = L := by simp [ptT]
    rw [e]
    clear e
    go_enter Tryd.func37, Tryd.ntmps37
    go_wp2_with (go_at_call 25; refine (hKd.out w (Below.refl _ _)).mono ?_; rintro e w' ⟨rfl, rfl⟩)
    go_end0
    exact ⟨rfl, hE0.out⟩
  | false =>
  clear hE0
  have e : ptT x y has false mm = [(x, pcode kd has)] := by rw [ekd]; rfl
  rw [e]
  have hkc : ((kd : Int) == 1) = false := by rw [beq_eq_false_iff_ne]; omega
  have hKk : Hid (∀ X, Below w.heap.size w X → Calls Tryd.prog 25 #[.pointer (some ⟨n, 0, none⟩)] X fun e w' => e = .returned (.int .i64 (kd : Nat)) ∧ X = w') := fun X hb => by rw [ekd]; exact hKd.out X hb
  clear hKd ekd hkd1 e
  go_enter Tryd.func37, Tryd.ntmps37
  go_wp2_with (first
    | (go_at_call 25; refine (hKk.out w (Below.refl _ _)).mono ?_; rintro e w' ⟨rfl, rfl⟩)
    | (go_at_call 22; refine hV.out.mono ?_; rintro e w' ⟨rfl, rfl⟩))
  go_region_law (first
    | (refine step_append_s rfl (.tmp 15) (.tmp 22) 47 rfl cpT _ 3 40 Tryd.underlying47 cpInfo rfl (by omega) (.slice va L.length vc) rfl L.length (flatP es) bo (ho1.out _) ⟨w1.heap.size, 0, none⟩ 1 1 [.slice a6 kn c6, .int .i64 (kd : Nat), .bool has] rfl rfl (hnw.out) (h1.out) hb1.out hb2.out ?_; intro v2 w2 bo2 HO HM HN; obtain ⟨a2, c2, hv2, _⟩ := HO.out.len; subst hv2; have hh := Lib.hid ((HM.out.same bl (by rw [World.size_alloc]; have := hbl.out; have := B1.out.size; omega) (fun e => hfo.out bl e rfl)).trans ((Below.heap_alloc _ _ _ (by have := hbl.out; have := B1.out.size; omega)).trans hv1.out)); have z1 : w2.cell? ⟨bl, 0, none⟩ = some (.slice va L.length vc) := by rw [cell_of_blk hh.out]; rfl
       have z2 := frozen_of_blk hh.out 0)
    | (go_simp; go_at_call 25; have g0 := B1; refine (hKk.out w1 B1.out).mono ?_; rintro e wk ⟨rfl, rfl⟩)
    | (go_simp; go_at_call 23; refine hcl.out.mono ?_; rintro e w1 ⟨a6, c6, rfl, s6, b6, n6⟩; have S6 := Lib.hid s6; have B1 := Lib.hid b6; have N6 := Lib.hid n6; have hv1 := Lib.hid ((b6.block bl hbl.out).trans hvar.out); have d1 : w1.cell? ⟨bl, 0, none⟩ = some (.slice va L.length vc) := by rw [cell_of_blk hv1.out]; rfl
       have ho1 : Hid (∀ o, OwnS 3 cpT (w1.alloc o) (.slice va L.length vc) L.length (flatP es) bo) := fun o => (H.out.own.below b6).below ((Below.refl _ w1).alloc (Nat.le_refl _) o)
       have d2 : ∀ o, (w1.alloc o).cell? ⟨bl, 0, none⟩ = some (.slice va L.length vc) := fun o => (((Below.refl _ w1).alloc (Nat.le_refl _) o).cell (p := ⟨bl, 0, none⟩) (cell_lt d1)).trans d1
       have hnw := Lib.hid (point_news w1 (.slice a6 kn c6) kd has cpT)
       have h1 := Lib.hid (oneP3 (a := a6) (n := kn) (c := c6) (k := kd) (hb := has))
       clear s6 b6 n6))
  all_goals
    have hst := Lib.hid (H.out.step hlo.out B1.out S6.out N6.out hkd ((Below.refl _ w1).alloc (Nat.le_refl _) _) HO.out HM.out HN.out rfl)
    (try simp only [Exit.then, Exit.inBlock])
    go_end0
    exact ⟨rfl, hst.out⟩
/-- points in memory -/
def PtsAt (w : World) (a : Option Addr) (n c : Nat) (l : PL) : Prop := ∃ (es : EL) (bo : Option Nat), OwnS 3 cpT w (.slice a n c) n (flatP es) bo ∧ Ents w es l ∧ l.length = n
def ptsPost (l : PL) (w : World) (e : Ending) (w' : World) : Prop := ∃ a c, e = .returned (.slice a l.length c) ∧ PtsAt w' a l.length c l ∧ Below w.heap.size w w'
theorem pts_of_own {w : World} {v : Value} {es : EL} {bo : Option Nat} {l : PL} (h : OwnS 3 cpT w v l.length (flatP es) bo) (he : Ents w es l) : ∃ a c, v = .slice a l.length c ∧ PtsAt w a l.length c l := by
  obtain ⟨a, c, rfl, _⟩ := h.len
  exact ⟨a, c, rfl, es, bo, h, he, rfl⟩
set_option maxHeartbeats 1000000 in
theorem pts_any {w0 w : World} {Q : List NP} {t : Tr} {p : Option Addr} (hQ : StoreP NoB w0 w Q) (hT : TreeV Q t (.pointer p)) (hO : TOk t) (hway : tway t ≤ 900000) (htot : (tv ptT t []).length ≤ 2000) : Calls Tryd.prog 17 #[.pointer p] w (ptsPost (tv ptT t []) w) := by
  obtain ⟨w4, hw4⟩ : ∃ w4, w4 = w.alloc (.cells #[.slice none 0 0] 47) := ⟨_, rfl⟩
  have hb4 : Below w.heap.size w w4 := by rw [hw4]; exact (Below.refl _ w).alloc (Nat.le_refl _) _
  have hv4 : w4.heap[w.heap.size]? = some (.cells [.slice none 0 0].toArray 47 (0, 0)) := by rw [hw4]; exact heap_alloc_new w _
  have hs4 : w4.heap.size = w.heap.size + 1 := by rw [hw4, World.size_alloc]
  have hS0 : SPst w.heap.size w.heap.size (fun j => j = w.heap.size) [] w4 :=
    ⟨_, [], none, hv4, OwnS.nil _ _ _, ents_nil _, rfl, (fun g e => by cases e), (fun i h => by simp at h), (fun j hj => by rw [hj]; exact Nat.le_refl _), (fun j hj => by rw [hj, hs4]; exact Nat.lt_succ_self _)⟩
  have hEa := Lib.hid (eachTopG_pt (sps_cb w.heap.size w.heap.size) (pts_cbt w w.heap.size) hQ hT hO hb4 hS0 hway htot)
  obtain ⟨T, hTe⟩ : ∃ T, T = tv ptT t [] := ⟨_, rfl⟩
  rw [← hTe] at hEa ⊢
  have HB4 := Lib.hid hb4
  have hfin : Hid (∀ F w5, Mod (fun j => j = w.heap.size) w4 w5 → SPst w.heap.size w.heap.size F T w5 → ∃ a c, w5.cell? ⟨w.heap.size, 0, none⟩ = some (.slice a T.length c) ∧ ptsPost T w (.returned (.slice a T.length c)) w5) := fun F w5 hm ⟨v, es, bo, h⟩ => by
    obtain ⟨a, c, rfl, hp⟩ := pts_of_own h.own h.ents
    refine ⟨a, c, by rw [cell_of_blk h.var]; rfl, a, c, rfl, hp, HB4.out.trans (hm.belowLo (fun j hj => ?_) HB4.out.size)⟩
    have hj : j = w.heap.size := hj
    rw [hj]; exact Nat.le_refl _
  clear hQ hT hO hTe hb4 hS0 hv4 hs4 hway htot
  go_enter Tryd.func17, Tryd.ntmps17
  go_upto_region 2 with fail
  rw [← hw4]
  clear hw4
  go_wp2_with (go_at_call 20; refine hEa.out.mono ?_; rintro e w5 ⟨rfl, F5, z2, z1, _⟩; obtain ⟨a5, c5, y1, y2⟩ := hfin.out F5 w5 z1 z2; have Y := Lib.hid y2; clear z1 z2 y2)
  go_ret
  exact Y.out
end Go.Proofs.YtgijnjdcpipfiaaDoor
/- alive of law 13. -/
namespace Go.Proofs.YtgijnjdcpipfiaaDoor
open Go.RowKit
theorem dec4 : decU 4 = [52] := Lib.decDigits_one (by omega)
theorem dec5 : decU 5 = [53] := Lib.decDigits_one (by omega)
theorem dec6 : decU 6 = [54] := Lib.decDigits_one (by omega)
theorem alT_shp : shpT alT = [52, 60, 48, 49, 61, 53, 58, 48, 50, 76, 61, 54, 62] := by
  have h : shpT alT = (decU 4 ++ [60]) ++ ([48, 49] ++ ((61 :: decU 5) ++ ((58 :: ([48, 50] ++ ([76] ++ ([] ++ ((61 :: decU 6) ++ [])) ++ []))) ++ [62]))) := rfl
  rw [h, dec4, dec5, dec6]; rfl
structure Al13 (w : World) (a : Addr) : Prop where
  shape : ∀ X, Below w.heap.size w X → Calls Tryd.prog 10 #[.pointer (some a)] X (belowPost (.string ⟨#[52, 60, 48, 49, 61, 53, 58, 48, 50, 76, 61, 54, 62]⟩) X)
  fine : ∀ X, Below w.heap.size w X → Calls Tryd.prog 9 #[.pointer (some a)] X (belowPost (.bool true) X)
  depth : ∀ X, Below w.heap.size w X → Calls Tryd.prog 15 #[.pointer (some a)] X (belowPost (.int .i64 2) X)
  count : ∀ X, Below w.heap.size w X → Calls Tryd.prog 16 #[.pointer (some a)] X (belowPost (.int .i64 2) X)
  list : ∀ X, Below w.heap.size w X → Calls Tryd.prog 8 #[.pointer (some a)] X fun e w' => ∃ b c, e = .returned (.slice b 2 c) ∧ Below X.heap.size X w'
  points : ∀ X, Below w.heap.size w X → Calls Tryd.prog 17 #[.pointer (some a)] X fun e w' => ∃ b c, e = .returned (.slice b 1 c) ∧ Below X.heap.size X w'
theorem al13_of {w0 w : World} {Q : List NP} {t : Tr} {v : Option Addr} (hP : PTab w) (hQ : StoreP NoB w0 w Q) (hT : TreeV Q t (.pointer v)) (hO : TOk t) (hC : Can t) (he : tl t = alL) : ∃ a, v = some a ∧ Al13 w a := by
  have hN : IsN t := hT.node (by rw [he]; simp [alL])
  obtain rfl : t = alT := can_eq hN trivial hO alT_ok hC alT_can (he.trans alT_l.symm)
  obtain ⟨a, rfl⟩ : ∃ a, v = some a := by
    rcases hT with ⟨h, _⟩ | ⟨_, hT⟩
    · cases h
    · obtain ⟨i, p, h0, h1, h2, _⟩ := hT
      exact ⟨_, by simpa using h2⟩
  refine ⟨a, rfl, fun X hb => ?_, fun X hb => ?_, fun X hb => ?_, fun X hb => ?_, fun X hb => ?_, fun X hb => ?_⟩
  · have := canon_shape (hP.below hb) (hQ.below hb) hT hO (by have h := alT_shp; show (shpT alT).length ≤ _; rw [h]; simp)
    rw [alT_shp] at this
    exact this
  · exact fine_any (hQ.below hb) hT hO (by simp [alT, tway]) (by simp [alT, tv, fnT])
  · exact depth_any 2 (by omega) alT (by simp [alT, tdep]) (hQ.below hb) hT hO
  · exact count_any (hQ.below hb) hT hO (by simp [alT, tway]) (by rw [alT_l]; simp [alL])
  · exact (list_any (hQ.below hb) hT hO (by simp [alT, tway]) (by rw [alT_l]; simp [alL])).mono fun e w' ⟨b, c, q1, q2, q3⟩ => ⟨b, c, q1, q3⟩
  · exact (pts_any (hQ.below hb) hT hO (by simp [alT, tway]) (by simp [alT, tv, ptT])).mono fun e w' ⟨b, c, q1, q2, q3⟩ => ⟨b, c, q1, q3⟩
set_option maxHeartbeats 2000000 in
set_option maxRecDepth 100000 in
theorem alive13 (w : World) (hP : PTab w) : Calls Tryd.prog 5 #[] w (belowPost (.bool true) w) := by
  obtain ⟨W3, hW3⟩ : ∃ W3, W3 = ((w.alloc (.cells #[.int .u8 1] 5)).alloc (.cells #[.int .u8 1, .int .u8 2] 5)).alloc (.cells #[.slice (some ⟨w.heap.size, 0, none⟩) 1 1, .int .u64 5, .slice (some ⟨w.heap.size + 1, 0, none⟩) 2 2, .int .u64 6] apT) := ⟨_, rfl⟩
  have hB0 : Hid (Below w.heap.size w W3) := by rw [hW3]; exact (((Below.refl _ w).alloc (Nat.le_refl _) _).alloc (by simp) _).alloc (by simp; omega) _
  have hBd : Hid (Calls Tryd.prog 7 #[.pointer none, .int .u64 1, .slice (some ⟨w.heap.size + 1 + 1, 0, none⟩) 2 2] W3 fun e w' => ∃ a, e = .returned (.tuple #[.pointer (some a), .int .i64 0]) ∧ Below W3.heap.size W3 w' ∧ Al13 w' a) := by
    have h := canon_build 1 (by omega) W3 (some ⟨w.heap.size + 1 + 1, 0, none⟩) 2 2 alL (by rw [hW3]; exact al_prs w 5 5 apT) al_srt (by intro x hx; simp [alL] at hx; rcases hx with rfl | rfl <;> simp)
    refine h.mono fun e w' ⟨t, v, Q, q1, q2, q3, q4, q5, q6⟩ => ?_
    obtain ⟨a, rfl, hA⟩ := al13_of ((hP.below hB0.out).below q2.below_) q2 q3 q4 q5 q6
    exact ⟨a, q1, q2.below_, hA⟩
  clear hP
  go_enter Tryd.func5, Tryd.ntmps5
  go_wp2_with (first
    | (have g0 := B6; go_at_call 17; refine (HA.out.points _ B6.out).mono ?_; rintro e w7 ⟨b7, c7, rfl, z⟩; have B7 := Lib.hid (B6.out.trans (z.mono B6.out.size)); clear z)
    | (have g0 := B5; go_at_call 8; refine (HA.out.list _ B5.out).mono ?_; rintro e w6 ⟨b6, c6, rfl, z⟩; have B6 := Lib.hid (B5.out.trans (z.mono B5.out.size)); clear z)
    | (have g0 := B4; go_at_call 16; refine (HA.out.count _ B4.out).mono ?_; rintro e w5 ⟨rfl, z⟩; have B5 := Lib.hid (B4.out.trans (z.mono B4.out.size)); clear z)
    | (have g0 := B3; go_at_call 15; refine (HA.out.depth _ B3.out).mono ?_; rintro e w4 ⟨rfl, z⟩; have B4 := Lib.hid (B3.out.trans (z.mono B3.out.size)); clear z)
    | (have g0 := B2; go_at_call 9; refine (HA.out.fine _ B2.out).mono ?_; rintro e w3 ⟨rfl, z⟩; have B3 := Lib.hid (B2.out.trans (z.mono B2.out.size)); clear z)
    | (have g0 := B1; go_at_call 10; refine (HA.out.shape _ B1.out).mono ?_; rintro e w2 ⟨rfl, z⟩; have B2 := Lib.hid (B1.out.trans (z.mono B1.out.size)); clear z)
    | (rw [← hW3]; clear hW3; go_at_call 7; refine hBd.out.mono ?_; rintro e w1 ⟨a, rfl, z, hA⟩
       have HA := Lib.hid hA
       have BW := Lib.hid (hB0.out.trans (z.mono hB0.out.size))
       have B1 := Lib.hid (Below.refl w1.heap.size w1)
       clear z hA))
  go_ret
  exact ⟨rfl, BW.out.trans (B7.out.mono BW.out.size)⟩
end Go.Proofs.YtgijnjdcpipfiaaDoor
/- Rows of canon's laws: the table that is laid, numbers that come in. -/
namespace Go.Proofs.YtgijnjdcpipfiaaDoor
open Go.ChangeShapes Go.WideShapes Go.ChangeAt Go.RowKit
theorem own : ownKnob Tryd.prog.godebug = none := by kernel_rfl
theorem laidOut : laidOutB Tryd.prog = true := by kernel_rfl
theorem wf_u32 {n : Int} (h : (Lit.int .u32 n).wf = true) : 0 ≤ n ∧ n < 4294967296 := by
  have : 0 ≤ n ∧ n ≤ 4294967295 := by simpa [Lit.wf, IntKind.min, IntKind.max, IntKind.signed, IntKind.bits] using h
  omega
theorem PTab.of_heap {w w' : World} (h : PTab w) (e : w'.heap = w.heap) : PTab w' := by
  unfold PTab Lib.TabIs World.var? at *
  rw [e]; exact h
theorem p10_glob : Tryd.prog.globalNamed "internal/strconv.uint64pow10" = some 0 := by kernel_rfl
theorem p10_type : (Tryd.prog.globals[(0 : Nat)]?).map (·.type) = some 139 := by kernel_rfl
/-- the list that is laid, for each of these laws -/
abbrev laid13 : List (String × DataW Unit) := [("math/bits.deBruijn32tab", Rows.laid_math_bits_deBruijn32tab), ("math/bits.deBruijn64tab", Rows.laid_math_bits_deBruijn64tab), ("internal/strconv.uint64pow10", Rows.laid_internal_strconv_uint64pow10)]
theorem ptab_of {w : World} (h : laidMetH Tryd.prog laid13 w) : PTab w := by
  rw [MakeChecks.laidMetH_plain _ _ _ (by kernel_rfl)] at h
  obtain ⟨ps, ⟨_, _, _, _, _, q1, _, _, _, _, ⟨_, _, _, _, _, q2, _, _, _, _, h3, _⟩, _⟩, _, _⟩ := h
  obtain ⟨g', t', cs, fuel, p, q, hg', ht', hvar, hd, _, _⟩ := h3
  obtain rfl := Option.some.inj (p10_glob.symm.trans hg')
  obtain rfl := Option.some.inj (p10_type.symm.trans ht')
  unfold PTab Lib.TabIs
  rw [hvar, ← Lib.cells_of_tab (k := .u64) (zs := Lib.pow10Tab) Tryd.underlying139 Tryd.underlying25 (by kernel_rfl) (by kernel_rfl) hd]
end Go.Proofs.YtgijnjdcpipfiaaDoor
/- law CanonLong: keys that are too long. -/
namespace Go.Proofs.YtgijnjdcpipfiaaDoor
open Go.RowKit
def nul (n : Nat) : List Nat := List.replicate n 0
theorem nul_len (n : Nat) : (nul n).length = n := List.length_replicate
theorem nul_lt (n : Nat) : ∀ x ∈ nul n, x < 256 := fun x hx => by rw [List.eq_of_mem_replicate hx]; omega
def lgT (x y : Nat) (v : Int) : Tr := .node (nul x) v true false (.kid 0 (.node (nul y) v true true .nil) .nil)
def lgL (x y : Nat) (v : Int) : PL := [(nul x, v), (nul (x + 1 + y), v)]
theorem lg_ok (x y : Nat) {v : Int} (h0 : 0 ≤ v) (h1 : v < 18446744073709551616) : TOk (lgT x y v) :=
  ⟨nul_lt x, h0, h1, by simp, by simp, trivial, by omega, trivial, ⟨nul_lt y, h0, h1, by simp, fun _ => ⟨rfl, rfl⟩, trivial, trivial⟩, trivial, trivial, trivial⟩
theorem lg_can (x y : Nat) (v : Int) : Can (lgT x y v) := by simp [lgT, Can, chain]
theorem nul_cat (x y : Nat) : nul x ++ 0 :: nul y = nul (x + 1 + y) := by
  have : 0 :: nul y = nul (1 + y) := by rw [Nat.add_comm]; rfl
  rw [this]
  unfold nul
  rw [List.replicate_append_replicate, Nat.add_assoc]
theorem lg_tl (x y : Nat) (v : Int) : tl (lgT x y v) = lgL x y v := by
  unfold lgL
  rw [← nul_cat]
  simp [lgT, tl, pre]
theorem lg_srt (x y : Nat) : PSrt (lgL x y 0) := by rw [← lg_tl]; exact tl_srt _ (lg_ok x y (by omega) (by omega))
theorem lg_fine (x y : Nat) (v : Int) : fineB (lgT x y v) = decide (x + 1 + y ≤ 65535) := by
  have h1 : ([] ++ nul x).length = x := by rw [List.nil_append, nul_len]
  have h2 : (([] ++ nul x) ++ [0] ++ nul y).length = x + 1 + y := by simp [nul_len]; omega
  unfold fineB
  show ((fnT ([] ++ nul x) v true false 1) ++ ((fnT (([] ++ nul x) ++ [0] ++ nul y) v true true 0 ++ []) ++ [])).all id = _
  unfold fnT
  rw [h1, h2]
  by_cases h : x + 1 + y ≤ 65535
  · have a1 : ¬ 65535 < x := by omega
    have a2 : ¬ 65535 < x + 1 + y := by omega
    simp [h, a1, a2]
  · have a2 : 65535 < x + 1 + y := by omega
    simp [h, a2]
theorem lg_way (x y : Nat) (v : Int) : tway (lgT x y v) = x + (1 + y) := by
  simp only [lgT, tway, nul_len]
  omega
theorem lg_dep (x y : Nat) (v : Int) : tdep (lgT x y v) = 2 := rfl
theorem lg_far (x y : Nat) (h : 65535 < x + 1 + y) : chkE (lgL x y 0) = 8 := by
  have : farL 65535 (lgL x y 0) = true := by
    unfold farL lgL
    simp [nul_len, h]
  unfold chkE
  rw [this]; rfl
/-- zeros that were made -/
theorem sl_nul (w : World) (n : Nat) (t : TypeId) (hn : n ≤ 200000) : Sl (w.alloc (.cells (Array.replicate n (.int .u8 0)) t)) (some ⟨w.heap.size, 0, none⟩) n n (nul n) := by
  refine ⟨nul_len n, ⟨nul_lt n, fun i hi => ⟨_, rfl, ?_, ?_⟩⟩, Nat.le_refl _, by unfold maxLen; omega, by simp⟩
  · rw [add0]; simp
  · have hb : (w.alloc (.cells (Array.replicate n (.int .u8 0)) t)).heap[w.heap.size]? = some (.cells ((List.replicate n (Value.int .u8 0)).toArray) t (0, 0)) := by rw [heap_alloc_new]; simp
    rw [add0, cell_of_blk hb]
    rw [nul_len] at hi
    simp [hi, nul, List.getD]
set_option maxHeartbeats 1000000 in
/-- pairs that may not be -/
theorem canon_build_err (o : Int) (w : World) (a : Option Addr) (n c : Nat) (l : PL) (h : Prs w a n c l) (h8 : chkE l = 8) : Calls Tryd.prog 7 #[.pointer none, .int .u64 o, .slice a n c] w fun e w' => e = .returned (.tuple #[.pointer none, .int .i64 8]) ∧ Below w.heap.size w w' := by
  have hC := canon_check w a n c l h
  rw [h8] at hC
  replace hC := Lib.hid hC
  clear h h8
  go_enter Tryd.func7, Tryd.ntmps7
  go_wp2_with (first | (go_at_call 18; refine hC.out.mono ?_; rintro e w1 ⟨rfl, hb⟩; have B := Lib.hid hb; clear hb))
  go_ret2
  exact ⟨rfl, B.out⟩
/-- make([]byte, n), n a uint32 -/
theorem make_u32 (w : World) (n : Nat) (hn : n ≤ 200000) : (Instr.makeSlice 24 (.int .u32 (n : Nat)) (.int .u32 (n : Nat))).run Tryd.prog w = .ok (.slice (some ⟨w.heap.size, 0, none⟩) n n) (w.alloc (.cells (List.replicate n (.int .u8 0)).toArray 5)) := by
  obtain ⟨i, h1, h2, h3, h4⟩ := u8_info
  have := run_make (P := Tryd.prog) w _ _ i _ cloneB_under h1 h2 .u32 .u32 (n : Nat) (n : Nat) (by omega) (by omega) (by rw [h4]; omega) (by omega)
  rw [this, h3]
  simp only [Int.toNat_natCast]
  rw [made_cells n _ rfl]
def lgN (k x : Nat) (v : Int) (has : Bool) (kk : KV) : NP := ⟨k, 1, nul x, v, has, some kk⟩
def lgK (k y : Nat) : NP := ⟨k, 1, nul y, 1, true, none⟩
theorem lg_inner (w : World) (x : Nat) (t : TypeId) (hx : x ≤ 200000) : Calls Tryd.prog 11 #[.pointer none, .int .u64 1, .slice (some ⟨w.heap.size, 0, none⟩) x x] (w.alloc (.cells (Array.replicate x (.int .u8 0)) t)) fun e w' => ∃ k, e = .returned (.pointer (some ⟨k, 0, none⟩)) ∧ StoreP NoB w w' [lgN k x 0 false []] := by
  have hS := sl_nul w x t hx
  have hB : Below w.heap.size w (w.alloc (.cells (Array.replicate x (.int .u8 0)) t)) := (Below.refl _ w).alloc (Nat.le_refl _) _
  exact (sp_inner0 (StoreP.nil NoB (Mod.of_below hB)) (In8.of_sl hS (by omega)) 1).mono fun e w' ⟨k, q1, ⟨q2, _⟩, _⟩ => ⟨k, q1, q2⟩
theorem lg_leaf (w w1 : World) (k x y : Nat) (t : TypeId) (hy : y ≤ 200000) (h : StoreP NoB w w1 [lgN k x 0 false []]) : Calls Tryd.prog 12 #[.pointer none, .int .u64 1, .slice (some ⟨w1.heap.size, 0, none⟩) y y, .int .u64 1] (w1.alloc (.cells (Array.replicate y (.int .u8 0)) t)) fun e w' => ∃ k2, e = .returned (.pointer (some ⟨k2, 0, none⟩)) ∧ StoreP NoB w w' [lgN k x 0 false [], lgK k2 y] := by
  have hS := sl_nul w1 y t hy
  have hB : Below w1.heap.size w1 (w1.alloc (.cells (Array.replicate y (.int .u8 0)) t)) := (Below.refl _ w1).alloc (Nat.le_refl _) _
  exact (sp_leaf0 (h.below hB) (In8.of_sl hS (by omega)) 1 1).mono fun e w' ⟨k, q1, ⟨q2, _⟩, _⟩ => ⟨k, q1, q2⟩
theorem lg_setval (w w1 : World) (k x y k2 : Nat) (h : StoreP NoB w w1 [lgN k x 0 false [], lgK k2 y]) : Calls Tryd.prog 13 #[.pointer (some ⟨k, 0, none⟩), .int .u64 1, .int .u64 1] w1 fun e w' => e = .returned (.int .i64 0) ∧ StoreP NoB w w' [lgN k x 1 true [], lgK k2 y] :=
  (sp_setval h (i := 0) (p := lgN k x 0 false []) rfl 1 1 (by simp [lgN])).mono fun e w' ⟨q1, q2, _⟩ => ⟨q1, q2⟩
theorem lg_setkid (w w1 : World) (k x y k2 : Nat) (h : StoreP NoB w w1 [lgN k x 1 true [], lgK k2 y]) : Calls Tryd.prog 14 #[.pointer (some ⟨k, 0, none⟩), .int .u64 1, .int .u8 0, .pointer (some ⟨k2, 0, none⟩)] w1 fun e w' => e = .returned (.int .i64 0) ∧ StoreP NoB w w' [lgN k x 1 true [(0, .pointer (some ⟨k2, 0, none⟩))], lgK k2 y] :=
  (sp_setkid h (i := 0) (p := lgN k x 1 true []) rfl (l := []) rfl 1 (by simp [lgN]) 0 (by omega) _).mono fun e w' ⟨q1, q2, _⟩ => ⟨q1, q2⟩
theorem lg_tree (k x y k2 : Nat) : TreeV [lgN k x 1 true [(0, .pointer (some ⟨k2, 0, none⟩))], lgK k2 y] (lgT x y 1) (.pointer (some ⟨k, 0, none⟩)) :=
  Or.inr ⟨trivial, 0, _, Nat.le_refl _, rfl, rfl, rfl, rfl, rfl, rfl, _, _, rfl, ⟨1, _, by omega, rfl, rfl, rfl, rfl, rfl, rfl, rfl⟩, rfl⟩
theorem lg_prs {w : World} {p1 p2 : Option Addr} {n1 n2 c1 c2 : Nat} {k1 k2 : List Nat} (h1 : Sl w p1 n1 c1 k1) (h2 : Sl w p2 n2 c2 k2) (t : TypeId) : Prs (w.alloc (.cells #[.slice p1 n1 c1, .int .u64 0, .slice p2 n2 c2, .int .u64 0] t)) (some ⟨w.heap.size, 0, none⟩) 2 2 [(k1, 0), (k2, 0)] := by
  obtain ⟨w3, h3⟩ : ∃ w3, w3 = w.alloc (.cells #[.slice p1 n1 c1, .int .u64 0, .slice p2 n2 c2, .int .u64 0] t) := ⟨_, rfl⟩
  rw [← h3]
  have b3 : Below w.heap.size w w3 := by rw [h3]; exact (Below.refl _ _).alloc (Nat.le_refl _) _
  have s3 : w3.heap.size = w.heap.size + 1 := by rw [h3]; simp
  have hb : w3.heap[w.heap.size]? = some (.cells ([.slice p1 n1 c1, .int .u64 0, .slice p2 n2 c2, .int .u64 0] : List Value).toArray t (0, 0)) := by rw [h3, heap_alloc_new]
  refine ⟨rfl, Nat.le_refl _, by unfold maxLen; omega, by simp, by simp, fun i hi => ⟨_, rfl, ?_⟩⟩
  have hi2 : i = 0 ∨ i = 1 := by simp at hi; omega
  rcases hi2 with rfl | rfl
  · refine ⟨by rw [add0]; show w.heap.size < _; omega, p1, n1, c1, ?_, ?_, h1.below b3⟩
    · rw [add0, cell_of_blk hb]; rfl
    · rw [add0]; show w3.cell? ⟨w.heap.size, 0 * 2 + 1, none⟩ = _; rw [cell_of_blk hb]; rfl
  · refine ⟨by rw [add0]; show w.heap.size < _; omega, p2, n2, c2, ?_, ?_, h2.below b3⟩
    · rw [add0, cell_of_blk hb]; rfl
    · rw [add0]; show w3.cell? ⟨w.heap.size, 1 * 2 + 1, none⟩ = _; rw [cell_of_blk hb]; rfl
/-- the two pairs, made in either order -/
theorem lg_prsA (w : World) (x y z : Nat) (hz : z = x + 1 + y) (hl : z ≤ 200000) (t u : TypeId) : Prs (((w.alloc (.cells (Array.replicate x (.int .u8 0)) u)).alloc (.cells (Array.replicate z (.int .u8 0)) u)).alloc (.cells #[.slice (some ⟨w.heap.size, 0, none⟩) x x, .int .u64 0, .slice (some ⟨w.heap.size + 1, 0, none⟩) z z, .int .u64 0] t)) (some ⟨w.heap.size + 1 + 1, 0, none⟩) 2 2 (lgL x y 0) := by
  have h1 := sl_nul w x u (by omega)
  have h2 := sl_nul (w.alloc (.cells (Array.replicate x (.int .u8 0)) u)) z u hl
  have b := (Below.refl (w.alloc (.cells (Array.replicate x (.int .u8 0)) u)).heap.size (w.alloc (.cells (Array.replicate x (.int .u8 0)) u))).alloc (Nat.le_refl _) (.cells (Array.replicate z (.int .u8 0)) u)
  have h := lg_prs (h1.below b) h2 t
  rw [hz] at h ⊢
  show Prs _ _ _ _ [(nul x, 0), (nul (x + 1 + y), 0)]
  simpa using h
theorem lg_prsB (w : World) (x y z : Nat) (hz : z = x + 1 + y) (hl : z ≤ 200000) (t u : TypeId) : Prs (((w.alloc (.cells (Array.replicate z (.int .u8 0)) u)).alloc (.cells (Array.replicate x (.int .u8 0)) u)).alloc (.cells #[.slice (some ⟨w.heap.size + 1, 0, none⟩) x x, .int .u64 0, .slice (some ⟨w.heap.size, 0, none⟩) z z, .int .u64 0] t)) (some ⟨w.heap.size + 1 + 1, 0, none⟩) 2 2 (lgL x y 0) := by
  have h1 := sl_nul w z u hl
  have h2 := sl_nul (w.alloc (.cells (Array.replicate z (.int .u8 0)) u)) x u (by omega)
  have b := (Below.refl (w.alloc (.cells (Array.replicate z (.int .u8 0)) u)).heap.size (w.alloc (.cells (Array.replicate z (.int .u8 0)) u))).alloc (Nat.le_refl _) (.cells (Array.replicate x (.int .u8 0)) u)
  have h := lg_prs h2 (h1.below b) t
  rw [hz] at h ⊢
  show Prs _ _ _ _ [(nul x, 0), (nul (x + 1 + y), 0)]
  simpa using h
/-- the tree that was built, in later worlds -/
structure LgB (w : World) (v : Value) : Prop where
  fine : ∀ X, Below w.heap.size w X → Calls Tryd.prog 9 #[v] X (belowPost (.bool true) X)
  depth : ∀ X, Below w.heap.size w X → Calls Tryd.prog 15 #[v] X (belowPost (.int .i64 2) X)
def LgPost (z : Nat) (w : World) (e : Ending) (w' : World) : Prop := (if 65535 < z then e = .returned (.tuple #[.pointer none, .int .i64 8]) else ∃ v, e = .returned (.tuple #[v, .int .i64 0]) ∧ LgB w' v) ∧ Below w.heap.size w w'
theorem lg_build (w W : World) (x y z : Nat) (hz : z = x + 1 + y) (g : Nat) (hb : Below w.heap.size w W) (h : Prs W (some ⟨g, 0, none⟩) 2 2 (lgL x y 0)) : Calls Tryd.prog 7 #[.pointer none, .int .u64 1, .slice (some ⟨g, 0, none⟩) 2 2] W (LgPost z w) := by
  unfold LgPost
  by_cases hl : 65535 < z
  · simp only [if_pos hl]
    exact (canon_build_err 1 W _ 2 2 _ h (lg_far x y (by omega))).mono fun e w' ⟨q1, q2⟩ => ⟨q1, hb.trans (q2.mono hb.size)⟩
  · simp only [if_neg hl]
    refine (canon_build 1 (by omega) W _ 2 2 _ h (lg_srt x y) (by intro k hk; simp [lgL] at hk; rcases hk with rfl | rfl <;> (show (nul _).length ≤ _; rw [nul_len]; omega))).mono fun e w' ⟨t, v, Q, q1, q2, q3, q4, q5, q6⟩ => ?_
    have hN : IsN t := q3.node (by rw [q6]; simp [lgL])
    obtain rfl : t = lgT x y 0 := can_eq hN trivial q4 (lg_ok x y (by omega) (by omega)) q5 (lg_can x y 0) (q6.trans (lg_tl x y 0).symm)
    obtain ⟨a, rfl⟩ : ∃ a, v = some a := by
      rcases q3 with ⟨h, _⟩ | ⟨_, hT⟩
      · cases h
      · obtain ⟨i, p, h0, h1, h2, _⟩ := hT
        exact ⟨_, by simpa using h2⟩
    have hle : x + 1 + y ≤ 65535 := by omega
    refine ⟨⟨_, q1, fun X hX => ?_, fun X hX => ?_⟩, hb.trans (q2.below_.mono hb.size)⟩
    · have := fine_any (q2.below hX) q3 q4 (by rw [lg_way]; omega) (by simp [lgT, tv, fnT])
      rw [lg_fine, decide_eq_true hle] at this
      exact this
    · exact depth_any 2 (by omega) (lgT x y 0) (Nat.le_of_eq (lg_dep x y 0)) (q2.below hX) q3 q4
set_option maxHeartbeats 2000000 in
set_option maxRecDepth 100000 in
theorem law_long (w : World) (a b : Int) (ha : 0 ≤ a ∧ a < 4294967296) (hb : 0 ≤ b ∧ b < 4294967296) (hP : PTab w) : Calls Tryd.prog 4 #[.int .u32 a, .int .u32 b] w (belowPost (.bool true) w) := by
  obtain ⟨x, hx⟩ : ∃ x : Nat, a % 70000 = (x : Nat) := ⟨(a % 70000).toNat, by omega⟩
  obtain ⟨y, hy⟩ : ∃ y : Nat, b % 70000 = (y : Nat) := ⟨(b % 70000).toNat, by omega⟩
  have hx0 : (x : Int) < 70000 := by omega
  have hy0 : (y : Int) < 70000 := by omega
  have hmx : ∀ w, (Instr.makeSlice 24 (.int .u32 (x : Nat)) (.int .u32 (x : Nat))).run Tryd.prog w = .ok (.slice (some ⟨w.heap.size, 0, none⟩) x x) (w.alloc (.cells (List.replicate x (.int .u8 0)).toArray 5)) := fun w => make_u32 w x (by omega)
  have hmy : ∀ w, (Instr.makeSlice 24 (.int .u32 (y : Nat)) (.int .u32 (y : Nat))).run Tryd.prog w = .ok (.slice (some ⟨w.heap.size, 0, none⟩) y y) (w.alloc (.cells (List.replicate y (.int .u8 0)).toArray 5)) := fun w => make_u32 w y (by omega)
  have hIn := Lib.hid (lg_inner w x 5 (by omega))
  have hLf : Hid (∀ w1 k, StoreP NoB w w1 [lgN k x 0 false []] → Calls Tryd.prog 12 #[.pointer none, .int .u64 1, .slice (some ⟨w1.heap.size, 0, none⟩) y y, .int .u64 1] (w1.alloc (.cells (Array.replicate y (.int .u8 0)) 5)) fun e w' => ∃ k2, e = .returned (.pointer (some ⟨k2, 0, none⟩)) ∧ StoreP NoB w w' [lgN k x 0 false [], lgK k2 y]) := fun w1 k h => lg_leaf w w1 k x y _ (by omega) h
  go_enter Tryd.func4, Tryd.ntmps4
  go_wp2_with fail
  rw [hx, hy]
  clear ha hb hx hy
  go_wp2_with (first
    | (go_at_call 14; refine (lg_setkid _ _ _ _ _ _ S3.out).mono ?_; rintro e w4 ⟨rfl, s4⟩; have S4 := Lib.hid s4; clear s4 S3)
    | (go_at_call 13; refine (lg_setval _ _ _ _ _ _ S2.out).mono ?_; rintro e w3 ⟨rfl, s3⟩; have S3 := Lib.hid s3; clear s3 S2)
    | (go_at_call 12; refine (hLf.out _ _ S1.out).mono ?_; rintro e w2 ⟨k2, rfl, s2⟩; have S2 := Lib.hid s2; clear s2 S1)
    | (go_at_call 11; refine hIn.out.mono ?_; rintro e w1 ⟨k, rfl, s1⟩; have S1 := Lib.hid s1; clear s1))
  obtain ⟨z, hz⟩ : ∃ z : Nat, (x : Int) + 1 + (y : Int) = (z : Nat) := ⟨x + 1 + y, by omega⟩
  have hz0 : (z : Int) < 150000 := by omega
  have hmz : ∀ w, (Instr.makeSlice 24 (.int .i64 (z : Nat)) (.int .i64 (z : Nat))).run Tryd.prog w = .ok (.slice (some ⟨w.heap.size, 0, none⟩) z z) (w.alloc (.cells (List.replicate z (.int .u8 0)).toArray 5)) := fun w => make_u8 w z (by omega)
  rw [hz]
  have HZ := Lib.hid hz
  clear hz
  have hzx : z = x + 1 + y := by have := HZ.out; omega
  have hBA : Hid (Calls Tryd.prog 7 #[.pointer none, .int .u64 1, .slice (some ⟨w4.heap.size + 1 + 1, 0, none⟩) 2 2] (((w4.alloc (.cells (Array.replicate x (.int .u8 0)) 5)).alloc (.cells (Array.replicate z (.int .u8 0)) 5)).alloc (.cells #[.slice (some ⟨w4.heap.size, 0, none⟩) x x, .int .u64 0, .slice (some ⟨w4.heap.size + 1, 0, none⟩) z z, .int .u64 0] 44)).drew (LgPost z w4)) :=
    lg_build w4 _ x y z hzx _ (below_drewN ((((Below.refl _ w4).alloc (Nat.le_refl _) _).alloc (by simp) _).alloc (by simp; omega) _) 1) ((lg_prsA w4 x y z hzx (by omega) _ _).drewN 1)
  have hBB : Hid (Calls Tryd.prog 7 #[.pointer none, .int .u64 1, .slice (some ⟨w4.heap.size + 1 + 1, 0, none⟩) 2 2] (((w4.alloc (.cells (Array.replicate z (.int .u8 0)) 5)).alloc (.cells (Array.replicate x (.int .u8 0)) 5)).alloc (.cells #[.slice (some ⟨w4.heap.size + 1, 0, none⟩) x x, .int .u64 0, .slice (some ⟨w4.heap.size, 0, none⟩) z z, .int .u64 0] 44)).drew (LgPost z w4)) :=
    lg_build w4 _ x y z hzx _ (below_drewN ((((Below.refl _ w4).alloc (Nat.le_refl _) _).alloc (by simp) _).alloc (by simp; omega) _) 1) ((lg_prsB w4 x y z hzx (by omega) _ _).drewN 1)
  have BW4 := Lib.hid S4.out.below_
  have hAl : Hid (∀ X, Below w.heap.size w X → Calls Tryd.prog 5 #[] X (belowPost (.bool true) X)) := fun X hX => alive13 X (hP.below hX)
  have hFn : Hid (∀ X, Below w4.heap.size w4 X → Calls Tryd.prog 9 #[.pointer (some ⟨k, 0, none⟩)] X (belowPost (.bool (decide (x + 1 + y ≤ 65535))) X)) := fun X hX => by
    have := fine_any (S4.out.below hX) (lg_tree k x y k2) (lg_ok x y (by omega) (by omega)) (by rw [lg_way]; omega) (by simp [lgT, tv, fnT])
    rw [lg_fine] at this
    exact this
  clear hP hmy hIn hLf S4
  by_cases hl : 65535 < z
  · have hl2 : 65535 < (z : Int) := by omega
    have hFn2 : Hid (∀ X, Below w4.heap.size w4 X → Calls Tryd.prog 9 #[.pointer (some ⟨k, 0, none⟩)] X (belowPost (.bool false) X)) := fun X hX => by
      have := hFn.out X hX
      rw [decide_eq_false (by omega)] at this
      exact this
    clear hzx hFn
    go_region_with (first | (go_at_call 7; (first | refine hBA.out.mono ?_ | refine hBB.out.mono ?_); rintro e w5 ⟨q0, q1⟩; rw [if_pos hl] at q0; subst q0; have B5 := Lib.hid q1; clear q1))
    all_goals (
      clear hBA hBB hmz hmx hl HZ hz0 hx0 hy0
      go_wp2_with (first
        | (go_at_call 5; refine (hAl.out _ (BW4.out.trans (B6.out.mono BW4.out.size))).mono ?_; rintro e w7 ⟨rfl, z⟩; have B7 := Lib.hid (B6.out.trans (z.mono B6.out.size)); clear z)
        | (go_at_call 9; refine (hFn2.out _ B5.out).mono ?_; rintro e w6 ⟨rfl, z⟩; have B6 := Lib.hid (B5.out.trans (z.mono B5.out.size)); clear z))
      go_ret
      exact ⟨rfl, BW4.out.trans (B7.out.mono BW4.out.size)⟩)
  · have hl2 : ¬ 65535 < (z : Int) := by omega
    have hFn2 : Hid (∀ X, Below w4.heap.size w4 X → Calls Tryd.prog 9 #[.pointer (some ⟨k, 0, none⟩)] X (belowPost (.bool true) X)) := fun X hX => by
      have := hFn.out X hX
      rw [decide_eq_true (by omega)] at this
      exact this
    clear hzx hFn
    go_region_with (first | (go_at_call 7; (first | refine hBA.out.mono ?_ | refine hBB.out.mono ?_); rintro e w5 ⟨q0, q1⟩; rw [if_neg hl] at q0; obtain ⟨tr, rfl, hA⟩ := q0; have HA := Lib.hid hA; have B5 := Lib.hid q1; clear q1 hA))
    all_goals (
      have R5 := Lib.hid (Below.refl w5.heap.size w5)
      clear hBA hBB hmz hmx hl HZ hz0 hx0 hy0
      go_wp2_with (first
        | (go_at_call 5; refine (hAl.out _ (BW4.out.trans (B8.out.mono BW4.out.size))).mono ?_; rintro e w9 ⟨rfl, z⟩; have B9 := Lib.hid (B8.out.trans (z.mono B8.out.size)); clear z)
        | (have g0 := B7; go_at_call 15; refine (HA.out.depth _ R7.out).mono ?_; rintro e w8 ⟨rfl, z⟩; have B8 := Lib.hid (B7.out.trans (z.mono B7.out.size)); clear z)
        | (have g0 := B6; go_at_call 9; refine (hFn2.out _ B6.out).mono ?_; rintro e w7 ⟨rfl, z⟩; have B7 := Lib.hid (B6.out.trans (z.mono B6.out.size)); have R7 := Lib.hid (R6.out.trans (z.mono R6.out.size)); clear z)
        | (go_at_call 9; refine (HA.out.fine _ R5.out).mono ?_; rintro e w6 ⟨rfl, z⟩; have B6 := Lib.hid (B5.out.trans (z.mono B5.out.size)); have R6 := Lib.hid (R5.out.trans (z.mono R5.out.size)); clear z))
      go_ret
      exact ⟨rfl, BW4.out.trans (B9.out.mono BW4.out.size)⟩)
end Go.Proofs.YtgijnjdcpipfiaaDoor
