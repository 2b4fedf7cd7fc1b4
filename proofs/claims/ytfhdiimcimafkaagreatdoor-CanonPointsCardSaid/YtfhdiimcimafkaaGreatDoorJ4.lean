/- canon.each, walked, for each of its callbacks; canon.each at any tree, for each of its callbacks; canon.List and canon.Count; Any canonical tree's node laid; Any canonical tree encoded; how many bytes that is; The statements KidsKind and KidsNobody: their walks; The document's build, walked whole; The document's Build; The document's Steps; canon.Depth; The law FindSteps; The document's bytes of a tree; Bytes behind bytes: append of any slice of bytes, also of none; keys.Text; strconv.FormatUint at base 10, strconv.Itoa, over a table that is laid; strings.Builder's WriteString and String over this program (the library's contracts, laid by hand where the tool had none); canon.shape of any tree; What the laws of the chapters 17, 30, 32 ask of pairs: whether they are too many; their tree; What the texts on numbers of trees share; canon.Shape; canon.each at any tree, for callbacks that are told each node; canon.Fine. -/
import Derived.Test.YtfhdiimcimafkaaGreatDoorJ3
import Derived.Test.YtfhdiimcimafkaaGreatDoorJ1
import Derived.Deep.CutBlock
import Derived.Deep.RegionLaw
import Derived.StillTailTactics
import Derived.Deep.RegionHeld3
import Derived.Deep.Cut
import Derived.Deep.RegionLawGrows
import Derived.Deep.CutRange
import Derived.Laws.IdiomStrings
import Derived.Test.YtfhdiimcimafkaaGreatDoorShelf
import Derived.Lib.ItoaMem
import Derived.Lib.AppendIntMem
import Derived.WalkKit
set_option linter.unusedVariables false
set_option linter.unusedSimpArgs false
/- canon.each, walked, for each of its callbacks. -/
namespace Go.Proofs.YtfhdiimcimafkaaGreatDoor
open Go.RowKit
def eachF (bf bd : Nat) : Value := .func (.func 62) #[] #[.pointer (some ⟨bf, 0, none⟩), .pointer (some ⟨bd, 0, none⟩)]
/-- what each is asked for at a tree -/
def EachAsk (S : (Nat → Prop) → PL → World → Prop) (w : World) (cf : Value) (N : Nat) : Prop := ∀ (t : Tr) {w0 : World} {Q : List NP} {p : Option Addr}, tdep t ≤ N → StoreP NoB w0 w Q → TreeIn Q 0 t (.pointer p) [] → IsN t → TOk t → ∀ {X : World} {v : Value} {k : List Nat} {bo : Option Nat} {cap : Nat} {F : Nat → Prop} {L : PL} {bf bd : Nat}, EaS S w bf bd cf (eachF bf bd) v k bo cap F L X → (∀ x ∈ k, x < 256) → k.length + tway t ≤ 900000 → L.length + (tl t).length ≤ 2000 →
  Calls Tryz.prog 62 #[v, .pointer p, .pointer (some ⟨bf, 0, none⟩), .pointer (some ⟨bd, 0, none⟩)] X fun e X' => e = .returned (.tuple #[]) ∧ ∃ F', EaS S w bf bd cf (eachF bf bd) v k bo cap F' (L ++ pre k (tl t)) X' ∧ Ext bo F X X' F'
set_option maxHeartbeats 4000000 in
set_option maxRecDepth 100000 in
theorem each1_cn {S : (Nat → Prop) → PL → World → Prop} {w : World} {m : Nat} (hS : CbT S w.heap.size) (hf : CbTree S w (48) m) (N : Nat) (IH : EachAsk S w (.func (.func 48) #[] #[.pointer (some ⟨m, 0, none⟩)]) N)
    {w0 X : World} {Q : List NP} (hQ : StoreP NoB w0 w Q) {n : Nat} {bs : List Nat} {val : Int} {has leaf : Bool} {mm : Nat} {kk : KV} {ks : Tr} (h : NodeW w n bs val has leaf mm kk) (hKs : Kids Q kk ks ks [] kk) (hk0 : knxt kk 0 = kk.head?) (hdp : tdep ks ≤ N) (hb8 : ∀ x ∈ bs, x < 256) (hv0 : 0 ≤ val) (hv1 : val < 18446744073709551616)
    {v : Value} {k : List Nat} {bo : Option Nat} {cap : Nat} {F : Nat → Prop} {L : PL} {bf bd : Nat} (hE : EaS S w bf bd (.func (.func 48) #[] #[.pointer (some ⟨m, 0, none⟩)]) (eachF bf bd) v k bo cap F L X) (hk8 : ∀ x ∈ k, x < 256) (hway : k.length + (bs.length + tway ks) ≤ 900000) {T : PL} (hT : T = L ++ (if has then [(k ++ bs, val)] else []) ++ pre (k ++ bs) (tl ks)) (htot : T.length ≤ 2000) :
    Calls Tryz.prog 62 #[v, .pointer (some ⟨n, 0, none⟩), .pointer (some ⟨bf, 0, none⟩), .pointer (some ⟨bd, 0, none⟩)] X fun e X' => e = .returned (.tuple #[]) ∧ ∃ F', EaS S w bf bd (.func (.func 48) #[] #[.pointer (some ⟨m, 0, none⟩)]) (eachF bf bd) v k bo cap F' T X' ∧ Ext bo F X X' F' := by
  have hPart := Lib.hid (h.part X hE.since)
  have HN := Lib.hid h
  have HS := Lib.hid hS
  have HF := Lib.hid hf
  have HQ := Lib.hid hQ
  have HE := Lib.hid hE
  have hn0 : Hid (∀ X, Below w.heap.size w X → Calls Tryz.prog 47 #[.pointer (some ⟨n, 0, none⟩), .int .i64 0] X fun e w' => e = .returned (.tuple #[.int .u8 (hdB kk : Nat), hdK kk]) ∧ Below X.heap.size X w') := fun X hX => by
    have := h.next X 0 hX (by omega) (by omega)
    rw [hk0, stepV_head] at this
    exact this
  obtain ⟨kb, hkbe⟩ : ∃ kb, kb = k ++ bs := ⟨_, rfl⟩
  have HKe := Lib.hid hkbe
  have hT2 : Hid ((L ++ if has then [(kb, val)] else []) ++ pre kb (tl ks) = T) := by rw [hkbe]; exact hT.symm
  have hLl : Hid (L.length ≤ 2000) := by show _ ≤ _; have := congrArg List.length hT; simp only [List.length_append] at this; omega
  have HT := Lib.hid htot
  have hKs0 := Lib.hid hKs
  have hkl : Hid (k.length ≤ 1000000) := by show _ ≤ _; omega
  have hbl : Hid (bs.length ≤ 1000000) := by show _ ≤ _; omega
  have h1m : Hid (1 ≤ 1000000) := by show _ ≤ _; omega
  have hkb : Hid (∀ x ∈ kb, x < 256) := fun x hx => by
    rw [hkbe] at hx
    rcases List.mem_append.1 hx with hx | hx
    · exact hk8 x hx
    · exact hb8 x hx
  have hkbl : Hid (kb.length + tway ks ≤ 900000) := by show _ ≤ _; rw [hkbe, List.length_append]; omega
  have hv := Lib.hid (And.intro hv0 hv1)
  clear h hKs hk0 hb8 hv0 hv1 hE hk8 hway hT htot hS hf hQ hkbe
  go_enter Tryz.func62, Tryz.ntmps62
  go_wp2_with (first
    | (go_at_call 47; refine (hn0.out _ B3.out).mono ?_; rintro e w4 ⟨rfl, z1⟩; have E4 := Lib.hid (E3.out.below HS.out z1); have Y4 := Lib.hid (Y3.out.trans (Ext.of_below z1)); clear z1)
    | (go_at_call 48; refine (HF.out _ _ _ _ _ _ _ _ _ _ _ _ _ _ E2.out.st hNX.out hSl.out (by have := hkbl.out; omega) hv.out.1 hv.out.2 E2.out.since hLl.out).mono ?_; rintro e w3 ⟨rfl, F3, s3, m3, f3⟩
       obtain ⟨q1, q2⟩ := E2.out.told HS.out s3 m3 f3
       have E3 := Lib.hid q1
       have Y3 := Lib.hid q2
       have B3 := Lib.hid q1.since
       clear s3 m3 f3 q1 q2)
    | (at_builtin; go_loud (refine wpList_append_way (v := v) rfl (.tmp 10) (.tmp 12) rfl rfl E1.out.way ⟨X.heap.size, 0, none⟩ bs.length bs.length bs rfl rfl hnews.out hkl.out hbl.out ?_); intro v2 w2 bo2 cap2 HW HG HM HK
       obtain ⟨q1, q2⟩ := E1.out.app HS.out HW.out HG.out HM.out
       rw [← HKe.out] at q1
       have E2 := Lib.hid q1
       have hNX := Lib.hid (HN.out.below q1.since)
       obtain ⟨a2, hv2, sl2⟩ := q1.way.sl hkb.out
       subst hv2
       have hSl := Lib.hid sl2
       have cbf := q1.xf
       clear q1 q2 sl2 HW)
    | (go_at_call 63; refine hPart.out.mono ?_; rintro e w1 ⟨rfl, s1, b1⟩
       have E1 := Lib.hid (HE.out.below HS.out b1)
       have B1 := Lib.hid b1
       have hnews := Lib.hid (sl_news s1 (Below.refl _ w1))
       clear s1 b1))
  have E4' := E4
  have Y4' := Y4
  clear E4 Y4 Y3 E3 E2 B3 hNX hSl cbf hnews hn0 hPart hLl hbl
  go_loopw [6, 7] (fun v6 v7 wr => ∃ (F1 : Nat → Prop) (L1 : PL) (r : Tr) (A lr : KV), v6 = .int .u8 (hdB lr : Nat) ∧ v7 = hdK lr ∧ Hid (EaS S w bf bd (.func (.func 48) #[] #[.pointer (some ⟨m, 0, none⟩)]) (eachF bf bd) (.slice a2 kb.length cap2) kb bo2 cap2 F1 L1 wr) ∧ Hid (Ext bo2 F w2 wr F1) ∧ Hid (Kids Q kk ks r A lr) ∧ Hid (L1 ++ pre kb (tl r) = T) ∧ Hid (tdep r ≤ N ∧ kb.length + tway r ≤ 900000)) (fun v6 v7 _ => match v7 with | .pointer none => 0 | _ => 256 - (intOf v6).toNat)
  case atStart => exact ⟨F3, _, ks, [], kk, rfl, rfl, E4', Y4', hKs0, hT2, hdp, hkbl.out⟩
  case round =>
    clear E4' Y4' hKs0 hT2 hkbl
    obtain ⟨F1, L1, r, A, lr, rfl, rfl, hE, hY, hKd, hL, hdr⟩ := hrel
    by_cases hl : lr = []
    · subst hl
      obtain rfl := hKd.out.done
      rw [show hdK ([] : KV) = .pointer none from rfl]
      go_wp2_with fail
      go_end0
      have e := hL.out
      simp only [tl, pre_nil, List.append_nil] at e
      have q := hE.out
      rw [HKe.out, e] at q
      obtain ⟨q1, q2⟩ := E1.out.back HS.out HG.out HM.out HK.out q hY.out
      exact ⟨rfl, F1, q1, (Ext.of_below B1.out).trans q2⟩
    · obtain ⟨b, t, r', x, lr', rfl, rfl, hb1, hx1, hb256, ⟨kn, rfl⟩, hTV, hIN, hOk, hnext, hkn⟩ := hKd.out.next hl
      rw [hb1, hx1]
      obtain ⟨kb2, hkb2⟩ : ∃ kb2, kb2 = kb ++ [b] := ⟨_, rfl⟩
      have HK2 := Lib.hid hkb2
      have hL2 : Hid (L1 ++ pre kb2 (tl t) ++ pre kb (tl r') = T) := by show _ = _; rw [← hL.out, hkb2]; simp [tl, pre_append, pre_pre]
      have hLl : Hid (L1.length + (tl t).length ≤ 2000) := by
        have := congrArg List.length hL2.out
        have := HT.out
        simp only [List.length_append, pre_length] at *
        show _ ≤ _
        omega
      have hdr1 := hdr.out.1
      have hdr2 := hdr.out.2
      simp only [tdep] at hdr1
      simp only [tway] at hdr2
      have hTI : TreeIn Q 0 t (.pointer (some ⟨kn, 0, none⟩)) [] := by
        rcases hTV with ⟨_, e⟩ | ⟨_, e⟩
        · cases e
        · exact e
      have hk2 : Hid (∀ x ∈ kb2, x < 256) := fun x hx => by
        rw [hkb2] at hx
        rcases List.mem_append.1 hx with hx | hx
        · exact hkb.out x hx
        · obtain rfl := List.mem_singleton.1 hx; exact hb256
      have hRec : Hid (∀ w8 v8 bo8 cap8, EaS S w bf bd (.func (.func 48) #[] #[.pointer (some ⟨m, 0, none⟩)]) (eachF bf bd) v8 kb2 bo8 cap8 F1 L1 w8 → Calls Tryz.prog 62 #[v8, .pointer (some ⟨kn, 0, none⟩), .pointer (some ⟨bf, 0, none⟩), .pointer (some ⟨bd, 0, none⟩)] w8 fun e X' => e = .returned (.tuple #[]) ∧ ∃ F', EaS S w bf bd (.func (.func 48) #[] #[.pointer (some ⟨m, 0, none⟩)]) (eachF bf bd) v8 kb2 bo8 cap8 F' (L1 ++ pre kb2 (tl t)) X' ∧ Ext bo8 F1 w8 X' F') := fun w8 v8 bo8 cap8 q =>
        IH t (by omega) HQ.out hTI hIN hOk q hk2.out (by rw [hkb2, List.length_append, List.length_singleton]; omega) hLl.out
      have hN2 : Hid (∀ wr', Below w.heap.size w wr' → Calls Tryz.prog 47 #[.pointer (some ⟨n, 0, none⟩), .int .i64 ((b + 1 : Nat) : Int)] wr' fun e w' => e = .returned (.tuple #[.int .u8 (hdB lr' : Nat), hdK lr']) ∧ Below wr'.heap.size wr' w') := fun wr' hb' => by
        have := HN.out.next wr' ((b + 1 : Nat) : Int) hb' (by omega) (by omega)
        rw [show (((b + 1 : Nat) : Int)) = (b : Int) + 1 by omega, hkn, stepV_head] at this
        exact this
      have hK2 := Lib.hid hnext
      have hwb : IntKind.i64.wrap ((b : Int) + 1) = ((b + 1 : Nat) : Int) := by rw [show (b : Int) + 1 = ((b + 1 : Nat) : Int) by omega]; exact IntWalk.i64_in _ (by omega)
      have hwc : IntKind.i64.wrap (b : Int) = (b : Int) := IntWalk.i64_in _ (by omega)
      have hms : Hid (∀ p ∈ lr', b < p.1 ∧ p.1 < 256) := kids_rest hnext
      have hdr3 : Hid (tdep r' ≤ N ∧ kb.length + tway r' ≤ 900000) := And.intro (by omega) (by omega)
      have hkbL : Hid (kb.length ≤ 1000000) := by show _ ≤ _; omega
      have hAd : Hid (Below wr.heap.size wr (wr.alloc (.cells #[.int .u8 (b : Nat)] 5)).drew) := ((Below.refl _ wr).alloc (Nat.le_refl _) _).drew
      have hEA := Lib.hid (hE.out.below HS.out hAd.out)
      have hnews : Hid (∀ j u, (bV [b])[j]? = some u → (wr.alloc (.cells #[.int .u8 (b : Nat)] 5)).drew.cell? ((⟨wr.heap.size, 0, none⟩ : Addr).add j) = some u) := news_alloc wr [.int .u8 (b : Nat)] 5
      have cd0 := hE.out.xd
      have cdA : ∀ o, (wr.alloc o).cell? ⟨bd, 0, none⟩ = some (eachF bf bd) := fun o => (hE.out.below HS.out ((Below.refl _ wr).alloc (Nat.le_refl _) o)).xd
      unfold eachF at cd0 cdA
      clear hTV hTI hIN hOk hnext hkn hKd hl hb1 hx1 hdr hdr1 hdr2 hL hkb2
      go_wp2_with fail
      go_region_law (first
        | (refine step_append_way (v := .slice a2 kb.length cap2) rfl (.tmp 34) (.tmp 36) rfl rfl hEA.out.way ⟨wr.heap.size, 0, none⟩ 1 1 [b] rfl rfl hnews.out hkbL.out h1m.out ?_; intro v8 w8 bo8 cap8 HW8 HG8 HM8 HK8
           obtain ⟨q1, q2⟩ := hEA.out.app HS.out HW8.out HG8.out HM8.out
           rw [← HK2.out] at q1
           have E8 := Lib.hid q1
           have cd8 := q1.xd
           unfold eachF at cd8
           clear q1 q2)
        | (go_simp; go_at_call 62; refine (hRec.out _ _ _ _ E8.out).mono ?_; rintro e w9 ⟨rfl, F9, q9, y9⟩
           have E9 := Lib.hid (hEA.out.back HS.out HG8.out HM8.out HK8.out (by rw [← HK2.out]; exact q9) y9)
           clear q9 y9))
      all_goals
        go_wp2_with (go_at_call 47; refine (hN2.out _ E9.out.1.since).mono ?_; rintro e w10 ⟨rfl, z1⟩; have E10 := Lib.hid (E9.out.1.below HS.out z1); have Y10 := Lib.hid (hY.out.trans ((Ext.of_below hAd.out).trans (E9.out.2.trans (Ext.of_below z1)))); clear z1)
        go_roundw
        case rel => exact ⟨F9, _, r', A ++ [(b, .pointer (some ⟨kn, 0, none⟩))], lr', rfl, rfl, E10, Y10, hK2, hL2, hdr3⟩
        case measure =>
          cases lr' with
          | nil => simp [hdK, hdB, intOf]; omega
          | cons y l => have := hms.out y (by simp); simp [hdK, hdB, intOf]; split <;> omega

set_option maxHeartbeats 4000000 in
set_option maxRecDepth 100000 in
theorem each1_ls {S : (Nat → Prop) → PL → World → Prop} {w : World} {m : Nat} (hS : CbT S w.heap.size) (hf : CbTree S w (49) m) (N : Nat) (IH : EachAsk S w (.func (.func 49) #[] #[.pointer (some ⟨m, 0, none⟩)]) N)
    {w0 X : World} {Q : List NP} (hQ : StoreP NoB w0 w Q) {n : Nat} {bs : List Nat} {val : Int} {has leaf : Bool} {mm : Nat} {kk : KV} {ks : Tr} (h : NodeW w n bs val has leaf mm kk) (hKs : Kids Q kk ks ks [] kk) (hk0 : knxt kk 0 = kk.head?) (hdp : tdep ks ≤ N) (hb8 : ∀ x ∈ bs, x < 256) (hv0 : 0 ≤ val) (hv1 : val < 18446744073709551616)
    {v : Value} {k : List Nat} {bo : Option Nat} {cap : Nat} {F : Nat → Prop} {L : PL} {bf bd : Nat} (hE : EaS S w bf bd (.func (.func 49) #[] #[.pointer (some ⟨m, 0, none⟩)]) (eachF bf bd) v k bo cap F L X) (hk8 : ∀ x ∈ k, x < 256) (hway : k.length + (bs.length + tway ks) ≤ 900000) {T : PL} (hT : T = L ++ (if has then [(k ++ bs, val)] else []) ++ pre (k ++ bs) (tl ks)) (htot : T.length ≤ 2000) :
    Calls Tryz.prog 62 #[v, .pointer (some ⟨n, 0, none⟩), .pointer (some ⟨bf, 0, none⟩), .pointer (some ⟨bd, 0, none⟩)] X fun e X' => e = .returned (.tuple #[]) ∧ ∃ F', EaS S w bf bd (.func (.func 49) #[] #[.pointer (some ⟨m, 0, none⟩)]) (eachF bf bd) v k bo cap F' T X' ∧ Ext bo F X X' F' := by
  have hPart := Lib.hid (h.part X hE.since)
  have HN := Lib.hid h
  have HS := Lib.hid hS
  have HF := Lib.hid hf
  have HQ := Lib.hid hQ
  have HE := Lib.hid hE
  have hn0 : Hid (∀ X, Below w.heap.size w X → Calls Tryz.prog 47 #[.pointer (some ⟨n, 0, none⟩), .int .i64 0] X fun e w' => e = .returned (.tuple #[.int .u8 (hdB kk : Nat), hdK kk]) ∧ Below X.heap.size X w') := fun X hX => by
    have := h.next X 0 hX (by omega) (by omega)
    rw [hk0, stepV_head] at this
    exact this
  obtain ⟨kb, hkbe⟩ : ∃ kb, kb = k ++ bs := ⟨_, rfl⟩
  have HKe := Lib.hid hkbe
  have hT2 : Hid ((L ++ if has then [(kb, val)] else []) ++ pre kb (tl ks) = T) := by rw [hkbe]; exact hT.symm
  have hLl : Hid (L.length ≤ 2000) := by show _ ≤ _; have := congrArg List.length hT; simp only [List.length_append] at this; omega
  have HT := Lib.hid htot
  have hKs0 := Lib.hid hKs
  have hkl : Hid (k.length ≤ 1000000) := by show _ ≤ _; omega
  have hbl : Hid (bs.length ≤ 1000000) := by show _ ≤ _; omega
  have h1m : Hid (1 ≤ 1000000) := by show _ ≤ _; omega
  have hkb : Hid (∀ x ∈ kb, x < 256) := fun x hx => by
    rw [hkbe] at hx
    rcases List.mem_append.1 hx with hx | hx
    · exact hk8 x hx
    · exact hb8 x hx
  have hkbl : Hid (kb.length + tway ks ≤ 900000) := by show _ ≤ _; rw [hkbe, List.length_append]; omega
  have hv := Lib.hid (And.intro hv0 hv1)
  clear h hKs hk0 hb8 hv0 hv1 hE hk8 hway hT htot hS hf hQ hkbe
  go_enter Tryz.func62, Tryz.ntmps62
  go_wp2_with (first
    | (go_at_call 47; refine (hn0.out _ B3.out).mono ?_; rintro e w4 ⟨rfl, z1⟩; have E4 := Lib.hid (E3.out.below HS.out z1); have Y4 := Lib.hid (Y3.out.trans (Ext.of_below z1)); clear z1)
    | (go_at_call 49; refine (HF.out _ _ _ _ _ _ _ _ _ _ _ _ _ _ E2.out.st hNX.out hSl.out (by have := hkbl.out; omega) hv.out.1 hv.out.2 E2.out.since hLl.out).mono ?_; rintro e w3 ⟨rfl, F3, s3, m3, f3⟩
       obtain ⟨q1, q2⟩ := E2.out.told HS.out s3 m3 f3
       have E3 := Lib.hid q1
       have Y3 := Lib.hid q2
       have B3 := Lib.hid q1.since
       clear s3 m3 f3 q1 q2)
    | (at_builtin; go_loud (refine wpList_append_way (v := v) rfl (.tmp 10) (.tmp 12) rfl rfl E1.out.way ⟨X.heap.size, 0, none⟩ bs.length bs.length bs rfl rfl hnews.out hkl.out hbl.out ?_); intro v2 w2 bo2 cap2 HW HG HM HK
       obtain ⟨q1, q2⟩ := E1.out.app HS.out HW.out HG.out HM.out
       rw [← HKe.out] at q1
       have E2 := Lib.hid q1
       have hNX := Lib.hid (HN.out.below q1.since)
       obtain ⟨a2, hv2, sl2⟩ := q1.way.sl hkb.out
       subst hv2
       have hSl := Lib.hid sl2
       have cbf := q1.xf
       clear q1 q2 sl2 HW)
    | (go_at_call 63; refine hPart.out.mono ?_; rintro e w1 ⟨rfl, s1, b1⟩
       have E1 := Lib.hid (HE.out.below HS.out b1)
       have B1 := Lib.hid b1
       have hnews := Lib.hid (sl_news s1 (Below.refl _ w1))
       clear s1 b1))
  have E4' := E4
  have Y4' := Y4
  clear E4 Y4 Y3 E3 E2 B3 hNX hSl cbf hnews hn0 hPart hLl hbl
  go_loopw [6, 7] (fun v6 v7 wr => ∃ (F1 : Nat → Prop) (L1 : PL) (r : Tr) (A lr : KV), v6 = .int .u8 (hdB lr : Nat) ∧ v7 = hdK lr ∧ Hid (EaS S w bf bd (.func (.func 49) #[] #[.pointer (some ⟨m, 0, none⟩)]) (eachF bf bd) (.slice a2 kb.length cap2) kb bo2 cap2 F1 L1 wr) ∧ Hid (Ext bo2 F w2 wr F1) ∧ Hid (Kids Q kk ks r A lr) ∧ Hid (L1 ++ pre kb (tl r) = T) ∧ Hid (tdep r ≤ N ∧ kb.length + tway r ≤ 900000)) (fun v6 v7 _ => match v7 with | .pointer none => 0 | _ => 256 - (intOf v6).toNat)
  case atStart => exact ⟨F3, _, ks, [], kk, rfl, rfl, E4', Y4', hKs0, hT2, hdp, hkbl.out⟩
  case round =>
    clear E4' Y4' hKs0 hT2 hkbl
    obtain ⟨F1, L1, r, A, lr, rfl, rfl, hE, hY, hKd, hL, hdr⟩ := hrel
    by_cases hl : lr = []
    · subst hl
      obtain rfl := hKd.out.done
      rw [show hdK ([] : KV) = .pointer none from rfl]
      go_wp2_with fail
      go_end0
      have e := hL.out
      simp only [tl, pre_nil, List.append_nil] at e
      have q := hE.out
      rw [HKe.out, e] at q
      obtain ⟨q1, q2⟩ := E1.out.back HS.out HG.out HM.out HK.out q hY.out
      exact ⟨rfl, F1, q1, (Ext.of_below B1.out).trans q2⟩
    · obtain ⟨b, t, r', x, lr', rfl, rfl, hb1, hx1, hb256, ⟨kn, rfl⟩, hTV, hIN, hOk, hnext, hkn⟩ := hKd.out.next hl
      rw [hb1, hx1]
      obtain ⟨kb2, hkb2⟩ : ∃ kb2, kb2 = kb ++ [b] := ⟨_, rfl⟩
      have HK2 := Lib.hid hkb2
      have hL2 : Hid (L1 ++ pre kb2 (tl t) ++ pre kb (tl r') = T) := by show _ = _; rw [← hL.out, hkb2]; simp [tl, pre_append, pre_pre]
      have hLl : Hid (L1.length + (tl t).length ≤ 2000) := by
        have := congrArg List.length hL2.out
        have := HT.out
        simp only [List.length_append, pre_length] at *
        show _ ≤ _
        omega
      have hdr1 := hdr.out.1
      have hdr2 := hdr.out.2
      simp only [tdep] at hdr1
      simp only [tway] at hdr2
      have hTI : TreeIn Q 0 t (.pointer (some ⟨kn, 0, none⟩)) [] := by
        rcases hTV with ⟨_, e⟩ | ⟨_, e⟩
        · cases e
        · exact e
      have hk2 : Hid (∀ x ∈ kb2, x < 256) := fun x hx => by
        rw [hkb2] at hx
        rcases List.mem_append.1 hx with hx | hx
        · exact hkb.out x hx
        · obtain rfl := List.mem_singleton.1 hx; exact hb256
      have hRec : Hid (∀ w8 v8 bo8 cap8, EaS S w bf bd (.func (.func 49) #[] #[.pointer (some ⟨m, 0, none⟩)]) (eachF bf bd) v8 kb2 bo8 cap8 F1 L1 w8 → Calls Tryz.prog 62 #[v8, .pointer (some ⟨kn, 0, none⟩), .pointer (some ⟨bf, 0, none⟩), .pointer (some ⟨bd, 0, none⟩)] w8 fun e X' => e = .returned (.tuple #[]) ∧ ∃ F', EaS S w bf bd (.func (.func 49) #[] #[.pointer (some ⟨m, 0, none⟩)]) (eachF bf bd) v8 kb2 bo8 cap8 F' (L1 ++ pre kb2 (tl t)) X' ∧ Ext bo8 F1 w8 X' F') := fun w8 v8 bo8 cap8 q =>
        IH t (by omega) HQ.out hTI hIN hOk q hk2.out (by rw [hkb2, List.length_append, List.length_singleton]; omega) hLl.out
      have hN2 : Hid (∀ wr', Below w.heap.size w wr' → Calls Tryz.prog 47 #[.pointer (some ⟨n, 0, none⟩), .int .i64 ((b + 1 : Nat) : Int)] wr' fun e w' => e = .returned (.tuple #[.int .u8 (hdB lr' : Nat), hdK lr']) ∧ Below wr'.heap.size wr' w') := fun wr' hb' => by
        have := HN.out.next wr' ((b + 1 : Nat) : Int) hb' (by omega) (by omega)
        rw [show (((b + 1 : Nat) : Int)) = (b : Int) + 1 by omega, hkn, stepV_head] at this
        exact this
      have hK2 := Lib.hid hnext
      have hwb : IntKind.i64.wrap ((b : Int) + 1) = ((b + 1 : Nat) : Int) := by rw [show (b : Int) + 1 = ((b + 1 : Nat) : Int) by omega]; exact IntWalk.i64_in _ (by omega)
      have hwc : IntKind.i64.wrap (b : Int) = (b : Int) := IntWalk.i64_in _ (by omega)
      have hms : Hid (∀ p ∈ lr', b < p.1 ∧ p.1 < 256) := kids_rest hnext
      have hdr3 : Hid (tdep r' ≤ N ∧ kb.length + tway r' ≤ 900000) := And.intro (by omega) (by omega)
      have hkbL : Hid (kb.length ≤ 1000000) := by show _ ≤ _; omega
      have hAd : Hid (Below wr.heap.size wr (wr.alloc (.cells #[.int .u8 (b : Nat)] 5)).drew) := ((Below.refl _ wr).alloc (Nat.le_refl _) _).drew
      have hEA := Lib.hid (hE.out.below HS.out hAd.out)
      have hnews : Hid (∀ j u, (bV [b])[j]? = some u → (wr.alloc (.cells #[.int .u8 (b : Nat)] 5)).drew.cell? ((⟨wr.heap.size, 0, none⟩ : Addr).add j) = some u) := news_alloc wr [.int .u8 (b : Nat)] 5
      have cd0 := hE.out.xd
      have cdA : ∀ o, (wr.alloc o).cell? ⟨bd, 0, none⟩ = some (eachF bf bd) := fun o => (hE.out.below HS.out ((Below.refl _ wr).alloc (Nat.le_refl _) o)).xd
      unfold eachF at cd0 cdA
      clear hTV hTI hIN hOk hnext hkn hKd hl hb1 hx1 hdr hdr1 hdr2 hL hkb2
      go_wp2_with fail
      go_region_law (first
        | (refine step_append_way (v := .slice a2 kb.length cap2) rfl (.tmp 34) (.tmp 36) rfl rfl hEA.out.way ⟨wr.heap.size, 0, none⟩ 1 1 [b] rfl rfl hnews.out hkbL.out h1m.out ?_; intro v8 w8 bo8 cap8 HW8 HG8 HM8 HK8
           obtain ⟨q1, q2⟩ := hEA.out.app HS.out HW8.out HG8.out HM8.out
           rw [← HK2.out] at q1
           have E8 := Lib.hid q1
           have cd8 := q1.xd
           unfold eachF at cd8
           clear q1 q2)
        | (go_simp; go_at_call 62; refine (hRec.out _ _ _ _ E8.out).mono ?_; rintro e w9 ⟨rfl, F9, q9, y9⟩
           have E9 := Lib.hid (hEA.out.back HS.out HG8.out HM8.out HK8.out (by rw [← HK2.out]; exact q9) y9)
           clear q9 y9))
      all_goals
        go_wp2_with (go_at_call 47; refine (hN2.out _ E9.out.1.since).mono ?_; rintro e w10 ⟨rfl, z1⟩; have E10 := Lib.hid (E9.out.1.below HS.out z1); have Y10 := Lib.hid (hY.out.trans ((Ext.of_below hAd.out).trans (E9.out.2.trans (Ext.of_below z1)))); clear z1)
        go_roundw
        case rel => exact ⟨F9, _, r', A ++ [(b, .pointer (some ⟨kn, 0, none⟩))], lr', rfl, rfl, E10, Y10, hK2, hL2, hdr3⟩
        case measure =>
          cases lr' with
          | nil => simp [hdK, hdB, intOf]; omega
          | cons y l => have := hms.out y (by simp); simp [hdK, hdB, intOf]; split <;> omega
end Go.Proofs.YtfhdiimcimafkaaGreatDoor
/- canon.each at any tree, for each of its callbacks. -/
namespace Go.Proofs.YtfhdiimcimafkaaGreatDoor
open Go.RowKit
theorem eachAny_cn {S : (Nat → Prop) → PL → World → Prop} {w : World} {m : Nat} (hS : CbT S w.heap.size) (hf : CbTree S w (48) m) : ∀ N, EachAsk S w (.func (.func 48) #[] #[.pointer (some ⟨m, 0, none⟩)]) N
  | 0 => fun t w0 Q p hd hQ hT hN hO => by
    cases t with
    | nil => exact hN.elim
    | kid => exact hN.elim
    | node => simp only [tdep] at hd; omega
  | N + 1 => fun t w0 Q p hd hQ hT hN hO X v k bo cap F L bf bd hE hk8 hway htot => by
    cases t with
    | nil => exact hN.elim
    | kid => exact hN.elim
    | node bs val has leaf ks =>
      simp only [tdep] at hd
      simp only [tway] at hway
      obtain ⟨n, kk, rfl, h1, h2, h3, _⟩ := nodew_of hQ hT hO
      obtain ⟨o1, o2, o3, _⟩ := hO
      refine each1_cn hS hf N (eachAny_cn hS hf N) hQ h1 h2 h3 (by omega) o1 o2 o3 hE hk8 hway (T := L ++ pre k (tl (.node bs val has leaf ks))) ?_ (by rw [List.length_append, pre_length]; exact htot)
      simp only [tl, pre_append, pre_pre, List.append_assoc]
      congr 2
      cases has <;> simp [pre]
theorem eachTop_cn {S : (Nat → Prop) → PL → World → Prop} {w w0 X : World} {m : Nat} (hS : CbT S w.heap.size) (hf : CbTree S w (48) m) {t : Tr} {Q : List NP} {p : Option Addr} (hQ : StoreP NoB w0 w Q) (hT : TreeV Q t (.pointer p)) (hO : TOk t) (hb : Below w.heap.size w X) {F : Nat → Prop} (hs : S F [] X) (hway : tway t ≤ 900000) (htot : (tl t).length ≤ 2000) :
    Calls Tryz.prog 34 #[.pointer p, .func (.func 48) #[] #[.pointer (some ⟨m, 0, none⟩)]] X fun e X' => e = .returned (.tuple #[]) ∧ ∃ F', S F' (tl t) X' ∧ Mod F X X' ∧ ∀ j, F' j → F j ∨ X.heap.size ≤ j := by
  obtain ⟨w1, hw1⟩ : ∃ w1, w1 = X.alloc (.cells #[.func (.func 48) #[] #[.pointer (some ⟨m, 0, none⟩)]] 84) := ⟨_, rfl⟩
  have hbx : w1.heap[X.heap.size]? = some (.cells [.func (.func 48) #[] #[.pointer (some ⟨m, 0, none⟩)]].toArray 84 (0, 0)) := by rw [hw1]; exact heap_alloc_new X _
  have hA1 : Below X.heap.size X w1 := by rw [hw1]; exact (Below.refl _ X).alloc (Nat.le_refl _) _
  have hs1 : w1.heap.size = X.heap.size + 1 := by rw [hw1, World.size_alloc]
  have hE : Hid (∀ t', Calls Tryz.prog 62 #[.slice none 0 0, .pointer p, .pointer (some ⟨X.heap.size, 0, none⟩), .pointer (some ⟨w1.heap.size, 0, none⟩)] (w1.alloc (.cells #[eachF X.heap.size w1.heap.size] t')) fun e X' => e = .returned (.tuple #[]) ∧ ∃ F', S F' (tl t) X' ∧ Mod F X X' ∧ ∀ j, F' j → F j ∨ X.heap.size ≤ j) := fun t' => by
    have hA2 : Below w1.heap.size w1 (w1.alloc (.cells #[eachF X.heap.size w1.heap.size] t')) := (Below.refl _ w1).alloc (Nat.le_refl _) _
    have hA : Below X.heap.size X (w1.alloc (.cells #[eachF X.heap.size w1.heap.size] t')) := hA1.trans (hA2.mono hA1.size)
    have hF : ∀ b, X.heap.size ≤ b → ¬ F b := fun b h q => by have := hS.high F [] X hs b q; omega
    rcases hT with ⟨rfl, e⟩ | ⟨hn, hT⟩
    · obtain rfl : p = none := by simpa using e
      refine (each1_nil _ _ _).mono ?_
      rintro e w' ⟨rfl, rfl⟩
      exact ⟨rfl, F, hS.keep F [] X _ hs fun j hj => hA.block j (hS.high F [] X hs j hj), Mod.of_below hA, fun j hj => Or.inl hj⟩
    · have hEA : EaS S w X.heap.size w1.heap.size (.func (.func 48) #[] #[.pointer (some ⟨m, 0, none⟩)]) (eachF X.heap.size w1.heap.size) (.slice none 0 0) [] none 0 F [] (w1.alloc (.cells #[eachF X.heap.size w1.heap.size] t')) := by
        refine ⟨hb.trans (hA.mono hb.size), WayAt.nil _, fun g e => (by cases e), hS.keep F [] X _ hs fun j hj => hA.block j (hS.high F [] X hs j hj), fun g e => (by cases e), ?_, ?_, ⟨hF _ (Nat.le_refl _), by simp⟩, ⟨hF _ (by omega), by simp⟩⟩
        · rw [cell_of_blk ((hA2.block _ (Array.getElem?_eq_some_iff.1 hbx).1).trans hbx)]; rfl
        · rw [cell_of_blk (c := [eachF X.heap.size w1.heap.size]) (t := t') (heap_alloc_new w1 _)]; rfl
      refine (eachAny_cn hS hf (tdep t) t (Nat.le_refl _) hQ hT hn hO hEA (by simp) (by simpa using hway) (by simpa using htot)).mono ?_
      rintro e X' ⟨rfl, F', q, q1, q2⟩
      have q3 := q.st
      simp only [List.nil_append, pre_none] at q3
      refine ⟨rfl, F', q3, (Mod.of_below hA).then q1 fun i _ r => ?_, fun j hj => ?_⟩
      · rcases r with r | r
        · cases r
        · exact r
      · rcases q2 j hj with r | r
        · exact Or.inl r
        · exact Or.inr (Nat.le_trans hA.size r)
  unfold eachF at hE
  generalize tl t = T at *
  clear hQ hb hT hO hbx hA1 hs1 hway htot hs hS hf
  go_enter Tryz.func34, Tryz.ntmps34
  go_upto_region 1 with fail
  rw [← hw1]
  clear hw1
  go_wp2_with (go_at_call 62; refine (hE.out _).mono ?_; rintro e w' ⟨rfl, q⟩; have q := Lib.hid q)
  go_end0
  exact ⟨rfl, q.out⟩

theorem eachAny_ls {S : (Nat → Prop) → PL → World → Prop} {w : World} {m : Nat} (hS : CbT S w.heap.size) (hf : CbTree S w (49) m) : ∀ N, EachAsk S w (.func (.func 49) #[] #[.pointer (some ⟨m, 0, none⟩)]) N
  | 0 => fun t w0 Q p hd hQ hT hN hO => by
    cases t with
    | nil => exact hN.elim
    | kid => exact hN.elim
    | node => simp only [tdep] at hd; omega
  | N + 1 => fun t w0 Q p hd hQ hT hN hO X v k bo cap F L bf bd hE hk8 hway htot => by
    cases t with
    | nil => exact hN.elim
    | kid => exact hN.elim
    | node bs val has leaf ks =>
      simp only [tdep] at hd
      simp only [tway] at hway
      obtain ⟨n, kk, rfl, h1, h2, h3, _⟩ := nodew_of hQ hT hO
      obtain ⟨o1, o2, o3, _⟩ := hO
      refine each1_ls hS hf N (eachAny_ls hS hf N) hQ h1 h2 h3 (by omega) o1 o2 o3 hE hk8 hway (T := L ++ pre k (tl (.node bs val has leaf ks))) ?_ (by rw [List.length_append, pre_length]; exact htot)
      simp only [tl, pre_append, pre_pre, List.append_assoc]
      congr 2
      cases has <;> simp [pre]
theorem eachTop_ls {S : (Nat → Prop) → PL → World → Prop} {w w0 X : World} {m : Nat} (hS : CbT S w.heap.size) (hf : CbTree S w (49) m) {t : Tr} {Q : List NP} {p : Option Addr} (hQ : StoreP NoB w0 w Q) (hT : TreeV Q t (.pointer p)) (hO : TOk t) (hb : Below w.heap.size w X) {F : Nat → Prop} (hs : S F [] X) (hway : tway t ≤ 900000) (htot : (tl t).length ≤ 2000) :
    Calls Tryz.prog 34 #[.pointer p, .func (.func 49) #[] #[.pointer (some ⟨m, 0, none⟩)]] X fun e X' => e = .returned (.tuple #[]) ∧ ∃ F', S F' (tl t) X' ∧ Mod F X X' ∧ ∀ j, F' j → F j ∨ X.heap.size ≤ j := by
  obtain ⟨w1, hw1⟩ : ∃ w1, w1 = X.alloc (.cells #[.func (.func 49) #[] #[.pointer (some ⟨m, 0, none⟩)]] 84) := ⟨_, rfl⟩
  have hbx : w1.heap[X.heap.size]? = some (.cells [.func (.func 49) #[] #[.pointer (some ⟨m, 0, none⟩)]].toArray 84 (0, 0)) := by rw [hw1]; exact heap_alloc_new X _
  have hA1 : Below X.heap.size X w1 := by rw [hw1]; exact (Below.refl _ X).alloc (Nat.le_refl _) _
  have hs1 : w1.heap.size = X.heap.size + 1 := by rw [hw1, World.size_alloc]
  have hE : Hid (∀ t', Calls Tryz.prog 62 #[.slice none 0 0, .pointer p, .pointer (some ⟨X.heap.size, 0, none⟩), .pointer (some ⟨w1.heap.size, 0, none⟩)] (w1.alloc (.cells #[eachF X.heap.size w1.heap.size] t')) fun e X' => e = .returned (.tuple #[]) ∧ ∃ F', S F' (tl t) X' ∧ Mod F X X' ∧ ∀ j, F' j → F j ∨ X.heap.size ≤ j) := fun t' => by
    have hA2 : Below w1.heap.size w1 (w1.alloc (.cells #[eachF X.heap.size w1.heap.size] t')) := (Below.refl _ w1).alloc (Nat.le_refl _) _
    have hA : Below X.heap.size X (w1.alloc (.cells #[eachF X.heap.size w1.heap.size] t')) := hA1.trans (hA2.mono hA1.size)
    have hF : ∀ b, X.heap.size ≤ b → ¬ F b := fun b h q => by have := hS.high F [] X hs b q; omega
    rcases hT with ⟨rfl, e⟩ | ⟨hn, hT⟩
    · obtain rfl : p = none := by simpa using e
      refine (each1_nil _ _ _).mono ?_
      rintro e w' ⟨rfl, rfl⟩
      exact ⟨rfl, F, hS.keep F [] X _ hs fun j hj => hA.block j (hS.high F [] X hs j hj), Mod.of_below hA, fun j hj => Or.inl hj⟩
    · have hEA : EaS S w X.heap.size w1.heap.size (.func (.func 49) #[] #[.pointer (some ⟨m, 0, none⟩)]) (eachF X.heap.size w1.heap.size) (.slice none 0 0) [] none 0 F [] (w1.alloc (.cells #[eachF X.heap.size w1.heap.size] t')) := by
        refine ⟨hb.trans (hA.mono hb.size), WayAt.nil _, fun g e => (by cases e), hS.keep F [] X _ hs fun j hj => hA.block j (hS.high F [] X hs j hj), fun g e => (by cases e), ?_, ?_, ⟨hF _ (Nat.le_refl _), by simp⟩, ⟨hF _ (by omega), by simp⟩⟩
        · rw [cell_of_blk ((hA2.block _ (Array.getElem?_eq_some_iff.1 hbx).1).trans hbx)]; rfl
        · rw [cell_of_blk (c := [eachF X.heap.size w1.heap.size]) (t := t') (heap_alloc_new w1 _)]; rfl
      refine (eachAny_ls hS hf (tdep t) t (Nat.le_refl _) hQ hT hn hO hEA (by simp) (by simpa using hway) (by simpa using htot)).mono ?_
      rintro e X' ⟨rfl, F', q, q1, q2⟩
      have q3 := q.st
      simp only [List.nil_append, pre_none] at q3
      refine ⟨rfl, F', q3, (Mod.of_below hA).then q1 fun i _ r => ?_, fun j hj => ?_⟩
      · rcases r with r | r
        · cases r
        · exact r
      · rcases q2 j hj with r | r
        · exact Or.inl r
        · exact Or.inr (Nat.le_trans hA.size r)
  unfold eachF at hE
  generalize tl t = T at *
  clear hQ hb hT hO hbx hA1 hs1 hway htot hs hS hf
  go_enter Tryz.func34, Tryz.ntmps34
  go_upto_region 1 with fail
  rw [← hw1]
  clear hw1
  go_wp2_with (go_at_call 62; refine (hE.out _).mono ?_; rintro e w' ⟨rfl, q⟩; have q := Lib.hid q)
  go_end0
  exact ⟨rfl, q.out⟩
end Go.Proofs.YtfhdiimcimafkaaGreatDoor
/- canon.List and canon.Count. -/
namespace Go.Proofs.YtfhdiimcimafkaaGreatDoor
open Go.RowKit
/-! Count. -/
def SCnt (lo m : Nat) (F : Nat → Prop) (L : PL) (w : World) : Prop := w.heap[m]? = some (.cells [.int .i64 (L.length : Nat)].toArray 3 (0, 0)) ∧ (F = fun j => j = m) ∧ lo ≤ m
theorem scn_cb (lo m : Nat) : CbT (SCnt lo m) lo := by
  refine ⟨fun F L w w' ⟨h1, h2, h3⟩ hk => ⟨(hk m (by rw [h2])).trans h1, h2, h3⟩, fun F L w ⟨h1, h2, h3⟩ j hj => ?_, fun F L w ⟨h1, h2, h3⟩ j hj => ?_⟩
  · subst h2; have hj : j = m := hj; rw [hj]; exact h3
  · subst h2; have hj : j = m := hj; rw [hj]; exact (Array.getElem?_eq_some_iff.1 h1).1
theorem count_cbt (w : World) (m : Nat) : CbTree (SCnt w.heap.size m) w (48) m := fun F L X n bs val has leaf mm kk a nn c key ⟨h1, h2, h3⟩ hN hK hn hv0 hv1 hb hL => by
  have hV := Lib.hid (hN.val X (Below.refl _ _))
  have hc : X.cell? ⟨m, 0, none⟩ = some (.int .i64 (L.length : Nat)) := by rw [cell_of_blk h1]; rfl
  have hf := frozen_of_blk h1 0
  have hw : IntKind.i64.wrap ((L.length : Int) + 1) = (L.length : Int) + 1 := IntWalk.i64_in _ (by omega)
  have hE : Hid (∃ F', SCnt w.heap.size m F' (L ++ [(key, val)]) (X.setCell ⟨m, 0, none⟩ (.int .i64 ((L.length : Int) + 1))) ∧ Mod F X (X.setCell ⟨m, 0, none⟩ (.int .i64 ((L.length : Int) + 1))) ∧ ∀ j, F' j → F j ∨ X.heap.size ≤ j) := by
    refine ⟨F, ⟨?_, h2, h3⟩, (Mod.refl _ X).setCell ⟨m, 0, none⟩ _ (fun _ => by rw [h2]), fun j hj => Or.inl hj⟩
    rw [setCell_list _ _ _ _ _ _ h1, setRow_heap _ _ _ _ _ _ h1]
    simp
  have hE0 : Hid (∃ F', SCnt w.heap.size m F' L X ∧ Mod F X X ∧ ∀ j, F' j → F j ∨ X.heap.size ≤ j) := ⟨F, ⟨h1, h2, h3⟩, Mod.refl _ _, fun j hj => Or.inl hj⟩
  generalize L.length = ll at *
  clear h1 h2 h3 hN hK hb
  cases has
  · go_enter Tryz.func48, Tryz.ntmps48
    go_wp2_with (go_at_call 37; refine hV.out.mono ?_; rintro e w' ⟨rfl, rfl⟩)
    go_end0
    exact ⟨rfl, hE0.out⟩
  · go_enter Tryz.func48, Tryz.ntmps48
    go_wp2_with (go_at_call 37; refine hV.out.mono ?_; rintro e w' ⟨rfl, rfl⟩)
    go_end0
    exact ⟨rfl, hE.out⟩
set_option maxHeartbeats 1000000 in
theorem count_any {w0 w : World} {Q : List NP} {t : Tr} {p : Option Addr} (hQ : StoreP NoB w0 w Q) (hT : TreeV Q t (.pointer p)) (hO : TOk t) (hway : tway t ≤ 900000) (htot : (tl t).length ≤ 2000) : Calls Tryz.prog 18 #[.pointer p] w (belowPost (.int .i64 ((tl t).length : Nat)) w) := by
  have hA : Below w.heap.size w (w.alloc (.cells #[.int .i64 0] 3)) := (Below.refl _ w).alloc (Nat.le_refl _) _
  have hE := Lib.hid (eachTop_cn (scn_cb w.heap.size w.heap.size) (count_cbt w w.heap.size) hQ hT hO hA (F := fun j => j = w.heap.size) ⟨heap_alloc_new w _, rfl, Nat.le_refl _⟩ hway htot)
  have HA := Lib.hid hA
  generalize tl t = T at *
  clear hQ hT hO hA
  go_enter Tryz.func18, Tryz.ntmps18
  go_wp2_with (go_at_call 34; refine hE.out.mono ?_; rintro e w2 ⟨rfl, F2, ⟨z1, z2, z3⟩, m2, _⟩
               have c2 : w2.cell? ⟨w.heap.size, 0, none⟩ = some (.int .i64 (T.length : Nat)) := (by rw [cell_of_blk z1]; rfl)
               have B2 := Lib.hid (HA.out.trans (m2.belowLo (fun j hj => (by have hj : j = w.heap.size := hj; rw [hj]; exact Nat.le_refl _)) HA.out.size))
               clear z1 z2 z3 m2)
  go_ret
  exact ⟨rfl, B2.out⟩
/-! List. -/
/-- what List's callback holds -/
structure SLs (lo bl : Nat) (F : Nat → Prop) (L : PL) (w : World) (v : Value) (es : EL) (bo : Option Nat) : Prop where
  var : w.heap[bl]? = some (.cells [v].toArray 31 (0, 0))
  own : OwnS 2 apT w v L.length (flat es) bo
  ents : Ents w es L
  fl : F bl
  fo : ∀ g, bo = some g → F g ∧ g ≠ bl
  fe : ∀ i (h : i < es.length) (p : Addr) n c, (es[i]).1 = .slice (some p) n c → F p.block ∧ p.block ≠ bl ∧ bo ≠ some p.block
  low : ∀ j, F j → lo ≤ j
  high : ∀ j, F j → j < w.heap.size
def SLst (lo bl : Nat) (F : Nat → Prop) (L : PL) (w : World) : Prop := ∃ v es bo, SLs lo bl F L w v es bo
theorem sls_cb (lo bl : Nat) : CbT (SLst lo bl) lo := by
  refine ⟨fun F L w w' ⟨v, es, bo, h⟩ hk => ?_, fun F L w ⟨v, es, bo, h⟩ j hj => h.low j hj, fun F L w ⟨v, es, bo, h⟩ j hj => h.high j hj⟩
  refine ⟨v, es, bo, (hk bl h.fl).trans h.var, h.own.keep fun g e => hk g (h.fo g e).1, ⟨h.ents.1, fun i h1 h2 => ?_⟩, h.fl, h.fo, h.fe, h.low, fun j hj => ?_⟩
  · obtain ⟨⟨a, n, c, e, q⟩, r⟩ := h.ents.2 i h1 h2
    refine ⟨⟨a, n, c, e, q.len, ⟨q.at_.1, fun j hj => ?_⟩, q.cap, q.capm, q.nil⟩, r⟩
    obtain ⟨p, ep, z1, z2⟩ := q.at_.2 j hj
    subst ep
    have hF := (h.fe i h1 p n c e).1
    have e1 := hk p.block hF
    refine ⟨p, rfl, ?_, ?_⟩
    · rw [add_block] at z1 ⊢
      have : w'.heap[p.block]? = some _ := e1.trans (Array.getElem?_eq_getElem z1)
      exact (Array.getElem?_eq_some_iff.1 this).1
    · rw [← z2]
      unfold World.cell?
      rw [add_block, e1]
  · have e1 := hk j hj
    have : w'.heap[j]? = some _ := e1.trans (Array.getElem?_eq_getElem (h.high j hj))
    exact (Array.getElem?_eq_some_iff.1 this).1
/-- one more -/
theorem SLs.step {lo bl : Nat} {F : Nat → Prop} {L : PL} {w wc w1 w2 w3 : World} {v v2 : Value} {es : EL} {bo bo2 : Option Nat} (h : SLs lo bl F L w v es bo) (hlo : lo ≤ w.heap.size) {x : List Nat} {y : Int} {a6 : Option Addr} {n6 c6 : Nat}
    (hb1 : Below w.heap.size w wc) (hs : Sl wc a6 n6 c6 x) (hn : ∀ p : Addr, a6 = some p → w.heap.size ≤ p.block ∧ p.block < wc.heap.size) (hy : 0 ≤ y ∧ y < 18446744073709551616) (hb2 : Below wc.heap.size wc w1)
    (ho : OwnS 2 apT w2 v2 (L.length + 1) (flat es ++ [.slice a6 n6 c6, .int .u64 y]) bo2) (hm : Mod (fun j => bo = some j) w1 w2) (hn2 : NewOr w1 bo bo2) (h3 : w3 = w2.setCell ⟨bl, 0, none⟩ v2) :
    ∃ F', SLst lo bl F' (L ++ [(x, y)]) w3 ∧ Mod F w w3 ∧ ∀ j, F' j → F j ∨ w.heap.size ≤ j := by
  have s1 := hb1.size
  have s2 := hb2.size
  have s3 := hm.size
  have hbl := h.high bl h.fl
  have hB : Below w.heap.size w w1 := hb1.trans (hb2.mono s1)
  have hv : w2.heap[bl]? = some (.cells [v].toArray 31 (0, 0)) := (hm.same bl (by omega) (fun e => (h.fo bl e).2 rfl)).trans ((hB.block bl hbl).trans h.var)
  have hM2 : Mod F w w2 := (Mod.of_below hB).trans (hm.mono fun j _ e => (h.fo j e).1)
  have hM3 : Mod F w w3 := by rw [h3]; exact hM2.setCell ⟨bl, 0, none⟩ _ (fun _ => h.fl)
  have s4 : w3.heap.size = w2.heap.size := by rw [h3]; simp [World.setCell]
  have hbo2 : ∀ g, bo2 = some g → (F g ∨ w.heap.size ≤ g) ∧ g ≠ bl ∧ g < w2.heap.size := fun g e => by
    subst e
    refine ⟨?_, ?_, ho.lt⟩
    · rcases hn2 with e | ⟨g', e, hg⟩
      · exact Or.inl (h.fo g e.symm).1
      · cases e; exact Or.inr (by omega)
    · rcases hn2 with e | ⟨g', e, hg⟩
      · exact (h.fo g e.symm).2
      · cases e; omega
  have hneq : ∀ p : Addr, a6 = some p → bo2 ≠ some p.block := fun p e e2 => by
    have h1 := hn p e
    rcases hn2 with e3 | ⟨g', e3, hg⟩
    · rw [e3] at e2
      have := h.high _ (h.fo _ e2).1
      omega
    · rw [e3] at e2
      cases e2
      omega
  have hold : ∀ i (hi : i < es.length) (p : Addr) n c, (es[i]).1 = .slice (some p) n c → bo2 ≠ some p.block := fun i hi p n c e e2 => by
    have h1 := h.fe i hi p n c e
    rcases hn2 with e3 | ⟨g', e3, hg⟩
    · exact h1.2.2 (e3 ▸ e2)
    · rw [e3] at e2
      cases e2
      have := h.high _ h1.1
      omega
  refine ⟨fun j => F j ∨ (w.heap.size ≤ j ∧ j < w3.heap.size), ⟨v2, es ++ [(.slice a6 n6 c6, y)], bo2, ?_, ?_, ?_, Or.inl h.fl, ?_, ?_, ?_, ?_⟩, hM3, fun j hj => by rcases hj with e | e; exact Or.inl e; exact Or.inr e.1⟩
  · rw [h3, setCell_list _ _ _ _ _ _ hv, setRow_heap _ _ _ _ _ _ hv]; rfl
  · rw [flat_append, List.length_append]
    rw [h3]
    refine OwnS.keep ho fun g e => Below.heap_setCell _ _ _ _ (hbo2 g e).2.1
  · have hm3 : Mod (fun j => bo = some j ∨ j = bl) w1 w3 := by rw [h3]; exact (hm.mono (fun j _ e => Or.inl e)).setCell ⟨bl, 0, none⟩ _ (fun _ => Or.inr rfl)
    have hE : Ents w3 es L := ents_keep (h.ents.below hB) hm3 (fun i hi p n c e t => by
      have q := h.fe i hi p n c e
      rcases t with t | t
      · exact q.2.2 t
      · exact q.2.1 t)
    have hs1 := hs.below hb2
    refine hE.snoc ⟨⟨_, _, _, rfl, hs1.len, bytes_keep hs1.at_ hm3 (fun p e t => ?_), hs1.cap, hs1.capm, hs1.nil⟩, rfl, hy⟩
    have q := hn p e
    rcases t with t | t
    · have := h.high _ (h.fo _ t).1; omega
    · omega
  · intro g e
    have q := hbo2 g e
    exact ⟨by rcases q.1 with r | r; exact Or.inl r; exact Or.inr ⟨r, by omega⟩, q.2.1⟩
  · intro i hi p n c e
    by_cases hi2 : i < es.length
    · rw [List.getElem_append_left hi2] at e
      have q := h.fe i hi2 p n c e
      exact ⟨Or.inl q.1, q.2.1, hold i hi2 p n c e⟩
    · have ei : i = es.length := by simp at hi; omega
      subst ei
      have e' : (Value.slice a6 n6 c6) = .slice (some p) n c := by simpa using e
      injection e' with e'
      have q := hn p e'
      exact ⟨Or.inr ⟨q.1, by omega⟩, by omega, hneq p e'⟩
  · intro j hj
    rcases hj with e | e
    · exact h.low j e
    · omega
  · intro j hj
    rcases hj with e | e
    · have := h.high j e; omega
    · exact e.2
set_option maxHeartbeats 4000000 in
set_option maxRecDepth 100000 in
theorem list_cbt (wN : World) (bl : Nat) : CbTree (SLst wN.heap.size bl) wN (49) bl := fun F L w n bs y has leaf mm kk ka kn kc x ⟨v, es, bo, h⟩ hN hK hkn hy hy2 hb hL => by
  have hV := Lib.hid (hN.val w (Below.refl _ _))
  have hE0 : Hid (∃ F', SLst wN.heap.size bl F' L w ∧ Mod F w w ∧ ∀ j, F' j → F j ∨ w.heap.size ≤ j) := ⟨F, ⟨v, es, bo, h⟩, Mod.refl _ _, fun j hj => Or.inl hj⟩
  obtain ⟨va, vc, hv, _⟩ := h.own.len
  subst hv
  have c1 : w.cell? ⟨bl, 0, none⟩ = some (.slice va L.length vc) := by rw [cell_of_blk h.var]; rfl
  have f1 := frozen_of_blk h.var 0
  have hcl : Hid (Calls Tryz.prog 38 #[.slice ka kn kc] w.drew fun e w' => ∃ a6 c6, e = .returned (.slice a6 kn c6) ∧ Sl w' a6 kn c6 x ∧ Below w.heap.size w w' ∧ ∀ p : Addr, a6 = some p → w.heap.size ≤ p.block ∧ p.block < w'.heap.size) :=
    (clone_new (hK.below (Below.refl _ _).drew) (by omega)).mono fun e w' ⟨a6, c6, e1, e2, e3, e4⟩ => ⟨a6, c6, e1, e2, (Below.refl _ w).drew.trans e3, e4⟩
  have H := Lib.hid h
  have hvar := Lib.hid h.var
  have hbl := Lib.hid (h.high bl h.fl)
  have hlo := Lib.hid hb.size
  have hb1 : Hid (L.length + 1 ≤ maxLen) := by show _ ≤ _; unfold maxLen; omega
  have hb2 : Hid ((L.length + 1) * 32 ≤ 140737488355328) := by show _ ≤ _; omega
  have hfo : Hid (∀ g, bo = some g → g ≠ bl) := fun g e => (h.fo g e).2
  clear h hb hK hN
  cases has with
  | false =>
    go_enter Tryz.func49, Tryz.ntmps49
    go_wp2_with (go_at_call 37; refine hV.out.mono ?_; rintro e w' ⟨rfl, rfl⟩)
    go_end0
    exact ⟨rfl, hE0.out⟩
  | true =>
  clear hE0
  go_enter Tryz.func49, Tryz.ntmps49
  go_wp2_with (go_at_call 37; refine hV.out.mono ?_; rintro e w' ⟨rfl, rfl⟩)
  go_region_law (first
    | (refine step_append_s rfl (.tmp 13) (.tmp 18) 31 rfl apT _ 2 32 Tryz.underlying31 apInfo rfl (by omega) (.slice va L.length vc) rfl L.length (flat es) bo (ho1.out _) ⟨w1.heap.size, 0, none⟩ 1 1 [.slice a6 kn c6, .int .u64 y] rfl rfl (hnw.out) (h1.out) hb1.out hb2.out ?_; intro v2 w2 bo2 HO HM HN; obtain ⟨a2, c2, hv2, _⟩ := HO.out.len; subst hv2; have hh := Lib.hid ((HM.out.same bl (by rw [World.size_alloc]; have := hbl.out; have := B1.out.size; omega) (fun e => hfo.out bl e rfl)).trans ((Below.heap_alloc _ _ _ (by have := hbl.out; have := B1.out.size; omega)).trans hv1.out)); have z1 : w2.cell? ⟨bl, 0, none⟩ = some (.slice va L.length vc) := by rw [cell_of_blk hh.out]; rfl
       have z2 := frozen_of_blk hh.out 0)
    | (go_simp; go_at_call 38; refine hcl.out.mono ?_; rintro e w1 ⟨a6, c6, rfl, s6, b6, n6⟩; have S6 := Lib.hid s6; have B1 := Lib.hid b6; have N6 := Lib.hid n6; have hv1 := Lib.hid ((b6.block bl hbl.out).trans hvar.out); have d1 : w1.cell? ⟨bl, 0, none⟩ = some (.slice va L.length vc) := by rw [cell_of_blk hv1.out]; rfl
       have ho1 : Hid (∀ o, OwnS 2 apT (w1.alloc o) (.slice va L.length vc) L.length (flat es) bo) := fun o => (H.out.own.below b6).below ((Below.refl _ w1).alloc (Nat.le_refl _) o)
       have d2 : ∀ o, (w1.alloc o).cell? ⟨bl, 0, none⟩ = some (.slice va L.length vc) := fun o => (((Below.refl _ w1).alloc (Nat.le_refl _) o).cell (p := ⟨bl, 0, none⟩) (cell_lt d1)).trans d1
       have hnw := Lib.hid (pair_news w1 (.slice a6 kn c6) y apT)
       have h1 := Lib.hid (oneP (a := a6) (n := kn) (c := c6) (y := y))
       clear s6 b6 n6))
  all_goals
    have hst := Lib.hid (H.out.step hlo.out B1.out S6.out N6.out ⟨hy, hy2⟩ ((Below.refl _ w1).alloc (Nat.le_refl _) _) HO.out HM.out HN.out rfl)
    (try simp only [Exit.then, Exit.inBlock])
    go_end0
    exact ⟨rfl, hst.out⟩
set_option maxHeartbeats 1000000 in
theorem list_any {w0 w : World} {Q : List NP} {t : Tr} {p : Option Addr} (hQ : StoreP NoB w0 w Q) (hT : TreeV Q t (.pointer p)) (hO : TOk t) (hway : tway t ≤ 900000) (htot : (tl t).length ≤ 2000) : Calls Tryz.prog 19 #[.pointer p] w (prsPost (tl t) w) := by
  obtain ⟨w4, hw4⟩ : ∃ w4, w4 = w.alloc (.cells #[.slice none 0 0] 31) := ⟨_, rfl⟩
  have hb4 : Below w.heap.size w w4 := by rw [hw4]; exact (Below.refl _ w).alloc (Nat.le_refl _) _
  have hv4 : w4.heap[w.heap.size]? = some (.cells [.slice none 0 0].toArray 31 (0, 0)) := by rw [hw4]; exact heap_alloc_new w _
  have hs4 : w4.heap.size = w.heap.size + 1 := by rw [hw4, World.size_alloc]
  have hS0 : SLst w.heap.size w.heap.size (fun j => j = w.heap.size) [] w4 :=
    ⟨_, [], none, hv4, OwnS.nil _ _ _, ents_nil _, rfl, (fun g e => by cases e), (fun i h => by simp at h), (fun j hj => by rw [hj]; exact Nat.le_refl _), (fun j hj => by rw [hj, hs4]; exact Nat.lt_succ_self _)⟩
  have hEa := Lib.hid (eachTop_ls (sls_cb w.heap.size w.heap.size) (list_cbt w w.heap.size) hQ hT hO hb4 hS0 hway htot)
  obtain ⟨T, hTe⟩ : ∃ T, T = tl t := ⟨_, rfl⟩
  rw [← hTe] at hEa ⊢
  have HB4 := Lib.hid hb4
  have hfin : Hid (∀ F w5, Mod (fun j => j = w.heap.size) w4 w5 → SLst w.heap.size w.heap.size F T w5 → ∃ a c, w5.cell? ⟨w.heap.size, 0, none⟩ = some (.slice a T.length c) ∧ prsPost T w (.returned (.slice a T.length c)) w5) := fun F w5 hm ⟨v, es, bo, h⟩ => by
    obtain ⟨a, c, rfl, hp⟩ := prs_of_own h.own h.ents
    refine ⟨a, c, by rw [cell_of_blk h.var]; rfl, a, c, rfl, hp, HB4.out.trans (hm.belowLo (fun j hj => ?_) HB4.out.size)⟩
    have hj : j = w.heap.size := hj
    rw [hj]; exact Nat.le_refl _
  clear hQ hT hO hTe hb4 hS0 hv4 hs4 hway htot
  go_enter Tryz.func19, Tryz.ntmps19
  go_upto_region 2 with fail
  rw [← hw4]
  clear hw4
  go_wp2_with (go_at_call 34; refine hEa.out.mono ?_; rintro e w5 ⟨rfl, F5, z2, z1, _⟩; obtain ⟨a5, c5, y1, y2⟩ := hfin.out F5 w5 z1 z2; have Y := Lib.hid y2; clear z1 z2 y2)
  go_ret
  exact Y.out
end Go.Proofs.YtfhdiimcimafkaaGreatDoor
/- Any canonical tree's node laid. -/
namespace Go.Proofs.YtfhdiimcimafkaaGreatDoor
open Go.RowKit
/-- bytes that are under way -/
structure LayI (bo0 : Option Nat) (X : World) (zs : List Nat) (v : Value) (M : Nat) (bo : Option Nat) (wr : World) : Prop where
  own : OwnS 1 u8T wr v M (bV zs) bo
  len : M = zs.length
  mod : Mod (fun j => bo0 = some j) X wr
  new : NewOr X bo0 bo
theorem own_m {w : World} {v : Value} {M : Nat} {zs : List Nat} {bo : Option Nat} (h : OwnS 1 u8T w v M (bV zs) bo) : M = zs.length := by
  have e : (bV zs).length = zs.length := by simp [bV]
  rcases h with ⟨_, h0, h1, _⟩ | ⟨g, cap, cur, _, _, _, _, _, _, _, h1⟩
  · rw [h0, ← e, h1]; rfl
  · omega
theorem newOr_lo {X : World} {bo bo' : Option Nat} {lo : Nat} (n : NewOr X bo bo') (hb : ∀ g, bo = some g → lo ≤ g) (hs : lo ≤ X.heap.size) : ∀ g, bo' = some g → lo ≤ g := fun g e => by
  rcases n with e2 | ⟨g', e2, hg⟩
  · rw [e2] at e; exact hb g e
  · rw [e2] at e; cases e; omega
section
variable {bo0 bo bo' : Option Nat} {X wr X2 w5 : World} {zs ys : List Nat} {v v' : Value} {M m : Nat}
theorem LayI.start (h : OwnS 1 u8T X v zs.length (bV zs) bo) : LayI bo X zs v zs.length bo X := ⟨h, rfl, Mod.refl _ _, Or.inl rfl⟩
theorem LayI.app (h : LayI bo0 X zs v M bo wr) (hb : Below wr.heap.size wr X2) (hO : OwnS 1 u8T w5 v' (M + m) (bV zs ++ bV ys) bo') (hM : Mod (fun j => bo = some j) X2 w5) (hN : NewOr X2 bo bo') : LayI bo0 X (zs ++ ys) v' (M + m) bo' w5 := by
  obtain ⟨q1, q2⟩ := mod_step h.mod h.new hb hM hN
  rw [← bV_app] at hO
  exact ⟨hO, own_m hO, q1, q2⟩
theorem LayI.put (h : LayI bo0 X zs v M bo wr) (hb : Below wr.heap.size wr X2) {n : Nat} {e : Ending} (q : numPost bo X2 zs n e w5) : ∃ v' M' bo', e = .returned v' ∧ LayI bo0 X (zs ++ numL n) v' M' bo' w5 := by
  obtain ⟨v', M', bo', rfl, e1, o, hM, hN⟩ := q
  obtain ⟨q1, q2⟩ := mod_step h.mod h.new hb hM hN
  exact ⟨v', M', bo', rfl, o, own_m o, q1, q2⟩
theorem LayI.lay (h : LayI bo0 X zs v M bo wr) (hb : Below wr.heap.size wr X2) {e : Ending} (q : layPost bo X2 (zs ++ ys) e w5) : ∃ v' M' bo', e = .returned v' ∧ LayI bo0 X (zs ++ ys) v' M' bo' w5 := by
  obtain ⟨v', M', bo', rfl, o, hM, hN⟩ := q
  obtain ⟨q1, q2⟩ := mod_step h.mod h.new hb hM hN
  exact ⟨v', M', bo', rfl, o, own_m o, q1, q2⟩
theorem LayI.below (h : LayI bo0 X zs v M bo wr) (hb : Below wr.heap.size wr X2) : LayI bo0 X zs v M bo X2 :=
  ⟨h.own.below hb, h.len, ⟨hb.os.trans h.mod.os, hb.tape.trans h.mod.tape, hb.output.trans h.mod.output, Nat.le_trans h.mod.size hb.size, fun j hj hne => by rw [hb.block j (Nat.lt_of_lt_of_le hj h.mod.size)]; exact h.mod.same j hj hne⟩, h.new⟩
theorem LayI.len' (h : LayI bo0 X zs v M bo wr) : OwnS 1 u8T wr v zs.length (bV zs) bo := by rw [← h.len]; exact h.own
theorem LayI.lo (h : LayI bo0 X zs v M bo wr) {w : World} (hb : Below w.heap.size w X) (hbo : ∀ g, bo0 = some g → w.heap.size ≤ g) : Below w.heap.size w wr ∧ ∀ g, bo = some g → w.heap.size ≤ g :=
  ⟨hb.trans (mod_lo h.mod hbo hb.size), newOr_lo h.new hbo hb.size⟩
theorem LayI.done (h : LayI bo0 X zs v M bo wr) : layPost bo0 X zs (.returned v) wr := ⟨v, M, bo, rfl, h.own, h.mod, h.new⟩
end
end Go.Proofs.YtfhdiimcimafkaaGreatDoor
/- Any canonical tree encoded; how many bytes that is. -/
namespace Go.Proofs.YtfhdiimcimafkaaGreatDoor
open Go.RowKit
/-- a tree's bytes, with how many pairs it has -/
def encL (t : Tr) : List Nat := [1] ++ numL (tl t).length ++ layT t
end Go.Proofs.YtfhdiimcimafkaaGreatDoor
/- The statements KidsKind and KidsNobody: their walks. -/
namespace Go.Proofs.YtfhdiimcimafkaaGreatDoor
open Go.RowKit
theorem refKind_any (n : Int) (w : World) : Calls Tryz.prog 41 #[.int .i64 n] w fun e w' => e = .returned (.int .i64 (kindZ n)) ∧ w = w' := by
  obtain ⟨K, HK⟩ : ∃ K, Hid (kindZ n = K) := ⟨_, rfl⟩
  rw [HK.out]
  by_cases h0 : n < 0
  · have hR : Hid (K = 0) := by show _ = _; rw [← HK.out]; unfold kindZ; rw [if_pos h0]
    go_enter Tryz.func41, Tryz.ntmps41
    go_wp2_with fail
    go_ret
    exact ⟨by rw [hR.out]; rfl, rfl⟩
  · by_cases h5 : 256 < n
    · have hR : Hid (K = 0) := by show _ = _; rw [← HK.out]; unfold kindZ; rw [if_neg h0, if_neg (by omega), if_neg (by omega), if_neg (by omega), if_neg (by omega)]
      go_enter Tryz.func41, Tryz.ntmps41
      go_wp2_with fail
      go_ret
      exact ⟨by rw [hR.out]; rfl, rfl⟩
    · by_cases h1 : n ≤ 4
      · have hR : Hid (K = 4) := by show _ = _; rw [← HK.out]; unfold kindZ; rw [if_neg h0, if_pos h1]
        go_enter Tryz.func41, Tryz.ntmps41
        go_wp2_with fail
        go_ret
        exact ⟨by rw [hR.out]; rfl, rfl⟩
      · by_cases h2 : n ≤ 16
        · have hR : Hid (K = 16) := by show _ = _; rw [← HK.out]; unfold kindZ; rw [if_neg h0, if_neg h1, if_pos h2]
          go_enter Tryz.func41, Tryz.ntmps41
          go_wp2_with fail
          go_ret
          exact ⟨by rw [hR.out]; rfl, rfl⟩
        · by_cases h3 : n ≤ 48
          · have hR : Hid (K = 48) := by show _ = _; rw [← HK.out]; unfold kindZ; rw [if_neg h0, if_neg h1, if_neg h2, if_pos h3]
            go_enter Tryz.func41, Tryz.ntmps41
            go_wp2_with fail
            go_ret
            exact ⟨by rw [hR.out]; rfl, rfl⟩
          · have hR : Hid (K = 256) := by show _ = _; rw [← HK.out]; unfold kindZ; rw [if_neg h0, if_neg h1, if_neg h2, if_neg h3, if_pos (by omega)]
            go_enter Tryz.func41, Tryz.ntmps41
            go_wp2_with fail
            go_ret
            exact ⟨by rw [hR.out]; rfl, rfl⟩
theorem kindZ_facts (n : Int) : (kindZ n = 0 ∨ 4 ≤ kindZ n ∧ n ≤ kindZ n ∧ kindZ (kindZ n) = kindZ n) ∧ ∀ L : Int, L = 4 ∨ L = 16 ∨ L = 48 → n < 0 ∨ (0 ≤ n ∧ L < n) ∨ (0 ≤ n ∧ n ≤ L ∧ kindZ n ≤ L) := by
  have key : kindZ n = 0 ∧ (n < 0 ∨ 256 < n) ∨ 0 ≤ n ∧ (kindZ n = 4 ∧ n ≤ 4 ∨ kindZ n = 16 ∧ n ≤ 16 ∧ 4 < n ∨ kindZ n = 48 ∧ n ≤ 48 ∧ 16 < n ∨ kindZ n = 256 ∧ n ≤ 256 ∧ 48 < n) := by
    unfold kindZ
    by_cases h0 : n < 0
    · rw [if_pos h0]; omega
    · by_cases h1 : n ≤ 4
      · rw [if_neg h0, if_pos h1]; omega
      · by_cases h2 : n ≤ 16
        · rw [if_neg h0, if_neg h1, if_pos h2]; omega
        · by_cases h3 : n ≤ 48
          · rw [if_neg h0, if_neg h1, if_neg h2, if_pos h3]; omega
          · by_cases h4 : n ≤ 256
            · rw [if_neg h0, if_neg h1, if_neg h2, if_neg h3, if_pos h4]; omega
            · rw [if_neg h0, if_neg h1, if_neg h2, if_neg h3, if_neg h4]; omega
  constructor
  · rcases key with ⟨h, _⟩ | ⟨_, ⟨h, _⟩ | ⟨h, _⟩ | ⟨h, _⟩ | ⟨h, _⟩⟩ <;> rw [h]
    · exact Or.inl rfl
    all_goals exact Or.inr ⟨by omega, by omega, rfl⟩
  · rintro L (rfl | rfl | rfl) <;> omega
end Go.Proofs.YtfhdiimcimafkaaGreatDoor
/- The document's build, walked whole. -/
namespace Go.Proofs.YtfhdiimcimafkaaGreatDoor
open Go.RowKit
set_option maxHeartbeats 8000000 in
set_option maxRecDepth 100000 in
theorem bld_many {w0 : World} (N : Nat) (hNm : N ≤ 999999) (IH : BuildAsk w0 N) (l : PL) (pfx : List Nat) (a : Option Addr) (n c : Nat) (w : World) (hN : l.length ≤ N + 1) (h2 : 2 ≤ l.length) (h : Prs w0 a n c (pre pfx l)) (hs : PSrt l) (hk : ∀ x ∈ pre pfx l, x.1.length ≤ 65535) (hb0 : Below w0.heap.size w0 w) :
    Calls Tryz.prog 59 #[.slice a n c, .int .i64 (pfx.length : Nat)] w (bldPost w0 l w) := by
  have hn : l.length = n := by have := h.len; rwa [pre_length] at this
  obtain ⟨bs, l2, hS, hbl, hbt⟩ := start_of hs h2
  have hnm : n ≤ 1000000 := by omega
  have hB1 : Below w0.heap.size w0 (rnW w) := hb0.alloc hb0.size _
  have HP := h
  obtain ⟨p, af, nf, cf, rfl, q1, q2, q3⟩ := prs_first HP (by omega)
  rw [pre_getD _ (by omega)] at q3 q2
  simp only at q3 q2
  obtain ⟨fk, hfk⟩ : ∃ fk, fk = (l.getD 0 ([], 0)).1 := ⟨_, rfl⟩
  obtain ⟨fv, hfv⟩ : ∃ fv, fv = (l.getD 0 ([], 0)).2 := ⟨_, rfl⟩
  have hfm : (pfx ++ fk, fv) ∈ pre pfx l := by
    have := mem_getD (l := pre pfx l) (i := 0) (d := ([], 0)) (by rw [pre_length]; omega)
    rwa [pre_getD _ (by omega), ← hfk, ← hfv] at this
  have hnf := q3.len
  have hfk16 := hk _ hfm
  have hvv := HP.val _ hfm
  rw [← hfk] at q3 hnf hbl hbt
  rw [← hfv] at q2
  rw [hn] at hbl
  simp only at hfk16 hvv
  rw [List.length_append] at hnf hfk16
  have hbf : bs.length ≤ fk.length := by rw [hbl]; exact (lcp_le _ _).1
  obtain ⟨at_, hat⟩ : ∃ m, m = pfx.length := ⟨_, rfl⟩
  obtain ⟨en, hen⟩ : ∃ m, m = pfx.length + bs.length := ⟨_, rfl⟩
  have hcf := q3.cap
  have hsh : Hid (Calls Tryz.prog 81 #[.slice (some p) n c] (rnW w) fun e w' => e = .returned (.int .i64 (en : Nat)) ∧ ∃ k, w' = (rnW w).drewN k) :=
    (ref_shared (h.below hB1) (psrt_pre.2 hs) (by omega) hnm hk).mono fun e w' ⟨e1, e2⟩ => ⟨by
      rw [e1, pre_getD _ (by omega), pre_getD _ (by omega), lcp_pre, hen, hbl, hfk], e2⟩
  have hcutk : ∀ w, (Instr.slice 38 (.slice af nf cf) (some (.int .i64 (at_ : Nat))) (some (.int .i64 (en : Nat))) none).run Tryz.prog w = .ok (.slice (cutA af cf at_ 1) (en - at_) (cf - at_)) w := fun w => run_cut8 w af nf cf at_ en (by omega) (by omega)
  have hsb := q3.cut (lo := at_) (hi := en) (by omega) (by omega)
  have ebs : ((pfx ++ fk).take en).drop at_ = bs := by
    rw [hen, hat, List.take_append, List.take_of_length_le (by omega), Nat.add_sub_cancel_left, List.drop_left, ← hbt]
  rw [ebs] at hsb
  have hpre : pre pfx l = pre (pfx ++ bs) l2 := by rw [hS.eq, pre_pre]
  have HPb : Hid (Prs w0 (some p) n c (pre (pfx ++ bs) l2)) := by rw [← hpre]; exact h
  have hbb : Hid (∀ x ∈ bs, x < 256) := hsb.at_.1
  have hq : Hid ((pfx ++ bs).length = en) := by show _ = _; rw [List.length_append, hen]
  have i0 : (0 : Int) ≤ (at_ : Int) := by omega
  have i1 : (at_ : Int) ≤ (en : Int) := by omega
  have i2 : (en : Int) ≤ (cf : Int) := by omega
  have i3 : (en : Int) ≤ (nf : Int) := by omega
  have i4 : ((n : Int) == 0) = false := by rw [beq_eq_false_iff_ne]; omega
  have i5 : ((n : Int) == 1) = false := by rw [beq_eq_false_iff_ne]; omega
  have i6 : (0 : Int) < (n : Int) := by omega
  have i6n : 0 < n := by omega
  have HS := Lib.hid hS
  have Hvv := Lib.hid hvv
  have Hhs := Lib.hid hs
  have Hk2 : Hid (∀ x ∈ pre (pfx ++ bs) l2, x.1.length ≤ 65535) := by rw [← hpre]; exact hk
  have Hn2 : Hid (l2.length = n ∧ n ≤ N + 1) := by
    show _ ∧ _
    have := congrArg List.length hS.eq
    rw [pre_length] at this
    omega
  have Hfk : Hid (fk = bs ++ (l2.getD 0 ([], 0)).1 ∧ fv = (l2.getD 0 ([], 0)).2) := by
    show _ ∧ _
    have h3 := hS.two
    have h4 := pre_getD bs (r := l2) (i := 0) (by omega)
    rw [← hS.eq] at h4
    exact ⟨by rw [hfk, h4], by rw [hfv, h4]⟩
  have hnfe : Hid (nf = pfx.length + fk.length ∧ en = pfx.length + bs.length) := ⟨hnf.symm, hen⟩
  have hen16 : en ≤ 65535 := by omega
  have hrb := six_new w (.int .i64 0) (.slice none 0 0) (.bool false) (.int .u64 0) (.slice none 0 0) (.slice none 0 0) rnT
  have HSB := Lib.hid hsb
  have HB0 := Lib.hid hb0
  have HB1 := Lib.hid hB1
  have hKx : Hid (∀ wr, Below w0.heap.size w0 wr → wr.cell? p = some (.slice af nf cf) ∧ wr.cell? ⟨p.block, p.off + 1, none⟩ = some (.int .u64 fv)) := fun wr hw =>
    ⟨(hw.cell (cell_lt q1)).trans q1, (hw.cell (p := ⟨p.block, p.off + 1, none⟩) (cell_lt q2)).trans q2⟩
  have hwsz : Hid ((rnW w).heap.size = w.heap.size + 1) := World.size_alloc _ _
  have HW1 : Hid (Below w.heap.size w (rnW w)) := (Below.refl _ w).alloc (Nat.le_refl _) _
  have hRB : Hid ((rnW w).heap[w.heap.size]? = some (.cells [.int .i64 0, .slice none 0 0, .bool false, .int .u64 0, .slice none 0 0, .slice none 0 0].toArray rnT (0, 0))) := hrb
  have HPL : Hid (p.block < w0.heap.size) := cell_lt q1
  rw [← hat]
  clear hbt hbl hn h2 hN h hs hk q3 hfm hfk hfv hnf hfk16 hvv hbf hat hen hcf hsb ebs hpre hS HP q1 q2 hb0 hB1 hrb
  generalize cutA af cf at_ 1 = ab at *
  generalize en - at_ = pn at *
  generalize cf - at_ = pc at *
  go_enter Tryz.func59, Tryz.ntmps59
  go_upto_region 5 with (fail)
  change Code.wp _ _ _ _ (rnW w)
  generalize hw1 : rnW w = w1 at *
  obtain ⟨k0, k1⟩ := hKx.out w1 HB1.out
  go_upto_if 43 with (go_at_call 81; refine hsh.out.mono ?_; rintro e w2 ⟨rfl, nk, hw2⟩; have HW2 := Lib.hid (show Below w1.heap.size w1 w2 by rw [hw2]; exact below_drewN (Below.refl _ _) nk); clear hw2; have HBW := Lib.hid (HB1.out.trans (HW2.out.mono HB1.out.size)); obtain ⟨k0, k1⟩ := hKx.out w2 HBW.out; have kA : ∀ o, (w2.alloc o).cell? p = some (.slice af nf cf) := fun o => (hKx.out _ (HBW.out.alloc HBW.out.size o)).1)
  change Code.wp _ _ _ _ (w2.alloc (.cells #[.int .i64 0, .slice ab pn pc, .bool false, .int .u64 0, .slice none 0 0, .slice none 0 0] rnT))
  have hV0 := VB.start (w0 := w0) HW2.out (.slice ab pn pc)
  have hk3 := Lib.hid (hKx.out (w2.alloc (.cells #[.int .i64 0, .slice ab pn pc, .bool false, .int .u64 0, .slice none 0 0, .slice none 0 0] rnT)) (HB1.out.trans (hV0.since.mono HB1.out.size)))
  generalize w2.alloc (.cells #[.int .i64 0, .slice ab pn pc, .bool false, .int .u64 0, .slice none 0 0, .slice none 0 0] rnT) = w3 at *
  generalize w2.heap.size = nn at *
  have HV0 := Lib.hid hV0
  clear hV0 hsh hw1 hKx HW2 hcutk
  go_cut [7] from 9 (fun s7 w' => ∃ (hs : Bool) (val : Int) (l3 : PL), s7 = .int .i64 ((if hs then 1 else 0 : Nat) : Int) ∧ VB w0 w1 nn (.slice ab pn pc) hs val [] [] [] (.slice none 0 0) (.slice none 0 0) none none w' ∧ l2 = (if hs then [([], val)] else []) ++ l3 ∧ BldR l3 [] l3 ∧ (0 ≤ val ∧ val < 18446744073709551616) ∧ (hs = false → val = 0))
  case first =>
    by_cases hf : nf = en
    · have hfe : ((nf : Int) == (en : Int)) = true := by rw [beq_iff_eq]; omega
      obtain ⟨z0, z1⟩ := hk3.out
      obtain ⟨y0, y1, y2, y3, y4, y5, y6⟩ := HV0.out.facts
      have y62 := y6 2
      have y63 := y6 3
      have hHas := Lib.hid (HV0.out.has fv)
      have hpl : p.block < w0.heap.size := HPL.out
      have hpn : ¬ p.block = nn := by have := HV0.out.nbn; have := HB1.out.size; omega
      have hpn2 : ¬ nn = p.block := fun e => hpn e.symm
      clear y6
      go_wp2_with fail
      go_region_held3 (fun w' => w'.cell? ⟨p.block, p.off + 1, none⟩ = some (.int .u64 fv)) (first | go_keep) (fail)
      all_goals
        go_wp2_with fail
        go_meet
      case rel =>
        have h0 : (l2.getD 0 ([], 0)).1 = [] := by
          have q1 := congrArg List.length Hfk.out.1
          rw [List.length_append] at q1
          have := hnfe.out
          exact List.eq_nil_of_length_eq_zero (by omega)
        obtain ⟨l3, e3, HR0⟩ := start_has HS.out (prs_bytes HPb.out) h0
        rw [← Hfk.out.2] at e3
        exact ⟨true, fv, l3, rfl, hHas.out.below (Below.refl _ _).drew, e3, HR0, Hvv.out, by simp⟩
    · have hfe : ((nf : Int) == (en : Int)) = false := by rw [beq_eq_false_iff_ne]; omega
      go_wp2_with fail
      go_meet
      case rel =>
        have h0 : (l2.getD 0 ([], 0)).1 ≠ [] := fun e => by
          have q1 := congrArg List.length Hfk.out.1
          rw [List.length_append, e] at q1
          have := hnfe.out
          simp at q1
          omega
        exact ⟨false, 0, l2, rfl, HV0.out, rfl, start_no HS.out (prs_bytes HPb.out) h0, by omega, fun _ => rfl⟩
  case rest =>
    clear hk3 HV0 k0 k1 kA HBW
    obtain ⟨hs, val, l3, rfl, hV0, e3, hR0, hv, hz0⟩ := hcut
    have HV0 := Lib.hid hV0
    have HR0 := Lib.hid hR0
    have E3 := Lib.hid e3
    have Hv := Lib.hid hv
    have Hz0 := Lib.hid hz0
    have hdn0 : Hid (∃ dn, l2 = dn ++ l3 ∧ dn.length = (if hs then 1 else 0)) := ⟨_, e3, by cases hs <;> rfl⟩
    have hsz0 : (if hs then 1 else 0) + l3.length = n := by
      have := Hn2.out.1
      rw [e3, List.length_append] at this
      cases hs <;> simpa using this
    clear hV0 hR0 e3 hv hz0
    generalize (if hs = true then 1 else 0) = i0n at *
    go_wp2_with fail
    go_loopw [7] (fun v7 wr => ∃ (i : Nat) (L : List (Nat × Tr)) (r : PL) (cs : List (List Value)) (bv kv : Value) (bo1 bo2 : Option Nat), v7 = .int .i64 (i : Nat) ∧ i + r.length = n ∧ Hid (∃ dn, l2 = dn ++ r ∧ dn.length = i) ∧ Hid (BldR l3 L r) ∧ Hid (VB w0 w1 nn (.slice ab pn pc) hs val (L.map (·.1)) (L.map (·.2)) cs bv kv bo1 bo2 wr)) (fun v7 _ => (n - intOf v7).toNat)
    case atStart => exact ⟨i0n, [], l3, [], _, _, none, none, rfl, hsz0, hdn0, HR0, HV0⟩
    case round =>
      clear HV0 HR0 hdn0 hsz0
      obtain ⟨i, L, r, cs, bv, kv, bo1, bo2, rfl, hir, Hdn, HR, HV⟩ := hrel
      obtain ⟨wo, rfl⟩ : ∃ wo : World, wo = wr := ⟨_, rfl⟩
      have Bw := Lib.hid (HB1.out.trans (HV.out.since.mono HB1.out.size))
      by_cases hin : i < n
      · have j1 : (i : Int) < (n : Int) := by omega
        have j0 : (0 : Int) ≤ (i : Int) := by omega
        have hrne : r ≠ [] := fun e => by rw [e] at hir; simp at hir; omega
        obtain ⟨b, g, r2, e1, hg, sg, hb256, hbL, hr2, hnext⟩ := HR.out.next hrne
        have E1 := Lib.hid e1
        have hr2 := Lib.hid hr2
        have hnext := Lib.hid hnext
        have hbL := Lib.hid hbL
        have hgN : Hid (g.length ≤ N) := group_small HS.out E3.out HR.out e1 (by have := Hn2.out; omega)
        have hg0 := Lib.hid hg
        have hsg := Lib.hid sg
        obtain ⟨G, hG⟩ : ∃ G, G = g.length := ⟨_, rfl⟩
        have HG := Lib.hid hG
        have hG1 : 1 ≤ G := by
          cases g with
          | nil => exact absurd rfl hg
          | cons x g => rw [hG]; simp
        have hGn : i + G ≤ n := by
          have : r.length = G + r2.length := by rw [e1, hG]; simp
          omega
        have hAt : Hid (∀ m, m < G → ∃ p3 n3 c3, w0.cell? (p.add ((i + m) * 2)) = some (.slice (some p3) n3 c3) ∧ (en : Int) < (n3 : Int) ∧ w0.cell? (p3.add en) = some (.int .u8 (b : Nat))) := fun m hm => by
          obtain ⟨dn, q1, q2⟩ := Hdn.out
          have q3 := left_at q1 q2 m
          obtain ⟨p', p3, n3, c3, hp, z1, z2, z3⟩ := key_at HPb.out (i := i + m) (by omega) (d := b) (s := (g.getD m ([], 0)).1) (by rw [q3]; exact head_in e1 (by omega))
          obtain rfl : p = p' := by simpa using hp
          rw [hq.out] at z2 z3
          exact ⟨p3, n3, c3, z1, by omega, z3⟩
        have hOut : Hid (i + G < n → ∃ p3 n3 c3 d, w0.cell? (p.add ((i + G) * 2)) = some (.slice (some p3) n3 c3) ∧ (en : Int) < (n3 : Int) ∧ w0.cell? (p3.add en) = some (.int .u8 (d : Nat)) ∧ b < d) := fun hlt => by
          obtain ⟨dn, q1, q2⟩ := Hdn.out
          have q3 := left_at q1 q2 G
          obtain ⟨d, s, e5, hd⟩ := head_out e1 hr2.out (by rw [← hG]; omega)
          rw [← hG] at e5
          obtain ⟨p', p3, n3, c3, hp, z1, z2, z3⟩ := key_at HPb.out (i := i + G) hlt (d := d) (s := s) (by rw [q3]; exact e5)
          obtain rfl : p = p' := by simpa using hp
          rw [hq.out] at z2 z3
          exact ⟨p3, n3, c3, d, z1, by omega, z3, hd⟩
        obtain ⟨pI, nI, cI, zI1, zI2, zI3⟩ := hAt.out 0 (by omega)
        rw [Nat.add_zero] at zI1
        have ien : (0 : Int) ≤ (en : Int) := by omega
        clear e1 hg sg hG hrne
        obtain ⟨E, hE⟩ : ∃ E, E = i + G := ⟨_, rfl⟩
        rw [← hE] at hOut hGn
        have HE := Lib.hid hE
        have hiE : i < E := by omega
        have hAtQ : Hid (∀ q, i ≤ q → q < E → ∃ p3 n3 c3, w0.cell? (p.add (q * 2)) = some (.slice (some p3) n3 c3) ∧ (en : Int) < (n3 : Int) ∧ w0.cell? (p3.add en) = some (.int .u8 (b : Nat))) := fun q h1 h2 => by
          have := hAt.out (q - i) (by omega)
          rwa [show i + (q - i) = q by omega] at this
        clear hE
        go_upto_block 2 with fail
        go_cut [8] from 55 to 79 (fun s8 w' => s8 = .int .i64 ((E : Nat) : Int) ∧ ∃ k, w' = wo.drewN k)
        case first =>
          go_wp2_with fail
          go_loopw [8] (fun v8 wr => ∃ q : Nat, v8 = .int .i64 (q : Nat) ∧ i ≤ q ∧ q ≤ E ∧ Hid (∃ k, wr = wo.drewN k)) (fun v8 _ => (E - intOf v8).toNat)
          case atStart => exact ⟨i, rfl, by omega, by omega, 0, rfl⟩
          case round =>
            obtain ⟨q, rfl, hq1, hq2, hwd⟩ := hrel
            have hBr : Hid (Below w0.heap.size w0 wr) := by obtain ⟨k, rfl⟩ := hwd.out; exact below_drewN Bw.out k
            have y0 := (hBr.out.cell (cell_lt zI1)).trans zI1
            have y1 := (hBr.out.cell (cell_lt zI3)).trans zI3
            have j4 : (0 : Int) ≤ (q : Int) := by omega
            by_cases hqn : q < n
            · have j5 : (q : Int) < (n : Int) := by omega
              by_cases hqG : q < E
              · obtain ⟨p3, n3, c3, z1, z2, z3⟩ := hAtQ.out q hq1 hqG
                have z1 := (hBr.out.cell (cell_lt z1)).trans z1
                have z3 := (hBr.out.cell (cell_lt z3)).trans z3
                have hw9 : IntKind.i64.wrap (((q : Nat) : Int) + 1) = ((q + 1 : Nat) : Int) := by rw [show ((q : Nat) : Int) + 1 = ((q + 1 : Nat) : Int) by omega]; exact IntWalk.i64_in _ (by omega)
                go_wp2_with fail
                go_quiet (fail)
                go_wp2_with fail
                go_roundw
                case rel => exact ⟨q + 1, (by first | rfl | go_num), by omega, by omega, by obtain ⟨k, rfl⟩ := hwd.out; exact ⟨k + nq, by simp⟩⟩
                case measure => (simp [intOf]) <;> omega
              · obtain rfl : q = E := by omega
                obtain ⟨p3, n3, c3, d, z1, z2, z3, hd⟩ := hOut.out hqn
                have z1 := (hBr.out.cell (cell_lt z1)).trans z1
                have z3 := (hBr.out.cell (cell_lt z3)).trans z3
                have j9 : (((d : Nat) : Int) == ((b : Nat) : Int)) = false := by rw [beq_eq_false_iff_ne]; omega
                go_wp2_with fail
                go_quiet (fail)
                go_wp2_with fail
                go_meet
                case rel => exact ⟨rfl, by obtain ⟨k, rfl⟩ := hwd.out; exact ⟨k + nq, by simp⟩⟩
            · obtain rfl : q = E := by omega
              have j5 : ¬ (q : Int) < (n : Int) := by omega
              go_wp2_with fail
              go_quiet (fail)
              go_wp2_with fail
              go_meet
              case rel => exact ⟨rfl, by obtain ⟨k, rfl⟩ := hwd.out; exact ⟨k + nq, by simp⟩⟩
        case rest =>
          obtain ⟨rfl, hwc⟩ := hcut
          have HVc : Hid (VB w0 w1 nn (.slice ab pn pc) hs val (L.map (·.1)) (L.map (·.2)) cs bv kv bo1 bo2 wc) := by obtain ⟨k, rfl⟩ := hwc; exact HV.out.drewN k
          clear hwc HV
          have Bc := Lib.hid (HB1.out.trans (HVc.out.since.mono HB1.out.size))
          have h256 : (L.map (·.1)).length ≤ 256 := ups256 HR.out.up fun x hx => by obtain ⟨y, hy, rfl⟩ := List.mem_map.1 hx; exact (HR.out.kids y hy).1
          have h256k : Hid ((L.map (·.2)).length ≤ 256) := by show _ ≤ _; rw [List.length_map] at h256 ⊢; exact h256
          have h256b := Lib.hid h256
          clear h256
          go_upto_region 15 with fail
          go_cut [] from 80 to 92 (fun w' => ∃ (vB : Value) (bo1' : Option Nat), VB w0 w1 nn (.slice ab pn pc) hs val (L.map (·.1) ++ [b]) (L.map (·.2)) cs vB kv bo1' bo2 w')
          case first =>
            have y0 := (Bc.out.cell (cell_lt zI1)).trans zI1
            have y1 := (Bc.out.cell (cell_lt zI3)).trans zI3
            have y0A : ∀ o, (wc.alloc o).cell? (p.add (i * 2)) = some (.slice (some pI) nI cI) := fun o => ((Bc.out.alloc Bc.out.size o).cell (cell_lt zI1)).trans zI1
            have y1A : ∀ o, (wc.alloc o).cell? (pI.add en) = some (.int .u8 (b : Nat)) := fun o => ((Bc.out.alloc Bc.out.size o).cell (cell_lt zI3)).trans zI3
            obtain ⟨v0, v1_, v2, v3, v4, v5, v6⟩ := HVc.out.facts
            have v4A : ∀ o, (wc.alloc o).cell? ⟨nn, 4, none⟩ = some bv := fun o => (HVc.out.below ((Below.refl _ wc).alloc (Nat.le_refl _) o)).facts.2.2.2.2.1
            have hone : Hid (∀ u ∈ ([.int .u8 (b : Nat)] : List Value), u.oneCell' = true) := by intro u hu; simp only [List.mem_singleton] at hu; subst hu; rfl
            have HVX := Lib.hid (HVc.out.below ((Below.refl _ wc).alloc (Nat.le_refl _) (.cells #[.int .u8 (b : Nat)] 5)).drew)
            have hnews : Hid (∀ j u, ([.int .u8 (b : Nat)] : List Value)[j]? = some u → (wc.alloc (.cells #[.int .u8 (b : Nat)] 5)).drew.cell? ((⟨wc.heap.size, 0, none⟩ : Addr).add j) = some u) := news_alloc wc [.int .u8 (b : Nat)] 5
            have hob := Lib.hid HVX.out.ob
            clear v6
            go_region_law (refine step_b rfl (.tmp 81) (.tmp 90) rfl bv rfl (L.map (·.1)).length (bV (L.map (·.1))) bo1 hob.out ⟨wc.heap.size, 0, none⟩ 1 [.int .u8 (b : Nat)] rfl rfl hnews.out hone.out h256b.out ?_; intro vB w5 bo1' HO HM HN; obtain ⟨aB, cB, hvB, _⟩ := HO.out.len; subst hvB; obtain ⟨s4, s5, f4, f5⟩ := HVX.out.boxAt HM.out HVX.out.ne1; have HVb := Lib.hid (HVX.out.byte b HO.out HM.out HN.out); clear HO HM HN)
            all_goals
              go_wp2_with fail
              go_meet
            all_goals
              exact ⟨.slice aB (L.length + 1) cB, bo1', by have := HVb.out; rw [List.length_map] at this; exact this⟩
          case rest =>
            obtain ⟨vB, bo1', hVb⟩ := hcut
            obtain ⟨w6, rfl⟩ : ∃ w6 : World, w6 = wc := ⟨_, rfl⟩
            have HVb := Lib.hid hVb
            clear hVb HVc Bc
            have Bd := Lib.hid (HB1.out.trans (HVb.out.since.mono HB1.out.size))
            have hcutP : ∀ w, (Instr.slice 22 (.slice (some p) n c) (some (.int .i64 (i : Nat))) (some (.int .i64 (E : Nat))) none).run Tryz.prog w = .ok (.slice (cutA (some p) c i 2) (E - i) (c - i)) w := fun w => run_cutK w (some p) n c i E (by omega) (Nat.le_trans hGn HPb.out.cap)
            have hBld : Hid (Calls Tryz.prog 59 #[.slice (cutA (some p) c i 2) (E - i) (c - i), .int .i64 ((en : Int) + 1)] w6.drew (bldPost w0 g w6.drew)) := by
              have hP2 := HPb.out.cut (lo := i) (hi := E) (by omega) hGn
              have hl2 : ((pre (pfx ++ bs) l2).take E).drop i = pre (pfx ++ bs ++ [b]) g := by
                obtain ⟨dn, q1, q2⟩ := Hdn.out
                rw [q1, E1.out, pre_append, pre_append, pre_pre, HE.out, HG.out, ← q2]
                rw [List.take_append, List.take_of_length_le (by simp), pre_length, Nat.add_sub_cancel_left, List.drop_append_of_le_length (by simp), List.drop_of_length_le (by simp), List.nil_append, List.take_append_of_le_length (by simp), List.take_of_length_le (by simp)]
              rw [hl2] at hP2
              have hbnd : ∀ x ∈ pre (pfx ++ bs ++ [b]) g, x.1.length ≤ 65535 := fun x hx => by
                refine Hk2.out x ?_
                rw [← hl2] at hx
                exact List.mem_of_mem_take (List.mem_of_mem_drop hx)
              have := IH g (pfx ++ bs ++ [b]) _ _ _ w6.drew hgN.out hg0.out hP2 hsg.out hbnd Bd.out.drew
              rwa [show (((pfx ++ bs ++ [b]).length : Nat) : Int) = (en : Int) + 1 by rw [List.length_append, hq.out]; rfl] at this
            have hwe : IntKind.i64.wrap ((en : Int) + 1) = ((en + 1 : Nat) : Int) := by rw [show (en : Int) + 1 = ((en + 1 : Nat) : Int) by omega]; exact IntWalk.i64_in _ (by omega)
            have m0 : (0 : Int) ≤ (i : Int) := by omega
            have m1 : (i : Int) ≤ (E : Int) := by omega
            have m2 : (E : Int) ≤ (n : Int) := by omega
            have m3 : (E : Int) ≤ (c : Int) := by have := HPb.out.cap; omega
            have hSz : Hid (w0.heap.size ≤ w1.heap.size) := HB1.out.size
            generalize cutA (some p) c i 2 = a7 at *
            generalize E - i = n7 at *
            generalize c - i = c7 at *
            go_upto_region 16 with fail
            go_cut [] from 93 to 104 (fun w' => ∃ (t : Tr) (cT : List Value) (vK : Value) (bo2' : Option Nat), VB w0 w1 nn (.slice ab pn pc) hs val (L.map (·.1) ++ [b]) (L.map (·.2) ++ [t]) (cs ++ [cT]) vB vK bo1' bo2' w' ∧ IsN t ∧ TOk t ∧ Can t ∧ tl t = g)
            case first =>
              obtain ⟨v0, v1_, v2, v3, v4, v5, v6⟩ := HVb.out.facts
              clear v6
              go_region_law (first
                | (have hk9 := hok.out; refine step_rn rfl (.tmp 94) (.tmp 102) rfl kv rfl (L.map (·.2)).length cs.flatten bo2 hok.out ⟨w7.heap.size, 0, none⟩ 1 [.int .i64 kd, .slice pa2 pn2 pc2, .bool hs2, .int .u64 vv2, .slice ba2 bn2 bc2, .slice ka2 kn2 kc2] rfl rfl hnews6.out hone6.out h256k.out ?_; intro vK w8 bo2' HO HM HN; obtain ⟨aK, cK, hvK, _⟩ := HO.out.len; subst hvK; obtain ⟨s4, s5, f4, f5⟩ := HVY.out.boxAt HM.out HVY.out.ne2; have HVk := Lib.hid (HVY.out.kid t [.int .i64 kd, .slice pa2 pn2 pc2, .bool hs2, .int .u64 vv2, .slice ba2 bn2 bc2, .slice ka2 kn2 kc2] rfl hR8.out HO.out HM.out HN.out); clear HO HM HN)
                | (go_simp; go_at_call 59; refine hBld.out.mono ?_; rintro e w7 ⟨t, kd, pa2, pn2, pc2, hs2, vv2, ba2, bn2, bc2, ka2, kn2, kc2, rfl, hRT, tN, tO, tC, tE, hB7⟩
                   have HV7 := Lib.hid ((HVb.out.drewN 1).below hB7)
                   have hA : Hid (Below w7.heap.size w7 (w7.alloc (.cells #[.int .i64 kd, .slice pa2 pn2 pc2, .bool hs2, .int .u64 vv2, .slice ba2 bn2 bc2, .slice ka2 kn2 kc2] rnT))) := (Below.refl _ w7).alloc (Nat.le_refl _) _
                   have HVY := Lib.hid (HV7.out.below hA.out)
                   have hR8 : Hid (RT (w7.alloc (.cells #[.int .i64 kd, .slice pa2 pn2 pc2, .bool hs2, .int .u64 vv2, .slice ba2 bn2 bc2, .slice ka2 kn2 kc2] rnT)) (Gd w0 w1 nn bo1' bo2 (w7.alloc (.cells #[.int .i64 kd, .slice pa2 pn2 pc2, .bool hs2, .int .u64 vv2, .slice ba2 bn2 bc2, .slice ka2 kn2 kc2] rnT))) t none 0 [.int .i64 kd, .slice pa2 pn2 pc2, .bool hs2, .int .u64 vv2, .slice ba2 bn2 bc2, .slice ka2 kn2 kc2]) := (hRT.keep hA.out.size (fun j hj => hA.out.block j hj.2)).mono fun j q => (HVb.out.drewN 1).gd hSz.out (Nat.le_trans hB7.size hA.out.size) j ⟨q.1, Nat.lt_of_lt_of_le q.2 hA.out.size⟩
                   have hnews6 := Lib.hid (news_alloc w7 [.int .i64 kd, .slice pa2 pn2 pc2, .bool hs2, .int .u64 vv2, .slice ba2 bn2 bc2, .slice ka2 kn2 kc2] rnT)
                   have hone6 : Hid (∀ u ∈ ([.int .i64 kd, .slice pa2 pn2 pc2, .bool hs2, .int .u64 vv2, .slice ba2 bn2 bc2, .slice ka2 kn2 kc2] : List Value), u.oneCell' = true) := by intro u hu; simp only [List.mem_cons, List.not_mem_nil, or_false] at hu; rcases hu with rfl | rfl | rfl | rfl | rfl | rfl <;> rfl
                   have hok := Lib.hid HVY.out.ok
                   have hT4 := Lib.hid (show IsN t ∧ TOk t ∧ Can t ∧ tl t = g from ⟨tN, tO, tC, tE⟩)
                   have v5b := HV7.out.facts.2.2.2.2.2.1
                   have v5A : ∀ o, (w7.alloc o).cell? ⟨nn, 5, none⟩ = some kv := fun o => (HV7.out.below ((Below.refl _ w7).alloc (Nat.le_refl _) o)).facts.2.2.2.2.2.1
                   clear hRT tN tO tC tE hB7))
              all_goals
                go_wp2_with fail
                go_meet
              all_goals
                exact ⟨t, _, .slice aK (L.length + 1) cK, bo2', by have := HVk.out; rw [List.length_map] at this; exact this, hT4.out⟩
            case rest =>
              obtain ⟨t, cT, vK, bo2', hVk, tN, tO, tC, tE⟩ := hcut
              have HVk := Lib.hid hVk
              have hR5 := Lib.hid (hnext.out t tN tO tC tE)
              have hdn5 : Hid (∃ dn, l2 = dn ++ r2 ∧ dn.length = E) := by
                obtain ⟨dn, q1, q2⟩ := Hdn.out
                exact ⟨dn ++ pre [b] g, by rw [q1, E1.out, List.append_assoc], by rw [List.length_append, pre_length, q2, HE.out, HG.out]⟩
              have hlen5 : Hid (E + r2.length = n) := by
                have q := hir
                rw [E1.out, List.length_append, pre_length, ← HG.out] at q
                have := HE.out
                show _ = _
                omega
              clear hVk hnext IH
              go_wp2_with fail
              go_roundw
              case rel => exact ⟨E, L ++ [(b, t)], r2, cs ++ [cT], vB, vK, bo1', bo2', rfl, hlen5.out, hdn5, hR5, by rw [List.map_append, List.map_append]; exact HVk.out⟩
              case measure => (simp [intOf]) <;> omega
      · have j1 : ¬ (i : Int) < (n : Int) := by omega
        obtain rfl : r = [] := List.eq_nil_of_length_eq_zero (by omega)
        obtain ⟨ba, bc, rfl, _⟩ := HV.out.ob.len
        obtain ⟨ka, kc, rfl, _⟩ := HV.out.ok.len
        have hB256 : ∀ x ∈ L.map (·.1), x < 256 := fun x hx => by obtain ⟨y, hy, rfl⟩ := List.mem_map.1 hx; exact (HR.out.kids y hy).1
        have hE := Lib.hid (bld_end HV.out HSB.out HB0.out HW1.out hwsz.out hRB.out hB256 (grow_end HS.out HR.out E3.out Hv.out Hz0.out hbb.out))
        have hL256 : L.length ≤ 256 := by have := ups256 HR.out.up hB256; rwa [List.length_map] at this
        have hKind : Hid (∀ wr, Calls Tryz.prog 41 #[.int .i64 (L.length : Nat)] wr fun e w' => e = .returned (.int .i64 (kindOf L.length : Nat)) ∧ wr = w') := fun wr => by
          have := refKind_any (L.length : Nat) wr
          rwa [kindZ_nat _ hL256] at this
        obtain ⟨v0, v1_, v2, v3, v4, v5, v6⟩ := HV.out.facts
        have v60 := v6 0
        rw [List.length_map] at v5
        rw [List.length_map, List.length_map] at hE
        clear v6 HV IH
        go_upto_region 19 with (go_at_call 41; refine (hKind.out _).mono ?_; rintro e w7 ⟨rfl, rfl⟩)
        obtain ⟨T, hT⟩ : ∃ T, T = wo.setCell ⟨nn, 0, none⟩ (.int .i64 (kindOf L.length : Nat)) := ⟨_, rfl⟩
        obtain ⟨yn, yr, hfin⟩ := hE.out T hT
        rw [← hT]
        obtain ⟨a0, a1, a2, a3, a4, a5, _⟩ := six_facts yn
        obtain ⟨b0, b1, b2, b3, b4, b5, g0, g1, g2, g3, g4, g5⟩ := six_facts yr
        have hfin := Lib.hid hfin
        clear hT yn yr hE
        go_wp2_with fail
        obtain ⟨⟨f0, f1, f2, f3, f4, f5⟩, hp⟩ := hfin.out _ rfl
        refine bodyPost_ret (v := .agg #[.int .i64 (kindOf L.length : Nat), .slice ab pn pc, .bool hs, .int .u64 val, .slice ba L.length bc, .slice ka L.length kc]) (by simp [results, Tryz.results59, go_sem, f0, f1, f2, f3, f4, f5]) rfl hp
end Go.Proofs.YtfhdiimcimafkaaGreatDoor
/- The document's Build. -/
namespace Go.Proofs.YtfhdiimcimafkaaGreatDoor
open Go.RowKit
theorem bld_any {w0 : World} : ∀ N, N ≤ 1000000 → BuildAsk w0 N
  | 0, _ => fun l pfx a n c w hN h0 => absurd (List.eq_nil_of_length_eq_zero (by omega)) h0
  | N + 1, hN1 => fun l pfx a n c w hN h0 h hs hk hb => by
    by_cases h2 : 2 ≤ l.length
    · exact bld_many N (by omega) (bld_any N (by omega)) l pfx a n c w hN h2 h hs hk hb
    · match l, h0, h2 with
      | [(k, v)], _, _ =>
        obtain rfl : n = 1 := h.len.symm
        exact bld_one k v pfx a c w h (hk (pfx ++ k, v) (by simp [pre])) hb
      | _ :: _ :: _, _, h2 => exact absurd (by simp) h2
abbrev six0 : Value := .agg #[.int .i64 0, .slice none 0 0, .bool false, .int .u64 0, .slice none 0 0, .slice none 0 0]
set_option maxHeartbeats 1000000 in
theorem bld_none (w : World) (a : Option Addr) (c : Nat) (k : Int) : Calls Tryz.prog 59 #[.slice a 0 c, .int .i64 k] w fun e w' => e = .returned six0 ∧ Below w.heap.size w w' := by
  have hb : Hid (∀ o, Below w.heap.size w (w.alloc o)) := fun o => (Below.refl _ w).alloc (Nat.le_refl _) o
  go_enter Tryz.func59, Tryz.ntmps59
  go_wp2_with fail
  refine bodyPost_ret (v := six0) (by simp [results, Tryz.results59, go_sem, six0]) rfl ⟨rfl, hb.out _⟩
def docPost (l : PL) (w : World) (e : Ending) (w' : World) : Prop :=
  ∃ (kd : Int) (pa : Option Addr) (pn pc : Nat) (hs : Bool) (v : Int) (ba : Option Addr) (bn bc : Nat) (ka : Option Addr) (kn kc : Nat),
    e = .returned (.agg #[.int .i64 kd, .slice pa pn pc, .bool hs, .int .u64 v, .slice ba bn bc, .slice ka kn kc]) ∧ Below w.heap.size w w' ∧
    ((l = [] ∧ kd = 0 ∧ pn = 0 ∧ hs = false ∧ kn = 0) ∨ ∃ t, IsN t ∧ TOk t ∧ Can t ∧ tl t = l ∧ RT w' (fun j => j < w'.heap.size) t none 0 [.int .i64 kd, .slice pa pn pc, .bool hs, .int .u64 v, .slice ba bn bc, .slice ka kn kc])
/-- what the inner build leaves, told alike for none and for some -/
theorem bld_all {w0 w : World} {a : Option Addr} {n c : Nat} {l : PL} (h : Prs w0 a n c l) (hs : PSrt l) (hk : ∀ x ∈ l, x.1.length ≤ 65535) (hn : n ≤ 1000000) (hb : Below w0.heap.size w0 w) : Calls Tryz.prog 59 #[.slice a n c, .int .i64 0] w fun e w' =>
    ∃ (kd : Int) (pa : Option Addr) (pn pc : Nat) (hs : Bool) (v : Int) (ba : Option Addr) (bn bc : Nat) (ka : Option Addr) (kn kc : Nat),
      e = .returned (.agg #[.int .i64 kd, .slice pa pn pc, .bool hs, .int .u64 v, .slice ba bn bc, .slice ka kn kc]) ∧ Below w.heap.size w w' ∧
      ((l = [] ∧ kd = 0 ∧ pn = 0 ∧ hs = false ∧ kn = 0) ∨ ∃ t, IsN t ∧ TOk t ∧ Can t ∧ tl t = l ∧ RT w' (Gn w0 w w') t none 0 [.int .i64 kd, .slice pa pn pc, .bool hs, .int .u64 v, .slice ba bn bc, .slice ka kn kc]) := by
  by_cases h0 : l = []
  · subst h0
    obtain rfl : n = 0 := h.len.symm
    exact (bld_none w a c 0).mono fun e w' ⟨e1, e2⟩ => ⟨0, none, 0, 0, false, 0, none, 0, 0, none, 0, 0, e1, e2, Or.inl ⟨rfl, rfl, rfl, rfl, rfl⟩⟩
  · have := bld_any (w0 := w0) l.length (by rw [h.len]; exact hn) l [] a n c w (Nat.le_refl _) h0 (by rw [pre_none]; exact h) hs (by rw [pre_none]; exact hk) hb
    exact Calls.mono this fun e w' ⟨t, kd, pa, pn, pc, hs, v, ba, bn, bc, ka, kn, kc, q1, q2, q3, q4, q5, q6, q7⟩ => ⟨kd, pa, pn, pc, hs, v, ba, bn, bc, ka, kn, kc, q1, q7, Or.inr ⟨t, q3, q4, q5, q6, q2⟩⟩
set_option maxHeartbeats 1000000 in
set_option maxRecDepth 100000 in
theorem doc_build {w : World} {a : Option Addr} {n c : Nat} {l : PL} (h : Prs w a n c l) (hs : PSrt l) (hk : ∀ x ∈ l, x.1.length ≤ 65535) (hn : n ≤ 1000000) : Calls Tryz.prog 29 #[.slice a n c] w (docPost l w) := by
  have hBd := Lib.hid (bld_all h hs hk hn ((Below.refl _ w).alloc (Nat.le_refl _) (.cells #[.int .i64 0, .slice none 0 0, .bool false, .int .u64 0, .slice none 0 0, .slice none 0 0] rnT)))
  have hW : Hid (Below w.heap.size w (rnW w)) := (Below.refl _ w).alloc (Nat.le_refl _) _
  have hsz : Hid ((rnW w).heap.size = w.heap.size + 1) := World.size_alloc _ _
  have hbx : Hid ((rnW w).heap[w.heap.size]? = some (.cells [.int .i64 0, .slice none 0 0, .bool false, .int .u64 0, .slice none 0 0, .slice none 0 0].toArray rnT (0, 0))) := six_new w _ _ _ _ _ _ rnT
  clear h hs hk
  go_enter Tryz.func29, Tryz.ntmps29
  go_wp2_with (go_at_call 59; refine hBd.out.mono ?_; rintro e w2 ⟨kd, pa, pn, pc, hs, v, ba, bn, bc, ka, kn, kc, rfl, hB, hR⟩; have hb2 := (hB.block w.heap.size (by have := hsz.out; show _ < (rnW w).heap.size; omega)).trans hbx.out; obtain ⟨x0, x1, x2, x3, x4, x5, g0, g1, g2, g3, g4, g5⟩ := six_facts hb2; have hB := Lib.hid hB; have hR := Lib.hid hR; have hb2 := Lib.hid hb2)
  obtain ⟨z1, z2⟩ := six_fin hb2.out (.int .i64 kd) (.slice pa pn pc) (.bool hs) (.int .u64 v) (.slice ba bn bc) (.slice ka kn kc) _ rfl
  obtain ⟨f0, f1, f2, f3, f4, f5, _⟩ := six_facts z1
  refine bodyPost_ret (v := .agg #[.int .i64 kd, .slice pa pn pc, .bool hs, .int .u64 v, .slice ba bn bc, .slice ka kn kc]) (by simp [results, Tryz.results29, go_sem, f0, f1, f2, f3, f4, f5]) rfl ?_
  have hbw := hW.out.trans (hB.out.mono hW.out.size)
  refine ⟨kd, pa, pn, pc, hs, v, ba, bn, bc, ka, kn, kc, rfl, ⟨z2.os.trans hbw.os, z2.tape.trans hbw.tape, z2.output.trans hbw.output, Nat.le_trans hbw.size z2.size, fun j hj => (z2.same j (Nat.lt_of_lt_of_le hj hbw.size) (by omega)).trans (hbw.block j hj)⟩, ?_⟩
  rcases hR.out with q | ⟨t, q1, q2, q3, q4, q5⟩
  · exact Or.inl q
  · exact Or.inr ⟨t, q1, q2, q3, q4, (q5.keep z2.size fun j hj => z2.same j hj.2 (by have := hsz.out; rcases hj.1 with q | q <;> (try (have q : (rnW w).heap.size ≤ j := q)) <;> omega)).mono fun j hj => Nat.lt_of_lt_of_le hj.2 z2.size⟩
end Go.Proofs.YtfhdiimcimafkaaGreatDoor
/- The document's Steps. -/
namespace Go.Proofs.YtfhdiimcimafkaaGreatDoor
open Go.RowKit
theorem tstep_hit : ∀ {L : List (Nat × Tr)} {i b : Nat} {t : Tr} (r : List Nat), L[i]? = some (b, t) → (∀ (q : Nat) (x : Nat × Tr), q < i → L[q]? = some x → x.1 ≠ b) → tstep (ofL L) (b :: r) = tstep t r
  | [], i, b, t, r, h, _ => by simp at h
  | y :: L, 0, b, t, r, h, _ => by
    obtain rfl : y = (b, t) := by simpa using h
    simp [ofL, tstep]
  | y :: L, i + 1, b, t, r, h, hq => by
    have h0 := hq 0 y (by omega) rfl
    simp only [ofL, tstep, if_neg h0]
    exact tstep_hit r (by simpa using h) fun q x hqi hx => hq (q + 1) x (by omega) (by simpa using hx)
theorem tstep_miss : ∀ {L : List (Nat × Tr)} {b : Nat} (r : List Nat), (∀ (q : Nat) (x : Nat × Tr), L[q]? = some x → x.1 ≠ b) → tstep (ofL L) (b :: r) = 0
  | [], b, r, _ => rfl
  | y :: L, b, r, h => by
    have h0 := h 0 y rfl
    simp only [ofL, tstep, if_neg h0]
    exact tstep_miss r fun q x hx => h (q + 1) x (by simpa using hx)
/-- a kid's six cells -/
theorem rt_at {w : World} {G : Nat → Prop} : ∀ {L : List (Nat × Tr)} {ka : Option Addr} {i : Nat}, RT w G (ofL L) ka i [] → ∀ q x, L[q]? = some x → ∃ g c, ka = some ⟨g, 0, none⟩ ∧ G g ∧ c.length = 6 ∧ (∀ j, j < 6 → w.cell? ⟨g, (i + q) * 6 + j, none⟩ = c[j]?) ∧ RT w G x.2 none 0 c
  | [], _, _, _, q, x, h => by simp at h
  | y :: L, ka, i, ⟨⟨g, c, h1, h2, h3, h4, h5⟩, h6⟩, 0, x, h => by
    obtain rfl : y = x := by simpa using h
    exact ⟨g, c, h1, h2, h3, by simpa using h4, h5⟩
  | y :: L, ka, i, ⟨_, h6⟩, q + 1, x, h => by
    obtain ⟨g, c, h1, h2, h3, h4, h5⟩ := rt_at h6 q x (by simpa using h)
    exact ⟨g, c, h1, h2, h3, fun j hj => by rw [← h4 j hj]; congr 3; omega, h5⟩
/-- a row by its list -/
theorem rt_chain {w : World} {G : Nat → Prop} {ks : Tr} {ka : Option Addr} (h : RT w G ks ka 0 []) (h1 : IsK ks) (h2 : TOk ks) : RT w G (ofL (chain ks)) ka 0 [] := by rw [ofL_chain ks h1 h2]; exact h
end Go.Proofs.YtfhdiimcimafkaaGreatDoor
/- canon.Depth. -/
namespace Go.Proofs.YtfhdiimcimafkaaGreatDoor
open Go.RowKit
def DepthAsk (N : Nat) : Prop := ∀ (t : Tr) {w0 w : World} {Q : List NP} {v : Option Addr}, tdep t ≤ N → StoreP NoB w0 w Q → TreeV Q t (.pointer v) → TOk t → Calls Tryz.prog 17 #[.pointer v] w (belowPost (.int .i64 (tdep t : Nat)) w)
theorem depth_nil (w : World) : Calls Tryz.prog 17 #[.pointer none] w (belowPost (.int .i64 (0 : Nat)) w) := by
  have hb := Lib.hid (Below.refl w.heap.size w)
  go_enter Tryz.func17, Tryz.ntmps17
  go_wp2_with fail
  go_ret
  exact ⟨rfl, hb.out⟩
set_option maxHeartbeats 1000000 in
set_option maxRecDepth 100000 in
theorem depth_node (N : Nat) (hN : N ≤ 1000000) (IH : DepthAsk N) {w0 w : World} {Q : List NP} (hQ : StoreP NoB w0 w Q) {i : Nat} {p : NP} (hi : Q[i]? = some p) {ks : Tr} (hT : TreeIn Q 0 ks (.pointer none) (p.kk.getD [])) (hK : IsK ks) (hO : TOk ks) (hd : tdep ks ≤ N) :
    Calls Tryz.prog 17 #[.pointer (some ⟨p.n, 0, none⟩)] w (belowPost (.int .i64 ((1 + tdep ks : Nat) : Int)) w) := by
  obtain ⟨hs, hx0⟩ := kids_start hT rfl hK hO
  have HQ := Lib.hid hQ
  have hNx : Hid (∀ wr f, Below w.heap.size w wr → (0 : Int) ≤ f → f ≤ 256 → Calls Tryz.prog 47 #[.pointer (some ⟨p.n, 0, none⟩), .int .i64 f] wr fun e w' => e = .returned (stepV (knxt (p.kk.getD []) f)) ∧ Below wr.heap.size wr w') := fun wr f hb h1 h2 => by
    obtain ⟨pv, bo, kp, Sk, hn⟩ := (hQ.below hb).is hi
    exact (nd_next hn f (by omega) (by omega)).mono fun e w' ⟨e1, n, e2⟩ => ⟨e1, by rw [e2]; exact below_drewN (Below.refl _ _) n⟩
  generalize hkk : p.kk.getD [] = kk at *
  have hstart := Lib.hid hs
  have hb0 := Lib.hid (Below.refl w.heap.size w)
  have hN0 : Hid (Calls Tryz.prog 47 #[.pointer (some ⟨p.n, 0, none⟩), .int .i64 0] w fun e w' => e = .returned (.tuple #[.int .u8 (hdB kk : Nat), hdK kk]) ∧ Below w.heap.size w w') := by
    have := hNx.out w 0 (Below.refl _ _) (by omega) (by omega)
    rw [hx0, stepV_head] at this
    exact this
  clear hs hx0 hkk hT hQ hi
  go_enter Tryz.func17, Tryz.ntmps17
  go_wp2_with (go_at_call 47; refine hN0.out.mono ?_; rintro e w1 ⟨rfl, z1⟩; have B1 := Lib.hid z1; clear z1)
  go_loopw [3, 4, 5] (fun v3 v4 v5 wr => ∃ (d : Nat) (r : Tr) (A lr : KV), v3 = .int .i64 (d : Nat) ∧ v4 = .int .u8 (hdB lr : Nat) ∧ v5 = hdK lr ∧ max d (tdep r) = tdep ks ∧ Hid (Kids Q kk ks r A lr) ∧ Hid (Below w.heap.size w wr)) (fun _ v4 v5 _ => match v5 with | .pointer none => 0 | _ => 256 - (intOf v4).toNat)
  case atStart => exact ⟨0, ks, [], kk, rfl, rfl, rfl, by omega, hstart, B1⟩
  case round =>
    clear B1 hstart hN0 hb0
    obtain ⟨d, r, A, lr, rfl, rfl, rfl, hmx, hKd, hB⟩ := hrel
    by_cases hl : lr = []
    · subst hl
      obtain rfl := hKd.out.done
      have hd2 : d = tdep ks := by simp only [tdep] at hmx; omega
      have hw8 : IntKind.i64.wrap (((d : Nat) : Int) + 1) = ((1 + tdep ks : Nat) : Int) := by rw [show ((d : Nat) : Int) + 1 = ((1 + tdep ks : Nat) : Int) by omega]; exact IntWalk.i64_in _ (by omega)
      have hDe : ((1 + tdep ks : Nat) : Int) = ((tdep ks : Nat) : Int) + 1 := by omega
      rw [show hdK ([] : KV) = .pointer none from rfl]
      go_wp2_with fail
      go_ret
      exact ⟨by rw [hDe]; rfl, hB.out⟩
    · obtain ⟨b, t, r', x, lr', rfl, rfl, hb1, hx1, hb256, ⟨k, rfl⟩, hTV, hIN, hOk, hnext, hkn⟩ := hKd.out.next hl
      rw [hb1, hx1]
      simp only [tdep] at hmx
      have hD : Hid (∀ wr', Below wr.heap.size wr wr' → Calls Tryz.prog 17 #[.pointer (some ⟨k, 0, none⟩)] wr' (belowPost (.int .i64 (tdep t : Nat)) wr')) := fun wr' hb' => IH t (by omega) ((HQ.out.below hB.out).below hb') hTV hOk
      have hN2 : Hid (∀ wr', Below wr.heap.size wr wr' → Calls Tryz.prog 47 #[.pointer (some ⟨p.n, 0, none⟩), .int .i64 ((b + 1 : Nat) : Int)] wr' fun e w' => e = .returned (.tuple #[.int .u8 (hdB lr' : Nat), hdK lr']) ∧ Below wr'.heap.size wr' w') := fun wr' hb' => by
        have := hNx.out wr' ((b + 1 : Nat) : Int) (hB.out.trans (hb'.mono hB.out.size)) (by omega) (by omega)
        rw [show (((b + 1 : Nat) : Int)) = (b : Int) + 1 by omega, hkn, stepV_head] at this
        exact this
      have hK2 := Lib.hid hnext
      have hwb : IntKind.i64.wrap ((b : Int) + 1) = ((b + 1 : Nat) : Int) := by rw [show (b : Int) + 1 = ((b + 1 : Nat) : Int) by omega]; exact IntWalk.i64_in _ (by omega)
      have hwc : IntKind.i64.wrap (b : Int) = (b : Int) := IntWalk.i64_in _ (by omega)
      have hmaxi : max (d : Int) ((tdep t : Nat) : Int) = ((max d (tdep t) : Nat) : Int) := by omega
      have hm1 : Hid (max (max d (tdep t)) (tdep r') = tdep ks) := by show _ = _; omega
      have hms : Hid (∀ p ∈ lr', b < p.1 ∧ p.1 < 256) := fun q hq => by
        have h1 := hnext.lt (b, .pointer (some ⟨k, 0, none⟩)) (by simp) q hq
        refine ⟨h1, ?_⟩
        have := row_from (b := 0) hnext.tree hnext.isK hnext.ok
        cases hr : r' with
        | nil => have e : lr' = [] := by have := hnext.tree; rw [hr] at this; exact this
                 rw [e] at hq; simp at hq
        | node => have := hnext.isK; rw [hr] at this; exact this.elim
        | kid c t2 r2 =>
          by_cases hc : 0 < c
          · exact (this (by rw [hr]; exact hc) q hq).2
          · have ht := hnext.tree
            have ho := hnext.ok
            rw [hr] at ht ho
            obtain ⟨x2, l2, e2, _, h3⟩ := ht
            rw [e2] at hq
            rcases List.mem_cons.1 hq with rfl | hq
            · exact ho.1
            · exact (row_from h3 ho.2.2.2.1 ho.2.2.2.2.1 ho.2.2.2.2.2 q hq).2
      clear hTV hIN hOk hnext hkn hKd hl hb1 hx1 IH HQ hNx
      generalize tdep t = dt at *
      go_wp2_with (first
        | (go_at_call 47; refine (hN2.out _ B2.out).mono ?_; rintro e w3 ⟨rfl, z1⟩; have B3 := Lib.hid (B2.out.trans (z1.mono B2.out.size)); clear z1)
        | (go_at_call 17; refine (hD.out _ (Below.refl _ _)).mono ?_; rintro e w2 ⟨rfl, z1⟩; have B2 := Lib.hid z1; clear z1))
      go_roundw
      case rel => exact ⟨max d dt, r', A ++ [(b, .pointer (some ⟨k, 0, none⟩))], lr', (by first | rfl | (simp only [hmaxi])), rfl, rfl, hm1.out, hK2, hB.out.trans (B3.out.mono hB.out.size)⟩
      case measure =>
        cases lr' with
        | nil => simp [hdK, hdB, intOf]; omega
        | cons y l => have := hms.out y (by simp); simp [hdK, hdB, intOf]; split <;> omega
theorem depth_any : ∀ N, N ≤ 1000000 → DepthAsk N
  | 0, _ => fun t w0 w Q v hd hQ hT hO => by
    rcases hT with ⟨rfl, hv⟩ | ⟨hn, hT⟩
    · obtain rfl : v = none := by simpa using hv
      exact depth_nil w
    · cases t with
      | nil => exact hn.elim
      | kid => exact hn.elim
      | node => simp only [tdep] at hd; omega
  | N + 1, hN => fun t w0 w Q v hd hQ hT hO => by
    rcases hT with ⟨rfl, hv⟩ | ⟨hn, hT⟩
    · obtain rfl : v = none := by simpa using hv
      exact depth_nil w
    · cases t with
      | nil => exact hn.elim
      | kid => exact hn.elim
      | node bs val has leaf ks =>
        obtain ⟨i, p, h0, h1, h2, h3, h4, h5, h6, h7⟩ := hT
        obtain rfl : v = some ⟨p.n, 0, none⟩ := by simpa using h2
        simp only [tdep] at hd
        exact depth_node N (by omega) (depth_any N (by omega)) hQ h1 h7 hO.2.2.2.2.2.1 hO.2.2.2.2.2.2 (by omega)
end Go.Proofs.YtfhdiimcimafkaaGreatDoor
/- The law FindSteps. -/
namespace Go.Proofs.YtfhdiimcimafkaaGreatDoor
open Go.RowKit
theorem tdep_le : ∀ (t : Tr) (m : Nat), TOk t → Can t → (∀ p ∈ tl t, p.1.length ≤ m) → (IsN t → tdep t ≤ m + 1) ∧ (IsK t → tdep t ≤ m)
  | .nil, m, _, _, _ => ⟨fun h => h.elim, fun _ => Nat.zero_le _⟩
  | .kid b t r, m, ⟨h1, h2, h3, h4, h5, h6⟩, ⟨c1, c2⟩, h => ⟨fun h => h.elim, fun _ => by
    obtain ⟨x, hx⟩ := List.exists_mem_of_ne_nil _ (tl_ne t h2 h3 c1)
    have hm : ∀ p ∈ tl t, p.1.length + 1 ≤ m := fun p hp => by
      have := h (b :: p.1, p.2) (List.mem_append.2 (Or.inl (List.mem_map.2 ⟨p, hp, rfl⟩)))
      simpa using this
    have h0 := hm x hx
    have a1 := (tdep_le t (m - 1) h3 c1 fun p hp => by have := hm p hp; omega).1 h2
    have a2 := (tdep_le r m h5 c2 fun p hp => h p (List.mem_append.2 (Or.inr hp))).2 h4
    simp only [tdep]
    omega⟩
  | .node bs v has leaf ks, m, ⟨h1, h2, h3, h4, h5, h6, h7⟩, ⟨c1, c2⟩, h => ⟨fun _ => by
    have a := (tdep_le ks m h7 c1 fun p hp => by
      have := h (bs ++ p.1, p.2) (List.mem_append.2 (Or.inr (List.mem_map.2 ⟨p, hp, rfl⟩)))
      rw [List.length_append] at this
      omega).2 h6
    simp only [tdep]
    omega, fun h => h.elim⟩
theorem treeV_n {Q : List NP} {t : Tr} {v : Value} (h : TreeV Q t v) : t = .nil ∨ IsN t := by
  rcases h with ⟨h, _⟩ | ⟨h, _⟩
  · exact Or.inl h
  · exact Or.inr h
theorem nil_of_tl {t : Tr} (h : t = .nil ∨ IsN t) (h1 : TOk t) (h2 : Can t) (h3 : tl t = []) : t = .nil := by
  rcases h with h | h
  · exact h
  · exact absurd h3 (tl_ne t h h1 h2)
end Go.Proofs.YtfhdiimcimafkaaGreatDoor
/- The document's bytes of a tree. -/
namespace Go.Proofs.YtfhdiimcimafkaaGreatDoor
open Go.RowKit
theorem can_of_sh : ∀ (t t' : Tr), sh t = sh t' → TOk t → TOk t' → Can t → Can t' → t = t'
  | .nil, .nil, _, _, _, _, _ => rfl
  | .nil, .kid .., h, _, _, _, _ => by cases h
  | .nil, .node .., h, _, _, _, _ => by cases h
  | .kid .., .nil, h, _, _, _, _ => by cases h
  | .kid .., .node .., h, _, _, _, _ => by cases h
  | .node .., .nil, h, _, _, _, _ => by cases h
  | .node .., .kid .., h, _, _, _, _ => by cases h
  | .kid b t r, .kid b' t' r', h, ⟨_, _, o1, _, o2, _⟩, ⟨_, _, o1', _, o2', _⟩, ⟨c1, c2⟩, ⟨c1', c2'⟩ => by
    simp only [sh, Tr.kid.injEq] at h
    obtain ⟨e1, e2, e3⟩ := h
    rw [e1, can_of_sh t t' e2 o1 o1' c1 c1', can_of_sh r r' e3 o2 o2' c2 c2']
  | .node bs v has leaf ks, .node bs' v' has' leaf' ks', h, ⟨_, _, _, _, l1, _, o1⟩, ⟨_, _, _, _, l1', _, o1'⟩, ⟨c1, c2⟩, ⟨c1', c2'⟩ => by
    simp only [sh, Tr.node.injEq] at h
    obtain ⟨e1, e2, e3, _, e4⟩ := h
    have e5 := can_of_sh ks ks' e4 o1 o1' c1 c1'
    subst e1; subst e2; subst e3; subst e5
    have : leaf = leaf' := by
      cases leaf with
      | true =>
        cases leaf' with
        | true => rfl
        | false =>
          have := c2' rfl
          rw [(l1 rfl).2] at this
          cases has <;> simp [chain] at this
      | false =>
        cases leaf' with
        | false => rfl
        | true =>
          have := c2 rfl
          rw [(l1' rfl).2] at this
          cases has <;> simp [chain] at this
    rw [this]
/-- two canonical trees of the same pairs are the same -/
theorem can_eq {t t' : Tr} (h : IsN t) (h' : IsN t') (o : TOk t) (o' : TOk t') (c : Can t) (c' : Can t') (e : tl t = tl t') : t = t' :=
  can_of_sh t t' (sh_eq t t' (Or.inl ⟨h, h'⟩) o o' c c' e) o o' c c'
end Go.Proofs.YtfhdiimcimafkaaGreatDoor
/- Bytes behind bytes: append of any slice of bytes, also of none. -/
namespace Go.Proofs.YtfhdiimcimafkaaGreatDoor
open Go.RowKit
theorem run_append_no (w : World) (t ty : TypeId) (ht : Tryz.prog.underlying t = some (.slice u8T)) (b : Option Addr) (n cap c : Nat) (hle : n ≤ cap) : (Builtin.append_ #[t, t] ty #[.slice b n cap, .slice none 0 c]).run Tryz.prog w = .ok (.slice b n cap) w := by
  obtain ⟨i, hi, hz, hsize, hby⟩ := info_parts cloneB_info
  have hu : ∀ w, (underlying t).run Tryz.prog w = .ok (.slice u8T) w := fun w => by simp [underlying, go_sem, ht]
  have hs : ∀ w, (sizeOf u8T).run Tryz.prog w = .ok 1 w := fun w => by
    have hi' : Tryz.prog.info? u8T = some i := hi
    simp [sizeOf, typeInfo, go_sem, hi', hsize]
  cases b with
  | none =>
    simp only [Builtin.append_, Sem.run_bind, Result.andThen_ok, hu, hs, List.getElem?_toArray, List.getElem?_cons_zero, List.getElem?_cons_succ]
    simp [go_sem, hu, hs, hle, storeCells]
  | some p =>
    simp only [Builtin.append_, Sem.run_bind, Result.andThen_ok, hu, hs, List.getElem?_toArray, List.getElem?_cons_zero, List.getElem?_cons_succ]
    simp [go_sem, hu, hs, hle, storeCells]
theorem run_append_l {w : World} {v : Value} {n : Nat} {zs : List Nat} {bo : Option Nat} (h : OwnS 1 u8T w v n (bV zs) bo) {a : Option Addr} {m c : Nat} {ys : List Nat} (hS : Sl w a m c ys) (hn : n ≤ 1000000) (hm : m ≤ 1000000) (ty : TypeId) :
    ∃ v' w' bo', (Builtin.append_ #[38, 38] ty #[v, .slice a m c]).run Tryz.prog w = .ok v' w' ∧ OwnS 1 u8T w' v' (n + m) (bV zs ++ bV ys) bo' ∧ Mod (fun j => bo = some j) w w' ∧ NewOr w bo bo' := by
  have hl := hS.len
  cases a with
  | none =>
    obtain ⟨rfl, rfl⟩ := hS.nil rfl
    obtain rfl : ys = [] := List.eq_nil_of_length_eq_zero hl
    obtain ⟨b, cap, rfl, h1, _⟩ := h.len
    exact ⟨_, w, bo, run_append_no w 38 ty Tryz.underlying38 b n cap 0 h1, by simpa [bV] using h, Mod.refl _ _, Or.inl rfl⟩
  | some p =>
    obtain ⟨i, hi, hz, hsize, hby⟩ := info_parts cloneB_info
    exact run_append_s w 38 ty u8T i _ 1 1 Tryz.underlying38 hi hz hsize hby rfl (by omega) v n (bV zs) bo h p m c (bV ys) (by simp [bV, hl]) (sl_news hS (Below.refl _ w)) (bV_one ys) (by unfold maxLen; omega) (by omega)
theorem wpList_l {w : World} {ops : Array Oper} {rest : List Oper} {o : Oper} {a : Act} {Q : Exit → Act → World → Prop} (hgd : o.guard = none) (s x : Operand)
    (ho : o.op = .call { callee := .builtin .append, args := #[s, x], argTypes := #[38, 38] })
    {v : Value} {n : Nat} {zs : List Nat} {bo : Option Nat} (hs : a.eval s = v) (h : OwnS 1 u8T w v n (bV zs) bo) {a3 : Option Addr} {m c : Nat} {ys : List Nat} (hx : a.eval x = .slice a3 m c) (hS : Sl w a3 m c ys) (hn : n ≤ 1000000) (hm : m ≤ 1000000)
    (K : ∀ v' w' bo', Hid (OwnS 1 u8T w' v' (n + m) (bV zs ++ bV ys) bo') → Hid (Mod (fun j => bo = some j) w w') → Hid (NewOr w bo bo') → wpList Tryz.prog ops Q rest (a.put o.dst v') w') : wpList Tryz.prog ops Q (o :: rest) a w := by
  refine wpList_plain hgd fun K2 hK => ?_
  obtain ⟨v', w', bo', hr, h2, h3, h4⟩ := run_append_l h hS hn hm o.type
  unfold Oper.wp execOp
  simp only [ho, resolve, invoke, builtin, Sem.run_bind, Sem.run_pure, Result.andThen_ok, List.map_toArray, List.map_cons, List.map_nil, hs, hx, hr]
  exact hK _ _ (K v' w' bo' h2 h3 h4)
theorem step_l {w : World} {ops : Array Oper} {o : Oper} {a : Act} {K : Act → World → Prop} {Q : Exit → Act → World → Prop} {E : Prop} (hgd : o.guard = none) (s x : Operand)
    (ho : o.op = .call { callee := .builtin .append, args := #[s, x], argTypes := #[38, 38] })
    {v : Value} {n : Nat} {zs : List Nat} {bo : Option Nat} (hs : a.eval s = v) (h : OwnS 1 u8T w v n (bV zs) bo) {a3 : Option Addr} {m c : Nat} {ys : List Nat} (hx : a.eval x = .slice a3 m c) (hS : Sl w a3 m c ys) (hn : n ≤ 1000000) (hm : m ≤ 1000000)
    (h' : ∀ v' w' bo', Hid (OwnS 1 u8T w' v' (n + m) (bV zs ++ bV ys) bo') → Hid (Mod (fun j => bo = some j) w w') → Hid (NewOr w bo bo') → K (a.put o.dst v') w') :
    if Region.wanted o (yielded ops a.tmps) = true then Oper.wp Tryz.prog o a w K Q else E := by
  have hw : Region.wanted o (yielded ops a.tmps) = true := by simp [Region.wanted, hgd]
  rw [if_pos hw]
  obtain ⟨v', w', bo', hr, h2, h3, h4⟩ := run_append_l h hS hn hm o.type
  unfold Oper.wp execOp
  simp only [ho, resolve, invoke, builtin, Sem.run_bind, Sem.run_pure, Result.andThen_ok, List.map_toArray, List.map_cons, List.map_nil, hs, hx, hr]
  exact h' v' w' bo' h2 h3 h4
/-- bytes that are begun anew -/
theorem LayI.fresh {wb X w3 : World} {zs : List Nat} {v : Value} {M : Nat} {bo bo3 : Option Nat} (hb : Below wb.heap.size wb X) (hO : OwnS 1 u8T w3 v M (bV zs) bo3) (hM : Mod (fun j => bo = some j) X w3) (hN : NewOr X bo bo3) (hg : ∀ g, bo = some g → wb.heap.size ≤ g) : LayI none wb zs v M bo3 w3 := by
  have h1 : Below wb.heap.size wb w3 := hb.trans (mod_lo hM hg hb.size)
  refine ⟨hO, own_m hO, Mod.of_below h1, ?_⟩
  have h2 := newOr_lo hN hg hb.size
  cases bo3 with
  | none => exact Or.inl rfl
  | some g => exact Or.inr ⟨g, rfl, h2 g rfl⟩
theorem LayI.since {wb w3 : World} {zs : List Nat} {v : Value} {M : Nat} {bo3 : Option Nat} (h : LayI none wb zs v M bo3 w3) : Below wb.heap.size wb w3 ∧ ∀ g, bo3 = some g → wb.heap.size ≤ g :=
  h.lo (Below.refl _ _) (fun g e => by cases e)
theorem LayI.done0 {w wb w3 : World} {zs : List Nat} {v : Value} {M : Nat} {bo3 : Option Nat} (h : LayI none wb zs v M bo3 w3) (hb : Below w.heap.size w wb) : layPost none w zs (.returned v) w3 := by
  refine ⟨v, M, bo3, rfl, h.own, Mod.of_below (hb.trans (h.since.1.mono hb.size)), ?_⟩
  have := h.since.2
  cases bo3 with
  | none => exact Or.inl rfl
  | some g => exact Or.inr ⟨g, rfl, Nat.le_trans hb.size (this g rfl)⟩
theorem LayI.sl {wb w3 : World} {zs : List Nat} {v : Value} {M : Nat} {bo bo3 : Option Nat} (h : LayI bo wb zs v M bo3 w3) (h8 : ∀ x ∈ zs, x < 256) : ∃ a c, v = .slice a M c ∧ Sl w3 a M c zs := sl_of_own h.own h8
/-- a slice that stands below what is written stays -/
theorem Sl.modNew {w X w' : World} {a : Option Addr} {n c : Nat} {bs : List Nat} {bo : Option Nat} (h : Sl w a n c bs) (hb : Below w.heap.size w X) (hM : Mod (fun j => bo = some j) X w') (hg : ∀ g, bo = some g → w.heap.size ≤ g) : Sl w' a n c bs :=
  h.below (hb.trans (mod_lo hM hg hb.size))
end Go.Proofs.YtfhdiimcimafkaaGreatDoor
/- keys.Text. -/
namespace Go.Proofs.YtfhdiimcimafkaaGreatDoor
open Go.RowKit
abbrev hexS : ByteArray := ⟨#[48, 49, 50, 51, 52, 53, 54, 55, 56, 57, 97, 98, 99, 100, 101, 102]⟩
theorem idx16_0 (w : World) : (Instr.index 9 (.string hexS) (.int .u8 ((0 : Nat) : Int))).run Tryz.prog w = .ok (.int .u8 ((hexN 0 : Nat) : Int)) w := by kernel_rfl

theorem idx16_1 (w : World) : (Instr.index 9 (.string hexS) (.int .u8 ((1 : Nat) : Int))).run Tryz.prog w = .ok (.int .u8 ((hexN 1 : Nat) : Int)) w := by kernel_rfl

theorem idx16_2 (w : World) : (Instr.index 9 (.string hexS) (.int .u8 ((2 : Nat) : Int))).run Tryz.prog w = .ok (.int .u8 ((hexN 2 : Nat) : Int)) w := by kernel_rfl

theorem idx16_3 (w : World) : (Instr.index 9 (.string hexS) (.int .u8 ((3 : Nat) : Int))).run Tryz.prog w = .ok (.int .u8 ((hexN 3 : Nat) : Int)) w := by kernel_rfl

theorem idx16_4 (w : World) : (Instr.index 9 (.string hexS) (.int .u8 ((4 : Nat) : Int))).run Tryz.prog w = .ok (.int .u8 ((hexN 4 : Nat) : Int)) w := by kernel_rfl

theorem idx16_5 (w : World) : (Instr.index 9 (.string hexS) (.int .u8 ((5 : Nat) : Int))).run Tryz.prog w = .ok (.int .u8 ((hexN 5 : Nat) : Int)) w := by kernel_rfl

theorem idx16_6 (w : World) : (Instr.index 9 (.string hexS) (.int .u8 ((6 : Nat) : Int))).run Tryz.prog w = .ok (.int .u8 ((hexN 6 : Nat) : Int)) w := by kernel_rfl

theorem idx16_7 (w : World) : (Instr.index 9 (.string hexS) (.int .u8 ((7 : Nat) : Int))).run Tryz.prog w = .ok (.int .u8 ((hexN 7 : Nat) : Int)) w := by kernel_rfl

theorem idx16_8 (w : World) : (Instr.index 9 (.string hexS) (.int .u8 ((8 : Nat) : Int))).run Tryz.prog w = .ok (.int .u8 ((hexN 8 : Nat) : Int)) w := by kernel_rfl

theorem idx16_9 (w : World) : (Instr.index 9 (.string hexS) (.int .u8 ((9 : Nat) : Int))).run Tryz.prog w = .ok (.int .u8 ((hexN 9 : Nat) : Int)) w := by kernel_rfl

theorem idx16_10 (w : World) : (Instr.index 9 (.string hexS) (.int .u8 ((10 : Nat) : Int))).run Tryz.prog w = .ok (.int .u8 ((hexN 10 : Nat) : Int)) w := by kernel_rfl

theorem idx16_11 (w : World) : (Instr.index 9 (.string hexS) (.int .u8 ((11 : Nat) : Int))).run Tryz.prog w = .ok (.int .u8 ((hexN 11 : Nat) : Int)) w := by kernel_rfl

theorem idx16_12 (w : World) : (Instr.index 9 (.string hexS) (.int .u8 ((12 : Nat) : Int))).run Tryz.prog w = .ok (.int .u8 ((hexN 12 : Nat) : Int)) w := by kernel_rfl

theorem idx16_13 (w : World) : (Instr.index 9 (.string hexS) (.int .u8 ((13 : Nat) : Int))).run Tryz.prog w = .ok (.int .u8 ((hexN 13 : Nat) : Int)) w := by kernel_rfl

theorem idx16_14 (w : World) : (Instr.index 9 (.string hexS) (.int .u8 ((14 : Nat) : Int))).run Tryz.prog w = .ok (.int .u8 ((hexN 14 : Nat) : Int)) w := by kernel_rfl

theorem idx16_15 (w : World) : (Instr.index 9 (.string hexS) (.int .u8 ((15 : Nat) : Int))).run Tryz.prog w = .ok (.int .u8 ((hexN 15 : Nat) : Int)) w := by kernel_rfl
theorem idx16 (d : Nat) (h : d < 16) (w : World) : (Instr.index 9 (.string hexS) (.int .u8 (d : Nat))).run Tryz.prog w = .ok (.int .u8 (hexN d : Nat)) w := by
  have : d = 0 ∨ d = 1 ∨ d = 2 ∨ d = 3 ∨ d = 4 ∨ d = 5 ∨ d = 6 ∨ d = 7 ∨ d = 8 ∨ d = 9 ∨ d = 10 ∨ d = 11 ∨ d = 12 ∨ d = 13 ∨ d = 14 ∨ d = 15 := by omega
  rcases this with h | h | h | h | h | h | h | h | h | h | h | h | h | h | h | h <;> subst h
  · exact idx16_0 w
  · exact idx16_1 w
  · exact idx16_2 w
  · exact idx16_3 w
  · exact idx16_4 w
  · exact idx16_5 w
  · exact idx16_6 w
  · exact idx16_7 w
  · exact idx16_8 w
  · exact idx16_9 w
  · exact idx16_10 w
  · exact idx16_11 w
  · exact idx16_12 w
  · exact idx16_13 w
  · exact idx16_14 w
  · exact idx16_15 w
theorem and15_fin : ∀ x : Fin 256, bits .and .u8 ((x.val : Nat) : Int) 15 = ((x.val % 16 : Nat) : Int) := by decide +kernel
theorem and15 {x : Nat} (h : x < 256) : bits .and .u8 (x : Int) 15 = ((x % 16 : Nat) : Int) := and15_fin ⟨x, h⟩
/-- bytes that stand in a row of one's own, as a text -/
theorem own_text {w : World} {a : Option Addr} {n c : Nat} {zs : List Nat} {bo : Option Nat} (h : OwnS 1 u8T w (.slice a n c) n (bV zs) bo) (ha : ∃ p, a = some p) (hl : zs.length = n) (h8 : ∀ x ∈ zs, x < 256) : (convert 38 9 (.slice a n c)).run Tryz.prog w = .ok (.string ⟨(u8s zs).toArray⟩) w := by
  obtain ⟨p, rfl⟩ := ha
  have hl2 : (u8s zs).length = n := by simp [u8s, hl]
  have := run_convert_bytes_back (P := Tryz.prog) w 38 9 5 p c (u8s zs) (by kernel_rfl) (by kernel_rfl) (by kernel_rfl) fun j hj => by
    have hj2 : j < zs.length := by rw [hl, ← hl2]; exact hj
    obtain ⟨g, cap, e1, e2, e3, _⟩ := h.at_ (j := j) (by omega)
    have e4 : p = ⟨g, 0, none⟩ := by have := (Value.slice.inj e2).1; simpa using this
    subst e4
    rw [add0, e3, bV_get]
    have h1 := h8 _ (List.getElem_mem hj2)
    simp only [u8s, List.getElem_map]
    simp [List.getD, hj2]
    omega
  rw [hl2] at this
  exact this
set_option maxHeartbeats 4000000 in
set_option maxRecDepth 100000 in
theorem keys_text {w : World} {a : Option Addr} {n c : Nat} {bs : List Nat} (h : Sl w a n c bs) (hn : n ≤ 400000) : Calls Tryz.prog 69 #[.slice a n c] w (belowPost (.string ⟨(u8s (hexL bs)).toArray⟩) w) := by
  have hl := h.len
  have h8 := h.at_.1
  have H := Lib.hid h
  obtain ⟨m, hm⟩ : ∃ m, m = 2 * n := ⟨_, rfl⟩
  have wm : IntKind.i64.wrap (2 * (n : Int)) = (m : Int) := by rw [show 2 * (n : Int) = ((m : Nat) : Int) by omega]; exact IntWalk.i64_in _ (by omega)
  have hmk : ∀ w, (Instr.makeSlice 38 (.int .i64 0) (.int .i64 (m : Nat))).run Tryz.prog w = .ok (.slice (some ⟨w.heap.size, 0, none⟩) 0 m) (w.alloc (.cells (List.replicate m (.int .u8 0)).toArray 5)) := fun w => by
    obtain ⟨i, h1, h2, h3, h4⟩ := u8_info
    have := run_make (P := Tryz.prog) w _ _ i _ cloneB_under h1 h2 .i64 .i64 0 (m : Nat) (by omega) (by omega) (by rw [h4]; omega) (by omega)
    rw [this, h3]
    simp only [Int.toNat_natCast, Int.toNat_zero]
    rw [made_cells m _ rfl]
  have h0 : Hid (LayI none w [] (.slice (some ⟨w.heap.size, 0, none⟩) 0 m) 0 (some w.heap.size) (w.alloc (.cells (List.replicate m (.int .u8 0)).toArray 5))) :=
    ⟨Or.inr ⟨w.heap.size, m, (List.replicate m (.int .u8 0)).toArray, rfl, rfl, heap_alloc_new _ _, Nat.zero_le _, by unfold maxLen; omega, by simp, by simp [bV], rfl⟩, rfl, Mod.of_below ((Below.refl _ w).alloc (Nat.le_refl _) _), Or.inr ⟨w.heap.size, rfl, Nat.le_refl _⟩⟩
  have hn2 : Hid (n ≤ 400000) := hn
  have HL := Lib.hid hl
  have H8 := Lib.hid h8
  clear h hl h8 hn hm
  go_enter Tryz.func69, Tryz.ntmps69
  go_wp2_with fail
  simp only [List.toArray_replicate] at h0
  go_loopw [3, 12] (fun v3 v12 wr => ∃ (i M : Nat) (p : Addr) (cc : Nat) (bo : Option Nat), v3 = .slice (some p) M cc ∧ v12 = .int .i64 (i : Nat) ∧ i ≤ n ∧ Hid (M = 2 * i) ∧ Hid (LayI none w (hexL (bs.take i)) v3 M bo wr)) (fun _ v12 _ => (n - intOf v12).toNat)
  case atStart => exact ⟨0, 0, _, _, _, rfl, rfl, Nat.zero_le _, rfl, h0⟩
  case round =>
    clear h0
    obtain ⟨i, M, p, cc, bo, rfl, rfl, hi, hMi, hI⟩ := hrel
    by_cases hlt : i < n
    · have l1 : (i : Int) < (n : Int) := by omega
      have l0 : (0 : Int) ≤ (i : Int) := by omega
      have hiL : i < bs.length := by rw [HL.out]; exact hlt
      obtain ⟨pa, rfl, r1, r2⟩ := (H.out.below hI.out.since.1).at_.2 i hiL
      obtain ⟨x, hx⟩ : ∃ x, x = bs.getD i 0 := ⟨_, rfl⟩
      have hx8 : x < 256 := by
        rw [hx, List.getD_eq_getElem?_getD, List.getElem?_eq_getElem hiL]
        exact H8.out _ (List.getElem_mem _)
      rw [← hx] at r2
      have hzs : Hid (hexL (bs.take i) ++ [hexN (x / 16), hexN (x % 16)] = hexL (bs.take (i + 1))) := by
        show _ = _
        rw [List.take_succ_eq_append_getElem hiL, hexL_snoc, hx, List.getD_eq_getElem?_getD, List.getElem?_eq_getElem hiL]
        rfl
      obtain ⟨y1, ey1⟩ : ∃ y, y = x / 16 := ⟨_, rfl⟩
      obtain ⟨y2, ey2⟩ : ∃ y, y = x % 16 := ⟨_, rfl⟩
      have hdiv : (x : Int) / 16 = (y1 : Nat) := by rw [ey1]; omega
      have hand : bits .and .u8 (x : Int) 15 = (y2 : Nat) := by rw [ey2]; exact and15 hx8
      have i1 := idx16 y1 (by omega)
      have i2 := idx16 y2 (by omega)
      rw [← ey1, ← ey2] at hzs
      have hk1 : hexN y1 < 256 := hexN_lt (by omega)
      have hk2 : hexN y2 < 256 := hexN_lt (by omega)
      generalize hexN y1 = k1 at *
      generalize hexN y2 = k2 at *
      have hl0 : (0 : Int) ≤ (y1 : Int) := by omega
      have hl00 : (0 : Int) ≤ (y2 : Int) := by omega
      have hM : Hid (M ≤ 1000000) := by have := hMi.out; have := hn2.out; show _ ≤ _; omega
      have h2m : Hid (2 ≤ 1000000) := by show _ ≤ _; omega
      have hw9 : IntKind.i64.wrap (((i : Nat) : Int) + 1) = ((i + 1 : Nat) : Int) := by rw [show ((i : Nat) : Int) + 1 = ((i + 1 : Nat) : Int) by omega]; exact IntWalk.i64_in _ (by have := hn2.out; omega)
      have hAl : Hid (Below wr.heap.size wr (wr.drew.alloc (.cells #[.int .u8 (k1 : Nat), .int .u8 (k2 : Nat)] 5))) := (Below.refl _ wr).drew.alloc (Nat.le_refl _) _
      have hob := Lib.hid (hI.out.own.below hAl.out)
      have hTwo : Hid (Sl (wr.drew.alloc (.cells #[.int .u8 (k1 : Nat), .int .u8 (k2 : Nat)] 5)) (some ⟨wr.heap.size, 0, none⟩) 2 2 [k1, k2]) := sl_two wr.drew k1 k2 5 hk1 hk2
      clear hx hx8 ey1 ey2 r1 hiL hk1 hk2
      go_upto_region 5 with fail
      have hMi2 : Hid (M + 2 = 2 * (i + 1)) := by have := hMi.out; show _ = _; omega
      go_region_law (first
        | (refine step_l (v := .slice (some p) M cc) (a3 := some ⟨wr.heap.size, 0, none⟩) (m := 2) (c := 2) (by rfl) (.tmp 16) (.tmp 23) (by rfl) (by rfl) hob.out (by rfl) hTwo.out hM.out h2m.out ?_; intro v7 w7 bo7 HO HM HN
           have i7 := hI.out.app hAl.out HO.out HM.out HN.out
           obtain ⟨a7, c7, hv7, _, _, hn7⟩ := i7.own.len
           obtain ⟨p7, hp7⟩ : ∃ p7, a7 = some p7 := (by
             cases a7 with
             | none => exact absurd (hn7 rfl).1 (by omega)
             | some p7 => exact ⟨p7, rfl⟩)
           subst hp7
           subst hv7
           rw [hzs.out] at i7
           have I7 := Lib.hid i7
           clear HO HM HN i7 hn7))
      all_goals
        (try simp only [Exit.then, Exit.inBlock])
        go_wp2_with fail
        go_roundw
        case rel => exact ⟨i + 1, M + 2, _, _, _, rfl, (by first | rfl | go_num), by omega, hMi2, I7⟩
        case measure => (simp [intOf]) <;> omega
    · have l1 : ¬ (i : Int) < (n : Int) := by omega
      obtain rfl : i = n := by omega
      have hT : hexL (bs.take i) = hexL bs := by rw [List.take_of_length_le (by rw [HL.out]; exact Nat.le_refl _)]
      have hcv : (convert 38 9 (.slice (some p) M cc)).run Tryz.prog wr = .ok (.string ⟨(u8s (hexL bs)).toArray⟩) wr := by
        have := own_text hI.out.own ⟨p, rfl⟩ hI.out.len.symm (by rw [hT]; exact hexL_lt H8.out)
        rw [hT] at this; exact this
      have hB := Lib.hid hI.out.since.1
      clear hT
      go_wp2_with fail
      go_ret
      exact ⟨rfl, hB.out⟩
end Go.Proofs.YtfhdiimcimafkaaGreatDoor
/- strconv.FormatUint at base 10, strconv.Itoa, over a table that is laid. -/
namespace Go.Proofs.YtfhdiimcimafkaaGreatDoor
open Go.RowKit Go.Sort
/-- strconv's table of powers of ten stands in this world -/
def PTab (w : World) : Prop := Lib.TabIs Tryz.prog w "internal/strconv.uint64pow10" .u64 Lib.pow10Tab
theorem PTab.below {w w' : World} (h : PTab w) (hb : Below w.heap.size w w') : PTab w' := by
  unfold PTab Lib.TabIs World.var? at *
  cases hg : Tryz.prog.globalNamed "internal/strconv.uint64pow10" with
  | none => simp [hg] at h
  | some g =>
    simp only [hg, Option.bind_some] at h ⊢
    have hlt : g < w.heap.size := by
      rcases Nat.lt_or_ge g w.heap.size with h' | h'
      · exact h'
      · rw [Array.getElem?_eq_none h'] at h; simp at h
    rw [hb.block g hlt]
    exact h
theorem zeros_at0 (w : World) (T : TypeId) (nd : Nat) (hs : nd ≤ 24) : Holds (fun (b : UInt8) => Value.int .u8 (b.toNat : Int)) (w.alloc (.cells Lib.zeros24 T)) w.heap.size 0 (Array.replicate nd (0 : UInt8)) := fun j hj => by
  have hj' : j < nd := by simpa using hj
  refine ⟨?_, World.frozen?_alloc_new _ _ _ _⟩
  rw [World.cell?_alloc_new, Nat.zero_add, Lib.zeros24_at _ (by omega), getElem!_pos _ j hj]
  simp
theorem fin0 (w : World) (o : Obj) (dk : Array UInt8) (k : Nat) : ∃ os, (putRow (fun (b : UInt8) => Value.int .u8 (b.toNat : Int)) (w.alloc o) w.heap.size 0 dk).drewN k = grow (w.drewN k) os := by
  rw [alloc_eq_grow]
  obtain ⟨os', _, e⟩ := putRow_grow_new (fun (b : UInt8) => Value.int .u8 (b.toNat : Int)) w #[o] w.heap.size 0 dk (Nat.le_refl _)
  exact ⟨os', by rw [e]; rfl⟩
set_option maxHeartbeats 4000000 in
set_option maxRecDepth 100000 in
theorem iformat_uint (u : Nat) (hu : u < 18446744073709551616) (w : World) (htab : PTab w) : Calls Tryz.prog 88 #[.int .u64 (u : Nat), .int .i64 10] w (belowPost (.string ⟨(decU u).toArray⟩) w) := by
  by_cases hs : u < 100
  · have j1 : (u : Int) < 100 := by omega
    have hwr : IntKind.i64.wrap (u : Int) = (u : Int) := IntWalk.i64_in _ (by omega)
    have hB : Hid (Below w.heap.size w w) := Below.refl _ _
    have hSm := Lib.hid (Tryz.internal_strconv_small u hs w)
    clear hs hu
    go_enter Tryz.func88, Tryz.ntmps88
    go_wp2_with (go_at_call 104; refine hSm.out.mono ?_; rintro e w' ⟨rfl, rfl⟩)
    go_ret
    exact ⟨rfl, hB.out⟩
  · have j1 : ¬ (u : Int) < 100 := by omega
    have hu1 : 1 ≤ u := by omega
    have hnd20 : Lib.nDigits u ≤ 20 := by have := Lib.numDigits_eq u hu1 hu; split at this <;> omega
    have hal : Tryz.prog.arrayLen 152 = 24 := by kernel_rfl
    have hH0 := zeros_at0 w 152 (Lib.nDigits u) (by omega)
    have hfmt := Tryz.internal_strconv_formatBase10 w.heap.size 0 24 u (Array.replicate (Lib.nDigits u) 0) (w.alloc (.cells Lib.zeros24 152)) hH0 (by rw [Array.size_replicate]; exact Lib.lt_pow_nDigits u) hu (by rw [Array.size_replicate]; omega)
    rw [Array.size_replicate] at hfmt
    have hndc := Lib.hid (Tryz.internal_strconv_numDigits u hu1 hu (w.alloc (.cells Lib.zeros24 152)) (Lib.tabIs_alloc htab _))
    have HH0 := Lib.hid hH0
    have Hf := Lib.hid hfmt
    obtain ⟨nd, hnd⟩ : ∃ nd, nd = Lib.nDigits u := ⟨_, rfl⟩
    have hsl2 : ∀ W, (Instr.sliceAt 152 (.pointer (some ⟨w.heap.size, 0, none⟩)) none (some (.int .i64 (nd : Nat))) none).run Tryz.prog W = .ok (.slice (some ⟨w.heap.size, 0, none⟩) nd 24) W := fun W => by
      rw [run_sliceAt_array_h W 152 ⟨w.heap.size, 0, none⟩ (by kernel_rfl) .i64 (nd : Nat) (by omega) (by rw [hal]; omega)]
      rw [hal, show Tryz.prog.elem 152 = 5 by kernel_rfl]
      have hz := Tryz.sizeOf5 W
      rw [hz]
      simp [slicedAt, add0]
      (try rfl)
    have hdl : Hid ((decU u).length = nd) := by show _ = _; unfold decU; rw [Lib.decDigits_length, hnd]
    rw [← hnd] at hndc Hf HH0
    have Hnd := Lib.hid (fun (_ : Unit) => hnd)
    clear hH0 hal hfmt htab hs hu hu1 hnd20 hnd
    go_enter Tryz.func88, Tryz.ntmps88
    go_wp2_with (first
      | (go_at_call 106; refine Hf.out.mono ?_; rintro e w' ⟨rfl, k, v', dk, rfl, hF⟩
         have hcv : (convert 38 9 (.slice (some ⟨w.heap.size, 0, none⟩) nd 24)).run Tryz.prog ((putRow (fun (b : UInt8) => Value.int .u8 (b.toNat : Int)) (w.alloc (.cells Lib.zeros24 152)) w.heap.size 0 dk).drewN k) = .ok (.string ⟨(decU u).toArray⟩) ((putRow (fun (b : UInt8) => Value.int .u8 (b.toNat : Int)) (w.alloc (.cells Lib.zeros24 152)) w.heap.size 0 dk).drewN k) := (by
           have h := run_convert_bytes_back (P := Tryz.prog) ((putRow (fun (b : UInt8) => Value.int .u8 (b.toNat : Int)) (w.alloc (.cells Lib.zeros24 152)) w.heap.size 0 dk).drewN k) 38 9 5 ⟨w.heap.size, 0, none⟩ 24 (decU u) (by kernel_rfl) (by kernel_rfl) (by kernel_rfl) (fun j hj => by
             rw [Hnd.out ()] at hF
             have hjn : j < Lib.nDigits u := by rw [← Hnd.out (), ← hdl.out]; exact hj
             rw [show (decU u)[j] = dk[j]! from Lib.row_is_numeral hF j hj, Lib.add_plain, World.cell?_drewN]
             have hz := HH0.out
             rw [Hnd.out ()] at hz
             exact cell?_putRow (fun (b : UInt8) => Value.int .u8 (b.toNat : Int)) _ w.heap.size 0 _ dk hz (by rw [hF.size, Array.size_replicate]) j (by rw [hF.size]; exact hjn))
           rw [hdl.out] at h
           exact h)
         clear hF)
      | (go_at_call 105; refine hndc.out.mono ?_; rintro e w' ⟨rfl, rfl⟩))
    go_ret
    obtain ⟨os, eo⟩ := fin0 w (.cells Lib.zeros24 152) dk k
    exact ⟨rfl, by rw [eo]; exact Lib.below_grow _ w (Nat.le_refl _) k os⟩
theorem format_uint (u : Nat) (hu : u < 18446744073709551616) (w : World) (htab : PTab w) : Calls Tryz.prog 70 #[.int .u64 (u : Nat), .int .i64 10] w (belowPost (.string ⟨(decU u).toArray⟩) w) := by
  have H := Lib.hid (iformat_uint u hu w htab)
  clear htab hu
  go_enter Tryz.func70, Tryz.ntmps70
  go_wp2_with (go_at_call 88; refine H.out.mono ?_; rintro e w' ⟨rfl, z⟩; have B := Lib.hid z)
  go_ret
  exact ⟨rfl, B.out⟩
theorem itoa_nat (n : Nat) (hn : n ≤ 9223372036854775807) (w : World) (htab : PTab w) : Calls Tryz.prog 68 #[.int .i64 (n : Nat)] w (belowPost (.string ⟨(decU n).toArray⟩) w) :=
  (Tryz.strconv_Itoa (n : Nat) (by omega) (by omega) w htab).mono fun e w' ⟨q, k, os, e2⟩ => ⟨by rw [q, Lib.itoa_nonneg]; rfl, by rw [e2]; exact Lib.below_grow _ w (Nat.le_refl _) k os⟩
end Go.Proofs.YtfhdiimcimafkaaGreatDoor
/- strings.Builder's WriteString and String over this program (the library's contracts, laid by hand where the tool had none). -/
namespace Go.Proofs
open Go.Shelf
def Tryz.lays166_ren : Go.Shelf.Ren := ⟨fun | 166 => 67 | 240 => 86 | 276 => 102 | n => n, fun | 0 => 0 | 3 => 3 | 4 => 4 | 5 => 5 | 9 => 9 | 20 => 20 | 37 => 38 | 70 => 88 | 72 => 90 | 75 => 113 | 80 => 92 | 164 => 149 | n => n, fun | n => n⟩
theorem Tryz.lays166 : Go.Proofs.Lays.n166 Tryz.prog Tryz.lays166_ren := {
  mixed := by kernel_rfl
  f166 := Tryz.func67.trans (congrArg some (by kernel_rfl))
  f240 := Tryz.func86.trans (congrArg some (by kernel_rfl))
  f276 := Tryz.func102.trans (congrArg some (by kernel_rfl))
  t0 := Tryz.underlying0
  a0 := Tryz.isAgg0
  z0 := Tryz.sizeOf0
  v0 := Tryz.zeroValue0
  t3 := Tryz.underlying3
  a3 := Tryz.isAgg3
  z3 := Tryz.sizeOf3
  v3 := Tryz.zeroValue3
  t4 := Tryz.underlying4
  a4 := Tryz.isAgg4
  z4 := Tryz.sizeOf4
  v4 := Tryz.zeroValue4
  t9 := Tryz.underlying9
  a9 := Tryz.isAgg9
  z9 := Tryz.sizeOf9
  v9 := Tryz.zeroValue9
  t20 := Tryz.underlying20
  a20 := Tryz.isAgg20
  z20 := Tryz.sizeOf20
  v20 := Tryz.zeroValue20
  t37 := Tryz.underlying38
  a37 := Tryz.isAgg38
  z37 := Tryz.sizeOf38
  v37 := Tryz.zeroValue38
  t70 := Tryz.underlying88
  a70 := Tryz.isAgg88
  z70 := Tryz.sizeOf88
  v70 := Tryz.zeroValue88
  t72 := Tryz.underlying90
  a72 := Tryz.isAgg90
  z72 := Tryz.sizeOf90
  v72 := Tryz.zeroValue90
  t75 := Tryz.underlying113
  a75 := Tryz.isAgg113
  z75 := Tryz.sizeOf113
  v75 := Tryz.zeroValue113
  t164 := Tryz.underlying149
  a164 := Tryz.isAgg149
  z164 := Tryz.sizeOf149
  v164 := Tryz.zeroValue149
}
theorem Tryz.Builder_Extra_166 : Builder.Extra Tryz.prog Tryz.lays166_ren := {
  sizeBuilder := by kernel_rfl
  liesBuilder := by kernel_rfl
  t5 := Tryz.underlying5
  a5 := Tryz.isAgg5
  z5 := Tryz.sizeOf5
  v5 := Tryz.zeroValue5
  infoByte := by kernel_rfl
  cellsByte := by kernel_rfl
  sizeByte := by kernel_rfl
  neB5 := by decide }
end Go.Proofs
namespace Go.Proofs.YtfhdiimcimafkaaGreatDoor
open Go.RowKit
abbrev sbT : TypeId := 90
/-- a builder that holds bytes, at block b, of those from B on -/
def SB (B b : Nat) (l : List UInt8) (w : World) : Prop := Lib.IsBuilderF sbT u8T B b (Lib.byteCells l) w
theorem SB.below {B b : Nat} {l : List UInt8} {w w' : World} (h : SB B b l w) (hb : Below w.heap.size w w') : SB B b l w' := by
  have key : ∀ {p : Value}, Lib.BuilderAtF sbT u8T B b p (Lib.byteCells l) w → Lib.BuilderAtF sbT u8T B b p (Lib.byteCells l) w' := fun {p} ⟨hB, v, hbk, ⟨hn, hown⟩, hne⟩ => by
    have hlt := (Array.getElem?_eq_some_iff.1 hbk).1
    refine ⟨hB, v, (hb.block b hlt).trans hbk, ⟨hn, ?_⟩, hne⟩
    rcases hown with h | ⟨g, cap, cur, fz, h1, h2, h3, h4⟩
    · exact Or.inl h
    · exact Or.inr ⟨g, cap, cur, fz, h1, h2, (hb.block g (Array.getElem?_eq_some_iff.1 h3).1).trans h3, h4⟩
  rcases h with h | h
  · exact Or.inl (key h)
  · exact Or.inr (key h)
theorem SB.new (w : World) : SB w.heap.size w.heap.size [] (w.alloc (.cells #[.pointer none, .slice none 0 0] sbT)) := Lib.IsBuilderF.of (Lib.fresh_isBuilder sbT u8T w)
theorem strCells_u8 (s : List UInt8) : Lib.strCells ⟨s.toArray⟩ = Lib.byteCells s := by
  simp [Lib.strCells, Lib.byteCells]
theorem byteCells_app (a b : List UInt8) : Lib.byteCells (a ++ b) = Lib.byteCells a ++ Lib.byteCells b := by simp [Lib.byteCells]
def sbPost (B b : Nat) (l : List UInt8) (w : World) (e : Ending) (w' : World) : Prop := (∃ v, e = .returned v) ∧ SB B b l w' ∧ Below B w w'
theorem sb_write {B b : Nat} {l : List UInt8} {w : World} (h : SB B b l w) (s : List UInt8) (hl : l.length + s.length ≤ 100000000) (hB : B ≤ w.heap.size) : Calls Tryz.prog 67 #[.pointer (some ⟨b, 0, none⟩), .string ⟨s.toArray⟩] w fun e w' => (∃ x, e = .returned (.tuple #[.int .i64 x, .nilIface])) ∧ SB B b (l ++ s) w' ∧ Below B w w' := by
  have hsz : (⟨s.toArray⟩ : ByteArray).size = s.length := by simp [ByteArray.size]
  have hk := Any.Builder_WriteString_k Tryz.lays166 Tryz.Builder_Extra_166 B b (Lib.byteCells l) ⟨s.toArray⟩ w h (by rw [hsz]; simp [Lib.byteCells]; omega) hB
  refine Calls.mono (show Calls Tryz.prog 67 _ w _ from hk) fun e w' ⟨q1, q2, q3, _⟩ => ⟨⟨_, q1⟩, ?_, q3⟩
  rw [strCells_u8, ← byteCells_app] at q2
  exact Or.inr q2
theorem sb_string {B b : Nat} {l : List UInt8} {w : World} (h : SB B b l w) (hB : B ≤ w.heap.size) : Calls Tryz.prog 43 #[.pointer (some ⟨b, 0, none⟩)] w fun e w' => e = .returned (.string ⟨l.toArray⟩) ∧ Below B w w' :=
  (Tryz.Builder_String_any_k B b l w h hB).mono fun e w' ⟨q1, _, q3, _⟩ => ⟨q1, q3⟩
end Go.Proofs.YtfhdiimcimafkaaGreatDoor
/- canon.shape of any tree. -/
namespace Go.Proofs.YtfhdiimcimafkaaGreatDoor
open Go.RowKit
theorem sb_writeS {B b : Nat} {l : List UInt8} {w : World} (h : SB B b l w) {s : ByteArray} {ls : List UInt8} (hs : s = ⟨ls.toArray⟩) (hl : l.length + ls.length ≤ 100000000) (hB : B ≤ w.heap.size) : Calls Tryz.prog 67 #[.pointer (some ⟨b, 0, none⟩), .string s] w fun e w' => (∃ x, e = .returned (.tuple #[.int .i64 x, .nilIface])) ∧ SB B b (l ++ ls) w' ∧ Below B w w' := by
  subst hs
  exact sb_write h ls (by omega) hB
theorem cat_str (a b : List UInt8) : (⟨a.toArray⟩ : ByteArray) ++ ⟨b.toArray⟩ = ⟨(a ++ b).toArray⟩ := by
  apply ByteArray.ext
  simp
/-- a part, wherever it is laid -/
def partAny (bs : List Nat) (n : Nat) (w : World) (e : Ending) (w' : World) : Prop := ∃ a, e = .returned (.slice (some a) n n) ∧ Sl w' (some a) n n bs ∧ Below w.heap.size w w'
def ShpAsk (wb : World) (Q : List NP) (N : Nat) : Prop := ∀ (t : Tr) (w : World) (v : Option Addr) (b : Nat) (l : List UInt8), (tdep t ≤ N ∧ tway t ≤ 400000) → IsN t → TreeV Q t (.pointer v) → TOk t → l.length + (shp t).length ≤ 40000000 → Below wb.heap.size wb w → SB wb.heap.size b l w →
  Calls Tryz.prog 42 #[.pointer (some ⟨b, 0, none⟩), .pointer v] w fun e w' => e = .returned (.tuple #[]) ∧ SB wb.heap.size b (l ++ shp t) w' ∧ Below wb.heap.size wb w'
set_option maxHeartbeats 4000000 in
set_option maxRecDepth 100000 in
theorem shp_leaf {wb w : World} {n b : Nat} {bs : List Nat} {y m : Nat} {kk : KV} {l : List UInt8} (hbs : bs.length ≤ 400000) (hT : PTab wb) (hN : NodeW wb n bs (y : Nat) true true m kk) (h8 : ∀ x ∈ bs, x < 256) (hy : y < 18446744073709551616) (hl : l.length + (1 + (2 * bs.length + (decU y).length + 1)) ≤ 40000000) (hB : Below wb.heap.size wb w) (hS : SB wb.heap.size b l w) :
    Calls Tryz.prog 42 #[.pointer (some ⟨b, 0, none⟩), .pointer (some ⟨n, 0, none⟩)] w fun e w' => e = .returned (.tuple #[]) ∧ SB wb.heap.size b (l ++ [76] ++ u8s (hexL bs) ++ (61 :: decU y)) w' ∧ Below wb.heap.size wb w' := by
  obtain ⟨st, hst⟩ : ∃ s : ByteArray, s = ⟨(u8s (hexL bs)).toArray⟩ := ⟨_, rfl⟩
  obtain ⟨sv, hsv⟩ : ∃ s : ByteArray, s = ⟨(decU y).toArray⟩ := ⟨_, rfl⟩
  obtain ⟨s3, hs3⟩ : ∃ s : ByteArray, s = ⟨(61 :: decU y).toArray⟩ := ⟨_, rfl⟩
  have hcat : (⟨#[61]⟩ : ByteArray) ++ sv = s3 := by rw [hsv, hs3]; exact cat_str [61] (decU y)
  have hll : (u8s (hexL bs)).length = 2 * bs.length := by simp [u8s, hexL_len]
  have hdl := decU_len hy
  have hsz : ¬ 9223372036854775807 < 1 + sv.size := by rw [hsv, show (⟨(decU y).toArray⟩ : ByteArray).size = (decU y).length by simp [ByteArray.size]]; omega
  have hPart : Hid (∀ X, Below wb.heap.size wb X → Calls Tryz.prog 63 #[.pointer (some ⟨n, 0, none⟩)] X (partAny bs bs.length X)) := fun X hb => (hN.part X hb).mono fun e w' ⟨e1, e2, e3⟩ => ⟨_, e1, e2, e3⟩
  have hVal := Lib.hid hN.val
  have hKind : Hid (∀ X, Below wb.heap.size wb X → Calls Tryz.prog 36 #[.pointer (some ⟨n, 0, none⟩)] X fun e w' => e = .returned (.int .i64 1) ∧ X = w') := fun X hb => hN.kind X hb
  have hText : Hid (∀ X a, Sl X (some a) bs.length bs.length bs → Calls Tryz.prog 69 #[.slice (some a) bs.length bs.length] X (belowPost (.string st) X)) := fun X a h => by rw [hst]; exact keys_text h (by omega)
  have hUint : Hid (∀ X, Below wb.heap.size wb X → Calls Tryz.prog 70 #[.int .u64 (y : Nat), .int .i64 10] X (belowPost (.string sv) X)) := fun X hb => by rw [hsv]; exact format_uint y hy X (hT.below hb)
  have hW1 : Hid (Calls Tryz.prog 67 #[.pointer (some ⟨b, 0, none⟩), .string ⟨#[76]⟩] w fun e w' => (∃ x, e = .returned (.tuple #[.int .i64 x, .nilIface])) ∧ SB wb.heap.size b (l ++ [76]) w' ∧ Below wb.heap.size w w') := sb_writeS hS rfl (by simp; omega) hB.size
  have hW2 : Hid (∀ X, SB wb.heap.size b (l ++ [76]) X → wb.heap.size ≤ X.heap.size → Calls Tryz.prog 67 #[.pointer (some ⟨b, 0, none⟩), .string st] X fun e w' => (∃ x, e = .returned (.tuple #[.int .i64 x, .nilIface])) ∧ SB wb.heap.size b (l ++ [76] ++ u8s (hexL bs)) w' ∧ Below wb.heap.size X w') := fun X h1 h2 => sb_writeS h1 hst (by simp [hll]; omega) h2
  have hW3 : Hid (∀ X, SB wb.heap.size b (l ++ [76] ++ u8s (hexL bs)) X → wb.heap.size ≤ X.heap.size → Calls Tryz.prog 67 #[.pointer (some ⟨b, 0, none⟩), .string s3] X fun e w' => (∃ x, e = .returned (.tuple #[.int .i64 x, .nilIface])) ∧ SB wb.heap.size b (l ++ [76] ++ u8s (hexL bs) ++ (61 :: decU y)) w' ∧ Below wb.heap.size X w') := fun X h1 h2 => sb_writeS h1 hs3 (by simp [hll]; omega) h2
  have HB := Lib.hid hB
  generalize l ++ [76] ++ u8s (hexL bs) ++ (61 :: decU y) = l3 at *
  generalize l ++ [76] ++ u8s (hexL bs) = l2 at *
  generalize l ++ [76] = l1 at *
  generalize bs.length = k at *
  clear hst hsv hs3 hll hdl hN h8 hy hl hB hS hT
  go_enter Tryz.func42, Tryz.ntmps42
  go_wp2_with (first
    | (have g0 := B5; go_at_call 67; refine (hW3.out _ S5.out B5.out.size).mono ?_; rintro e w6 ⟨⟨x6, rfl⟩, q1, q2⟩
       have S6 := Lib.hid q1
       have B6 := Lib.hid (B5.out.trans q2)
       clear q1 q2)
    | (have g0 := B4; go_at_call 70; refine (hUint.out _ B4.out).mono ?_; rintro e w5 ⟨rfl, q⟩
       have S5 := Lib.hid (S4.out.below q)
       have B5 := Lib.hid (B4.out.trans (q.mono B4.out.size))
       clear q)
    | (have g0 := B3; go_at_call 67; refine (hW2.out _ S3.out B3.out.size).mono ?_; rintro e w4 ⟨⟨x4, rfl⟩, q1, q2⟩
       have S4 := Lib.hid q1
       have B4 := Lib.hid (B3.out.trans q2)
       clear q1 q2)
    | (have g0 := B2; go_at_call 69; refine (hText.out _ _ P2.out).mono ?_; rintro e w3 ⟨rfl, q⟩
       have S3 := Lib.hid (S2.out.below q)
       have B3 := Lib.hid (B2.out.trans (q.mono B2.out.size))
       clear q)
    | (have g0 := B1; go_at_call 63; refine (hPart.out _ B1.out).mono ?_; rintro e w2 ⟨a2, rfl, q0, q⟩
       have P2 := Lib.hid q0
       have S2 := Lib.hid (S1.out.below q)
       have B2 := Lib.hid (B1.out.trans (q.mono B1.out.size))
       clear q q0)
    | (go_at_call 67; refine hW1.out.mono ?_; rintro e w1 ⟨⟨x1, rfl⟩, q1, q2⟩
       have S1 := Lib.hid q1
       have B1 := Lib.hid (HB.out.trans q2)
       clear q1 q2)
    | (go_at_call 36; refine (hKind.out _ (by first | exact B6.out | exact HB.out)).mono ?_; rintro e w0 ⟨rfl, rfl⟩)
    | (go_at_call 37; refine (hVal.out _ HB.out).mono ?_; rintro e w0 ⟨rfl, rfl⟩))
  (try simp only [Exit.inBlock, Exit.then])
  refine bodyPost_ret (results_none rfl _ _ _) rfl ?_
  exact ⟨rfl, S6.out, B6.out⟩
set_option maxHeartbeats 4000000 in
set_option maxRecDepth 100000 in
theorem shp_in_true {wb w : World} {Q : List NP} {N n b y m : Nat} {bs : List Nat} {kk : KV} {ks : Tr} {l : List UInt8} (IH : ShpAsk wb Q N) (hT : PTab wb) (hN : NodeW wb n bs (y : Nat) true false m kk) (hm : m ≤ 256) (hks : Kids Q kk ks ks [] kk) (hx0 : knxt kk 0 = kk.head?) (h8 : ∀ x ∈ bs, x < 256) (hy : y < 18446744073709551616) (hd : tdep ks ≤ N ∧ tway ks ≤ 400000) (hbs : bs.length ≤ 400000)
    (hl : l.length + ((decU (kindOf m) ++ [60]).length + (2 * bs.length + ((if true then 61 :: decU y else []).length + ((shp ks).length + 1)))) ≤ 40000000) (hB : Below wb.heap.size wb w) (hS : SB wb.heap.size b l w) :
    Calls Tryz.prog 42 #[.pointer (some ⟨b, 0, none⟩), .pointer (some ⟨n, 0, none⟩)] w fun e w' => e = .returned (.tuple #[]) ∧ SB wb.heap.size b (l ++ (decU (kindOf m) ++ [60]) ++ u8s (hexL bs) ++ (if true then 61 :: decU y else []) ++ shp ks ++ [62]) w' ∧ Below wb.heap.size wb w' := by
  simp only [Bool.false_eq_true, if_false, if_true, List.length_cons, List.length_nil] at hl
  obtain ⟨kd, hkd⟩ : ∃ kd, kd = kindOf m := ⟨_, rfl⟩
  rw [← hkd] at hl ⊢
  have hk1 : ((kd : Int) == 1) = false := by rw [beq_eq_false_iff_ne, hkd]; have := kindOf_cases m; omega
  have hkd64 : kd ≤ 256 := by rw [hkd]; have := kindOf_cases m; omega
  obtain ⟨sk, hsk⟩ : ∃ s : ByteArray, s = ⟨(decU kd).toArray⟩ := ⟨_, rfl⟩
  obtain ⟨s1, hs1⟩ : ∃ s : ByteArray, s = ⟨(decU kd ++ [60]).toArray⟩ := ⟨_, rfl⟩
  obtain ⟨st, hst⟩ : ∃ s : ByteArray, s = ⟨(u8s (hexL bs)).toArray⟩ := ⟨_, rfl⟩
  obtain ⟨sv, hsv⟩ : ∃ s : ByteArray, s = ⟨(decU y).toArray⟩ := ⟨_, rfl⟩
  obtain ⟨s3, hs3⟩ : ∃ s : ByteArray, s = ⟨(61 :: decU y).toArray⟩ := ⟨_, rfl⟩
  have hcat1 : sk ++ (⟨#[60]⟩ : ByteArray) = s1 := by rw [hsk, hs1]; exact cat_str (decU kd) [60]
  have hcat : (⟨#[61]⟩ : ByteArray) ++ sv = s3 := by rw [hsv, hs3]; exact cat_str [61] (decU y)
  have hll : (u8s (hexL bs)).length = 2 * bs.length := by simp [u8s, hexL_len]
  have hdl := decU_len hy
  have hdk := decU_len (n := kd) (by omega)
  have hsz : ¬ 9223372036854775807 < 1 + sv.size := by rw [hsv, show (⟨(decU y).toArray⟩ : ByteArray).size = (decU y).length by simp [ByteArray.size]]; omega
  have hsz1 : ¬ 9223372036854775807 < sk.size + 1 := by rw [hsk, show (⟨(decU kd).toArray⟩ : ByteArray).size = (decU kd).length by simp [ByteArray.size]]; omega
  have hPart : Hid (∀ X, Below wb.heap.size wb X → Calls Tryz.prog 63 #[.pointer (some ⟨n, 0, none⟩)] X (partAny bs bs.length X)) := fun X hb => (hN.part X hb).mono fun e w' ⟨e1, e2, e3⟩ => ⟨_, e1, e2, e3⟩
  have hVal := Lib.hid hN.val
  have hKind : Hid (∀ X, Below wb.heap.size wb X → Calls Tryz.prog 36 #[.pointer (some ⟨n, 0, none⟩)] X fun e w' => e = .returned (.int .i64 (kd : Nat)) ∧ X = w') := fun X hb => by rw [hkd]; exact hN.kind X hb
  have hNx := Lib.hid hN.next
  have hN0 : Hid (∀ X, Below wb.heap.size wb X → Calls Tryz.prog 47 #[.pointer (some ⟨n, 0, none⟩), .int .i64 0] X fun e w' => e = .returned (.tuple #[.int .u8 (hdB kk : Nat), hdK kk]) ∧ Below X.heap.size X w') := fun X hb => by
    have := hNx.out X 0 hb (by omega) (by omega)
    rw [hx0, stepV_head] at this
    exact this
  have hText : Hid (∀ X a, Sl X (some a) bs.length bs.length bs → Calls Tryz.prog 69 #[.slice (some a) bs.length bs.length] X (belowPost (.string st) X)) := fun X a h => by rw [hst]; exact keys_text h (by omega)
  have hUint : Hid (∀ X, Below wb.heap.size wb X → Calls Tryz.prog 70 #[.int .u64 (y : Nat), .int .i64 10] X (belowPost (.string sv) X)) := fun X hb => by rw [hsv]; exact format_uint y hy X (hT.below hb)
  have hItoa : Hid (∀ X, Below wb.heap.size wb X → Calls Tryz.prog 68 #[.int .i64 (kd : Nat)] X (belowPost (.string sk) X)) := fun X hb => by rw [hsk]; exact itoa_nat kd (by omega) X (hT.below hb)
  have hW1 : Hid (∀ X, SB wb.heap.size b l X → wb.heap.size ≤ X.heap.size → Calls Tryz.prog 67 #[.pointer (some ⟨b, 0, none⟩), .string s1] X fun e w' => (∃ x, e = .returned (.tuple #[.int .i64 x, .nilIface])) ∧ SB wb.heap.size b (l ++ (decU kd ++ [60])) w' ∧ Below wb.heap.size X w') := fun X h1 h2 => sb_writeS h1 hs1 (by omega) h2
  have hW2 : Hid (∀ X, SB wb.heap.size b (l ++ (decU kd ++ [60])) X → wb.heap.size ≤ X.heap.size → Calls Tryz.prog 67 #[.pointer (some ⟨b, 0, none⟩), .string st] X fun e w' => (∃ x, e = .returned (.tuple #[.int .i64 x, .nilIface])) ∧ SB wb.heap.size b (l ++ (decU kd ++ [60]) ++ u8s (hexL bs)) w' ∧ Below wb.heap.size X w') := fun X h1 h2 => sb_writeS h1 hst (by rw [List.length_append, hll]; omega) h2
  have hW3 : Hid (∀ X, SB wb.heap.size b (l ++ (decU kd ++ [60]) ++ u8s (hexL bs)) X → wb.heap.size ≤ X.heap.size → Calls Tryz.prog 67 #[.pointer (some ⟨b, 0, none⟩), .string s3] X fun e w' => (∃ x, e = .returned (.tuple #[.int .i64 x, .nilIface])) ∧ SB wb.heap.size b (l ++ (decU kd ++ [60]) ++ u8s (hexL bs) ++ (61 :: decU y)) w' ∧ Below wb.heap.size X w') := fun X h1 h2 => sb_writeS h1 hs3 (by rw [List.length_append, List.length_append, hll, List.length_cons]; omega) h2
  obtain ⟨l3, hl3⟩ : ∃ l3, l3 = l ++ (decU kd ++ [60]) ++ u8s (hexL bs) ++ (if true then 61 :: decU y else []) := ⟨_, rfl⟩
  have hlen3 : Hid (l3.length + ((shp ks).length + 1) ≤ 40000000) := by
    show _ ≤ _
    rw [hl3, List.length_append, List.length_append, List.length_append, hll]
    simp only [Bool.false_eq_true, if_false, if_true, List.length_cons, List.length_nil]
    omega
  have HB := Lib.hid hB
  have HS := Lib.hid hS
  have HIH := Lib.hid IH
  have Hd := Lib.hid hd
  have HKs := Lib.hid hks
  rw [← hl3]
  simp only [if_true] at hl3
  rw [← hl3] at hW3
  generalize hS0 : shp ks = s0 at *
  have hst0 : Hid (([] : List UInt8) ++ shp ks = s0) := by show _ = _; rw [List.nil_append, hS0]
  generalize l ++ (decU kd ++ [60]) = l1 at *
  try generalize l1 ++ u8s (hexL bs) = l2 at *
  generalize bs.length = k at *
  clear hst hsv hs3 hsk hs1 hll hdl hdk hN h8 hy hl hB hS hkd hks hx0 hd IH hl3 hS0
  go_enter Tryz.func42, Tryz.ntmps42
  go_wp2_with (first
    | (have g0 := B6; go_at_call 47; refine (hN0.out _ B6.out).mono ?_; rintro e w7 ⟨rfl, q⟩
       have S7 := Lib.hid (S6.out.below q)
       have B7 := Lib.hid (B6.out.trans (q.mono B6.out.size))
       clear q)
    | (have g0 := B5; go_at_call 67; refine (hW3.out _ S5.out B5.out.size).mono ?_; rintro e w6 ⟨⟨x6, rfl⟩, q1, q2⟩
       have S6 := Lib.hid q1
       have B6 := Lib.hid (B5.out.trans q2)
       clear q1 q2)
    | (have g0 := B4; go_at_call 70; refine (hUint.out _ B4.out).mono ?_; rintro e w5 ⟨rfl, q⟩
       have S5 := Lib.hid (S4.out.below q)
       have B5 := Lib.hid (B4.out.trans (q.mono B4.out.size))
       clear q)
    | (have g0 := B3; go_at_call 67; refine (hW2.out _ S3.out B3.out.size).mono ?_; rintro e w4 ⟨⟨x4, rfl⟩, q1, q2⟩
       have S4 := Lib.hid q1
       have B4 := Lib.hid (B3.out.trans q2)
       clear q1 q2)
    | (have g0 := B2; go_at_call 69; refine (hText.out _ _ P2.out).mono ?_; rintro e w3 ⟨rfl, q⟩
       have S3 := Lib.hid (S2.out.below q)
       have B3 := Lib.hid (B2.out.trans (q.mono B2.out.size))
       clear q)
    | (have g0 := B1; go_at_call 63; refine (hPart.out _ B1.out).mono ?_; rintro e w2 ⟨a2, rfl, q0, q⟩
       have P2 := Lib.hid q0
       have S2 := Lib.hid (S1.out.below q)
       have B2 := Lib.hid (B1.out.trans (q.mono B1.out.size))
       clear q q0)
    | (have g0 := B0; go_at_call 67; refine (hW1.out _ S0.out B0.out.size).mono ?_; rintro e w1 ⟨⟨x1, rfl⟩, q1, q2⟩
       have S1 := Lib.hid q1
       have B1 := Lib.hid (B0.out.trans q2)
       clear q1 q2)
    | (go_at_call 68; refine (hItoa.out _ HB.out).mono ?_; rintro e w0 ⟨rfl, q⟩
       have S0 := Lib.hid (HS.out.below q)
       have B0 := Lib.hid (HB.out.trans (q.mono HB.out.size))
       clear q)
    | (go_at_call 36; refine (hKind.out _ (by first | exact B6.out | exact B4.out | exact HB.out)).mono ?_; rintro e wk ⟨rfl, rfl⟩)
    | (go_at_call 37; refine (hVal.out _ HB.out).mono ?_; rintro e wk ⟨rfl, rfl⟩))
  go_loopw [6, 7] (fun v6 v7 wr => ∃ (r : Tr) (A lr : KV) (dn : List UInt8), v6 = .int .u8 (hdB lr : Nat) ∧ v7 = hdK lr ∧ Hid (dn ++ shp r = s0) ∧ Hid (tdep r ≤ N ∧ tway r ≤ 400000) ∧ Hid (Kids Q kk ks r A lr) ∧ Hid (SB wb.heap.size b (l3 ++ dn) wr) ∧ Hid (Below wb.heap.size wb wr)) (fun v6 v7 _ => match v7 with | .pointer none => 0 | _ => 256 - (intOf v6).toNat)
  case atStart => exact ⟨ks, [], kk, [], rfl, rfl, hst0, Hd, HKs, by rw [List.append_nil]; exact S7, B7⟩
  case round =>
    clear hst0 Hd HKs S7 B7 hN0
    obtain ⟨r, A, lr, dn, rfl, rfl, hE, hdr, hKd, hSr, hBr⟩ := hrel
    by_cases hl : lr = []
    · subst hl
      obtain rfl := hKd.out.done
      have hW9 : Hid (Calls Tryz.prog 67 #[.pointer (some ⟨b, 0, none⟩), .string ⟨#[62]⟩] wr fun e w' => (∃ x, e = .returned (.tuple #[.int .i64 x, .nilIface])) ∧ SB wb.heap.size b (l3 ++ s0 ++ [62]) w' ∧ Below wb.heap.size wr w') := by
        have e := hE.out
        rw [show shp .nil = [] from rfl, List.append_nil] at e
        have h := hSr.out
        rw [e] at h
        exact sb_writeS h rfl (by have := hlen3.out; rw [List.length_append]; simp; omega) hBr.out.size
      rw [show hdK ([] : KV) = .pointer none from rfl]
      go_wp2_with (go_at_call 67; refine hW9.out.mono ?_; rintro e w9 ⟨⟨x9, rfl⟩, q1, q2⟩; have S9 := Lib.hid q1; have B9 := Lib.hid (hBr.out.trans q2); clear q1 q2)
      go_end0
      exact ⟨rfl, S9.out, B9.out⟩
    · obtain ⟨b', t, r', x, lr', rfl, rfl, hb1, hx1, hb256, ⟨k', rfl⟩, hTV, hIN, hOk, hnext, hkn⟩ := hKd.out.next hl
      rw [hb1, hx1]
      have hE2 : Hid (dn ++ (58 :: u8s (hexL [b'])) ++ shp t ++ shp r' = s0) := by show _ = _; rw [← hE.out]; simp [shp]
      have hlen := congrArg List.length hE2.out
      simp only [List.length_append] at hlen
      obtain ⟨st', hst'⟩ : ∃ s : ByteArray, s = ⟨(u8s (hexL [b'])).toArray⟩ := ⟨_, rfl⟩
      obtain ⟨s5, hs5⟩ : ∃ s : ByteArray, s = ⟨(58 :: u8s (hexL [b'])).toArray⟩ := ⟨_, rfl⟩
      have hcat5 : (⟨#[58]⟩ : ByteArray) ++ st' = s5 := by rw [hst', hs5]; exact cat_str [58] (u8s (hexL [b']))
      have hsz5 : ¬ 9223372036854775807 < 1 + st'.size := by rw [hst', show (⟨(u8s (hexL [b'])).toArray⟩ : ByteArray).size = (u8s (hexL [b'])).length by simp [ByteArray.size]]; simp [u8s, hexL_len]
      have hA : Hid (Below wr.heap.size wr (wr.alloc (.cells #[.int .u8 (b' : Nat)] 5))) := (Below.refl _ wr).alloc (Nat.le_refl _) _
      have hTx : Hid (Calls Tryz.prog 69 #[.slice (some ⟨wr.heap.size, 0, none⟩) 1 1] (wr.alloc (.cells #[.int .u8 (b' : Nat)] 5)) fun e w' => e = .returned (.string st') ∧ Below wr.heap.size wr w') := by
        refine (keys_text (sl_one wr b' 5 hb256) (by omega)).mono fun e w' ⟨q1, q2⟩ => ⟨by rw [hst']; exact q1, hA.out.trans (q2.mono hA.out.size)⟩
      have hW5 : Hid (∀ X, SB wb.heap.size b (l3 ++ dn) X → wb.heap.size ≤ X.heap.size → Calls Tryz.prog 67 #[.pointer (some ⟨b, 0, none⟩), .string s5] X fun e w' => (∃ x, e = .returned (.tuple #[.int .i64 x, .nilIface])) ∧ SB wb.heap.size b (l3 ++ dn ++ (58 :: u8s (hexL [b']))) w' ∧ Below wb.heap.size X w') := fun X h1 h2 => sb_writeS h1 hs5 (by have := hlen3.out; rw [List.length_append]; omega) h2
      have hSh : Hid (∀ X, Below wb.heap.size wb X → SB wb.heap.size b (l3 ++ dn ++ (58 :: u8s (hexL [b']))) X → Calls Tryz.prog 42 #[.pointer (some ⟨b, 0, none⟩), .pointer (some ⟨k', 0, none⟩)] X fun e w' => e = .returned (.tuple #[]) ∧ SB wb.heap.size b (l3 ++ dn ++ (58 :: u8s (hexL [b'])) ++ shp t) w' ∧ Below wb.heap.size wb w') := fun X h1 h2 =>
        HIH.out t X _ b _ (by have h2 := hdr.out; simp only [tdep, tway] at h2; omega) hIN hTV hOk (by have := hlen3.out; rw [List.length_append, List.length_append]; omega) h1 h2
      have hd2 : Hid (tdep r' ≤ N ∧ tway r' ≤ 400000) := by show _ ∧ _; have h2 := hdr.out; simp only [tdep, tway] at h2; omega
      have hN2 : Hid (∀ X, Below wb.heap.size wb X → Calls Tryz.prog 47 #[.pointer (some ⟨n, 0, none⟩), .int .i64 ((b' + 1 : Nat) : Int)] X fun e w' => e = .returned (.tuple #[.int .u8 (hdB lr' : Nat), hdK lr']) ∧ Below X.heap.size X w') := fun X hb' => by
        have := hNx.out X ((b' + 1 : Nat) : Int) hb' (by omega) (by omega)
        rw [show (((b' + 1 : Nat) : Int)) = (b' : Int) + 1 by omega, hkn, stepV_head] at this
        exact this
      have hK2 := Lib.hid hnext
      have hwb : IntKind.i64.wrap ((b' : Int) + 1) = ((b' + 1 : Nat) : Int) := by rw [show (b' : Int) + 1 = ((b' + 1 : Nat) : Int) by omega]; exact IntWalk.i64_in _ (by omega)
      have hwc : IntKind.i64.wrap (b' : Int) = (b' : Int) := IntWalk.i64_in _ (by omega)
      have hms := Lib.hid (kids_rest hnext)
      have hSA := Lib.hid hSr.out
      have he9 : Hid (l3 ++ dn ++ (58 :: u8s (hexL [b'])) ++ shp t = l3 ++ (dn ++ (58 :: u8s (hexL [b'])) ++ shp t)) := by show _ = _; simp
      generalize l3 ++ dn ++ (58 :: u8s (hexL [b'])) ++ shp t = l9 at *
      generalize l3 ++ dn ++ (58 :: u8s (hexL [b'])) = l8 at *
      generalize l3 ++ dn = l7 at *
      clear hTV hIN hOk hnext hkn hKd hl hb1 hx1 hdr hst' hs5 hlen hE
      go_wp2_with (first
        | (have g0 := B8; go_at_call 47; refine (hN2.out _ B8.out).mono ?_; rintro e w9 ⟨rfl, z⟩
           have S9 := Lib.hid (S8.out.below z)
           have B9 := Lib.hid (B8.out.trans (z.mono B8.out.size))
           clear z)
        | (have g0 := B7; go_at_call 42; refine (hSh.out _ B7.out S7.out).mono ?_; rintro e w8 ⟨rfl, z1, z2⟩
           have S8 := Lib.hid z1
           have B8 := Lib.hid z2
           clear z1 z2)
        | (have g0 := B6; go_at_call 67; refine (hW5.out _ S6.out B6.out.size).mono ?_; rintro e w7 ⟨⟨x7, rfl⟩, q1, q2⟩
           have S7 := Lib.hid q1
           have B7 := Lib.hid (B6.out.trans q2)
           clear q1 q2)
        | (go_at_call 69; refine hTx.out.mono ?_; rintro e w6 ⟨rfl, q⟩
           have S6 := Lib.hid (hSA.out.below q)
           have B6 := Lib.hid (hBr.out.trans (q.mono hBr.out.size))
           clear q))
      rw [he9.out] at S9
      go_roundw
      case rel => exact ⟨r', A ++ [(b', .pointer (some ⟨k', 0, none⟩))], lr', _, rfl, rfl, hE2, hd2, hK2, S9, B9⟩
      case measure =>
        cases lr' with
        | nil => simp [hdK, hdB, intOf]; omega
        | cons y l => have := hms.out y (by simp); simp [hdK, hdB, intOf]; split <;> omega

set_option maxHeartbeats 4000000 in
set_option maxRecDepth 100000 in
theorem shp_in_false {wb w : World} {Q : List NP} {N n b y m : Nat} {bs : List Nat} {kk : KV} {ks : Tr} {l : List UInt8} (IH : ShpAsk wb Q N) (hT : PTab wb) (hN : NodeW wb n bs (y : Nat) false false m kk) (hm : m ≤ 256) (hks : Kids Q kk ks ks [] kk) (hx0 : knxt kk 0 = kk.head?) (h8 : ∀ x ∈ bs, x < 256) (hy : y < 18446744073709551616) (hd : tdep ks ≤ N ∧ tway ks ≤ 400000) (hbs : bs.length ≤ 400000)
    (hl : l.length + ((decU (kindOf m) ++ [60]).length + (2 * bs.length + ((if false then 61 :: decU y else []).length + ((shp ks).length + 1)))) ≤ 40000000) (hB : Below wb.heap.size wb w) (hS : SB wb.heap.size b l w) :
    Calls Tryz.prog 42 #[.pointer (some ⟨b, 0, none⟩), .pointer (some ⟨n, 0, none⟩)] w fun e w' => e = .returned (.tuple #[]) ∧ SB wb.heap.size b (l ++ (decU (kindOf m) ++ [60]) ++ u8s (hexL bs) ++ (if false then 61 :: decU y else []) ++ shp ks ++ [62]) w' ∧ Below wb.heap.size wb w' := by
  simp only [Bool.false_eq_true, if_false, if_true, List.length_cons, List.length_nil] at hl
  obtain ⟨kd, hkd⟩ : ∃ kd, kd = kindOf m := ⟨_, rfl⟩
  rw [← hkd] at hl ⊢
  have hk1 : ((kd : Int) == 1) = false := by rw [beq_eq_false_iff_ne, hkd]; have := kindOf_cases m; omega
  have hkd64 : kd ≤ 256 := by rw [hkd]; have := kindOf_cases m; omega
  obtain ⟨sk, hsk⟩ : ∃ s : ByteArray, s = ⟨(decU kd).toArray⟩ := ⟨_, rfl⟩
  obtain ⟨s1, hs1⟩ : ∃ s : ByteArray, s = ⟨(decU kd ++ [60]).toArray⟩ := ⟨_, rfl⟩
  obtain ⟨st, hst⟩ : ∃ s : ByteArray, s = ⟨(u8s (hexL bs)).toArray⟩ := ⟨_, rfl⟩
  obtain ⟨sv, hsv⟩ : ∃ s : ByteArray, s = ⟨(decU y).toArray⟩ := ⟨_, rfl⟩
  obtain ⟨s3, hs3⟩ : ∃ s : ByteArray, s = ⟨(61 :: decU y).toArray⟩ := ⟨_, rfl⟩
  have hcat1 : sk ++ (⟨#[60]⟩ : ByteArray) = s1 := by rw [hsk, hs1]; exact cat_str (decU kd) [60]
  have hcat : (⟨#[61]⟩ : ByteArray) ++ sv = s3 := by rw [hsv, hs3]; exact cat_str [61] (decU y)
  have hll : (u8s (hexL bs)).length = 2 * bs.length := by simp [u8s, hexL_len]
  have hdl := decU_len hy
  have hdk := decU_len (n := kd) (by omega)
  have hsz : ¬ 9223372036854775807 < 1 + sv.size := by rw [hsv, show (⟨(decU y).toArray⟩ : ByteArray).size = (decU y).length by simp [ByteArray.size]]; omega
  have hsz1 : ¬ 9223372036854775807 < sk.size + 1 := by rw [hsk, show (⟨(decU kd).toArray⟩ : ByteArray).size = (decU kd).length by simp [ByteArray.size]]; omega
  have hPart : Hid (∀ X, Below wb.heap.size wb X → Calls Tryz.prog 63 #[.pointer (some ⟨n, 0, none⟩)] X (partAny bs bs.length X)) := fun X hb => (hN.part X hb).mono fun e w' ⟨e1, e2, e3⟩ => ⟨_, e1, e2, e3⟩
  have hVal := Lib.hid hN.val
  have hKind : Hid (∀ X, Below wb.heap.size wb X → Calls Tryz.prog 36 #[.pointer (some ⟨n, 0, none⟩)] X fun e w' => e = .returned (.int .i64 (kd : Nat)) ∧ X = w') := fun X hb => by rw [hkd]; exact hN.kind X hb
  have hNx := Lib.hid hN.next
  have hN0 : Hid (∀ X, Below wb.heap.size wb X → Calls Tryz.prog 47 #[.pointer (some ⟨n, 0, none⟩), .int .i64 0] X fun e w' => e = .returned (.tuple #[.int .u8 (hdB kk : Nat), hdK kk]) ∧ Below X.heap.size X w') := fun X hb => by
    have := hNx.out X 0 hb (by omega) (by omega)
    rw [hx0, stepV_head] at this
    exact this
  have hText : Hid (∀ X a, Sl X (some a) bs.length bs.length bs → Calls Tryz.prog 69 #[.slice (some a) bs.length bs.length] X (belowPost (.string st) X)) := fun X a h => by rw [hst]; exact keys_text h (by omega)
  have hUint : Hid (∀ X, Below wb.heap.size wb X → Calls Tryz.prog 70 #[.int .u64 (y : Nat), .int .i64 10] X (belowPost (.string sv) X)) := fun X hb => by rw [hsv]; exact format_uint y hy X (hT.below hb)
  have hItoa : Hid (∀ X, Below wb.heap.size wb X → Calls Tryz.prog 68 #[.int .i64 (kd : Nat)] X (belowPost (.string sk) X)) := fun X hb => by rw [hsk]; exact itoa_nat kd (by omega) X (hT.below hb)
  have hW1 : Hid (∀ X, SB wb.heap.size b l X → wb.heap.size ≤ X.heap.size → Calls Tryz.prog 67 #[.pointer (some ⟨b, 0, none⟩), .string s1] X fun e w' => (∃ x, e = .returned (.tuple #[.int .i64 x, .nilIface])) ∧ SB wb.heap.size b (l ++ (decU kd ++ [60])) w' ∧ Below wb.heap.size X w') := fun X h1 h2 => sb_writeS h1 hs1 (by omega) h2
  have hW2 : Hid (∀ X, SB wb.heap.size b (l ++ (decU kd ++ [60])) X → wb.heap.size ≤ X.heap.size → Calls Tryz.prog 67 #[.pointer (some ⟨b, 0, none⟩), .string st] X fun e w' => (∃ x, e = .returned (.tuple #[.int .i64 x, .nilIface])) ∧ SB wb.heap.size b (l ++ (decU kd ++ [60]) ++ u8s (hexL bs)) w' ∧ Below wb.heap.size X w') := fun X h1 h2 => sb_writeS h1 hst (by rw [List.length_append, hll]; omega) h2
  have hW3 : Hid (∀ X, SB wb.heap.size b (l ++ (decU kd ++ [60]) ++ u8s (hexL bs)) X → wb.heap.size ≤ X.heap.size → Calls Tryz.prog 67 #[.pointer (some ⟨b, 0, none⟩), .string s3] X fun e w' => (∃ x, e = .returned (.tuple #[.int .i64 x, .nilIface])) ∧ SB wb.heap.size b (l ++ (decU kd ++ [60]) ++ u8s (hexL bs) ++ (61 :: decU y)) w' ∧ Below wb.heap.size X w') := fun X h1 h2 => sb_writeS h1 hs3 (by rw [List.length_append, List.length_append, hll, List.length_cons]; omega) h2
  obtain ⟨l3, hl3⟩ : ∃ l3, l3 = l ++ (decU kd ++ [60]) ++ u8s (hexL bs) ++ (if false then 61 :: decU y else []) := ⟨_, rfl⟩
  have hlen3 : Hid (l3.length + ((shp ks).length + 1) ≤ 40000000) := by
    show _ ≤ _
    rw [hl3, List.length_append, List.length_append, List.length_append, hll]
    simp only [Bool.false_eq_true, if_false, if_true, List.length_cons, List.length_nil]
    omega
  have HB := Lib.hid hB
  have HS := Lib.hid hS
  have HIH := Lib.hid IH
  have Hd := Lib.hid hd
  have HKs := Lib.hid hks
  rw [← hl3]
  simp only [Bool.false_eq_true, if_false, List.append_nil] at hl3
  rw [← hl3] at hW2
  clear hW3 hUint hcat hsz
  generalize hS0 : shp ks = s0 at *
  have hst0 : Hid (([] : List UInt8) ++ shp ks = s0) := by show _ = _; rw [List.nil_append, hS0]
  generalize l ++ (decU kd ++ [60]) = l1 at *
  try generalize l1 ++ u8s (hexL bs) = l2 at *
  generalize bs.length = k at *
  clear hst hsv hs3 hsk hs1 hll hdl hdk hN h8 hy hl hB hS hkd hks hx0 hd IH hl3 hS0
  go_enter Tryz.func42, Tryz.ntmps42
  go_wp2_with (first
    | (have g0 := B4; go_at_call 47; refine (hN0.out _ B4.out).mono ?_; rintro e w7 ⟨rfl, q⟩
       have S7 := Lib.hid (S4.out.below q)
       have B7 := Lib.hid (B4.out.trans (q.mono B4.out.size))
       clear q)
    | (have g0 := B3; go_at_call 67; refine (hW2.out _ S3.out B3.out.size).mono ?_; rintro e w4 ⟨⟨x4, rfl⟩, q1, q2⟩
       have S4 := Lib.hid q1
       have B4 := Lib.hid (B3.out.trans q2)
       clear q1 q2)
    | (have g0 := B2; go_at_call 69; refine (hText.out _ _ P2.out).mono ?_; rintro e w3 ⟨rfl, q⟩
       have S3 := Lib.hid (S2.out.below q)
       have B3 := Lib.hid (B2.out.trans (q.mono B2.out.size))
       clear q)
    | (have g0 := B1; go_at_call 63; refine (hPart.out _ B1.out).mono ?_; rintro e w2 ⟨a2, rfl, q0, q⟩
       have P2 := Lib.hid q0
       have S2 := Lib.hid (S1.out.below q)
       have B2 := Lib.hid (B1.out.trans (q.mono B1.out.size))
       clear q q0)
    | (have g0 := B0; go_at_call 67; refine (hW1.out _ S0.out B0.out.size).mono ?_; rintro e w1 ⟨⟨x1, rfl⟩, q1, q2⟩
       have S1 := Lib.hid q1
       have B1 := Lib.hid (B0.out.trans q2)
       clear q1 q2)
    | (go_at_call 68; refine (hItoa.out _ HB.out).mono ?_; rintro e w0 ⟨rfl, q⟩
       have S0 := Lib.hid (HS.out.below q)
       have B0 := Lib.hid (HB.out.trans (q.mono HB.out.size))
       clear q)
    | (go_at_call 36; refine (hKind.out _ (by first | exact B6.out | exact B4.out | exact HB.out)).mono ?_; rintro e wk ⟨rfl, rfl⟩)
    | (go_at_call 37; refine (hVal.out _ HB.out).mono ?_; rintro e wk ⟨rfl, rfl⟩))
  go_loopw [6, 7] (fun v6 v7 wr => ∃ (r : Tr) (A lr : KV) (dn : List UInt8), v6 = .int .u8 (hdB lr : Nat) ∧ v7 = hdK lr ∧ Hid (dn ++ shp r = s0) ∧ Hid (tdep r ≤ N ∧ tway r ≤ 400000) ∧ Hid (Kids Q kk ks r A lr) ∧ Hid (SB wb.heap.size b (l3 ++ dn) wr) ∧ Hid (Below wb.heap.size wb wr)) (fun v6 v7 _ => match v7 with | .pointer none => 0 | _ => 256 - (intOf v6).toNat)
  case atStart => exact ⟨ks, [], kk, [], rfl, rfl, hst0, Hd, HKs, by rw [List.append_nil]; exact S7, B7⟩
  case round =>
    clear hst0 Hd HKs S7 B7 hN0
    obtain ⟨r, A, lr, dn, rfl, rfl, hE, hdr, hKd, hSr, hBr⟩ := hrel
    by_cases hl : lr = []
    · subst hl
      obtain rfl := hKd.out.done
      have hW9 : Hid (Calls Tryz.prog 67 #[.pointer (some ⟨b, 0, none⟩), .string ⟨#[62]⟩] wr fun e w' => (∃ x, e = .returned (.tuple #[.int .i64 x, .nilIface])) ∧ SB wb.heap.size b (l3 ++ s0 ++ [62]) w' ∧ Below wb.heap.size wr w') := by
        have e := hE.out
        rw [show shp .nil = [] from rfl, List.append_nil] at e
        have h := hSr.out
        rw [e] at h
        exact sb_writeS h rfl (by have := hlen3.out; rw [List.length_append]; simp; omega) hBr.out.size
      rw [show hdK ([] : KV) = .pointer none from rfl]
      go_wp2_with (go_at_call 67; refine hW9.out.mono ?_; rintro e w9 ⟨⟨x9, rfl⟩, q1, q2⟩; have S9 := Lib.hid q1; have B9 := Lib.hid (hBr.out.trans q2); clear q1 q2)
      go_end0
      exact ⟨rfl, S9.out, B9.out⟩
    · obtain ⟨b', t, r', x, lr', rfl, rfl, hb1, hx1, hb256, ⟨k', rfl⟩, hTV, hIN, hOk, hnext, hkn⟩ := hKd.out.next hl
      rw [hb1, hx1]
      have hE2 : Hid (dn ++ (58 :: u8s (hexL [b'])) ++ shp t ++ shp r' = s0) := by show _ = _; rw [← hE.out]; simp [shp]
      have hlen := congrArg List.length hE2.out
      simp only [List.length_append] at hlen
      obtain ⟨st', hst'⟩ : ∃ s : ByteArray, s = ⟨(u8s (hexL [b'])).toArray⟩ := ⟨_, rfl⟩
      obtain ⟨s5, hs5⟩ : ∃ s : ByteArray, s = ⟨(58 :: u8s (hexL [b'])).toArray⟩ := ⟨_, rfl⟩
      have hcat5 : (⟨#[58]⟩ : ByteArray) ++ st' = s5 := by rw [hst', hs5]; exact cat_str [58] (u8s (hexL [b']))
      have hsz5 : ¬ 9223372036854775807 < 1 + st'.size := by rw [hst', show (⟨(u8s (hexL [b'])).toArray⟩ : ByteArray).size = (u8s (hexL [b'])).length by simp [ByteArray.size]]; simp [u8s, hexL_len]
      have hA : Hid (Below wr.heap.size wr (wr.alloc (.cells #[.int .u8 (b' : Nat)] 5))) := (Below.refl _ wr).alloc (Nat.le_refl _) _
      have hTx : Hid (Calls Tryz.prog 69 #[.slice (some ⟨wr.heap.size, 0, none⟩) 1 1] (wr.alloc (.cells #[.int .u8 (b' : Nat)] 5)) fun e w' => e = .returned (.string st') ∧ Below wr.heap.size wr w') := by
        refine (keys_text (sl_one wr b' 5 hb256) (by omega)).mono fun e w' ⟨q1, q2⟩ => ⟨by rw [hst']; exact q1, hA.out.trans (q2.mono hA.out.size)⟩
      have hW5 : Hid (∀ X, SB wb.heap.size b (l3 ++ dn) X → wb.heap.size ≤ X.heap.size → Calls Tryz.prog 67 #[.pointer (some ⟨b, 0, none⟩), .string s5] X fun e w' => (∃ x, e = .returned (.tuple #[.int .i64 x, .nilIface])) ∧ SB wb.heap.size b (l3 ++ dn ++ (58 :: u8s (hexL [b']))) w' ∧ Below wb.heap.size X w') := fun X h1 h2 => sb_writeS h1 hs5 (by have := hlen3.out; rw [List.length_append]; omega) h2
      have hSh : Hid (∀ X, Below wb.heap.size wb X → SB wb.heap.size b (l3 ++ dn ++ (58 :: u8s (hexL [b']))) X → Calls Tryz.prog 42 #[.pointer (some ⟨b, 0, none⟩), .pointer (some ⟨k', 0, none⟩)] X fun e w' => e = .returned (.tuple #[]) ∧ SB wb.heap.size b (l3 ++ dn ++ (58 :: u8s (hexL [b'])) ++ shp t) w' ∧ Below wb.heap.size wb w') := fun X h1 h2 =>
        HIH.out t X _ b _ (by have h2 := hdr.out; simp only [tdep, tway] at h2; omega) hIN hTV hOk (by have := hlen3.out; rw [List.length_append, List.length_append]; omega) h1 h2
      have hd2 : Hid (tdep r' ≤ N ∧ tway r' ≤ 400000) := by show _ ∧ _; have h2 := hdr.out; simp only [tdep, tway] at h2; omega
      have hN2 : Hid (∀ X, Below wb.heap.size wb X → Calls Tryz.prog 47 #[.pointer (some ⟨n, 0, none⟩), .int .i64 ((b' + 1 : Nat) : Int)] X fun e w' => e = .returned (.tuple #[.int .u8 (hdB lr' : Nat), hdK lr']) ∧ Below X.heap.size X w') := fun X hb' => by
        have := hNx.out X ((b' + 1 : Nat) : Int) hb' (by omega) (by omega)
        rw [show (((b' + 1 : Nat) : Int)) = (b' : Int) + 1 by omega, hkn, stepV_head] at this
        exact this
      have hK2 := Lib.hid hnext
      have hwb : IntKind.i64.wrap ((b' : Int) + 1) = ((b' + 1 : Nat) : Int) := by rw [show (b' : Int) + 1 = ((b' + 1 : Nat) : Int) by omega]; exact IntWalk.i64_in _ (by omega)
      have hwc : IntKind.i64.wrap (b' : Int) = (b' : Int) := IntWalk.i64_in _ (by omega)
      have hms := Lib.hid (kids_rest hnext)
      have hSA := Lib.hid hSr.out
      have he9 : Hid (l3 ++ dn ++ (58 :: u8s (hexL [b'])) ++ shp t = l3 ++ (dn ++ (58 :: u8s (hexL [b'])) ++ shp t)) := by show _ = _; simp
      generalize l3 ++ dn ++ (58 :: u8s (hexL [b'])) ++ shp t = l9 at *
      generalize l3 ++ dn ++ (58 :: u8s (hexL [b'])) = l8 at *
      generalize l3 ++ dn = l7 at *
      clear hTV hIN hOk hnext hkn hKd hl hb1 hx1 hdr hst' hs5 hlen hE
      go_wp2_with (first
        | (have g0 := B8; go_at_call 47; refine (hN2.out _ B8.out).mono ?_; rintro e w9 ⟨rfl, z⟩
           have S9 := Lib.hid (S8.out.below z)
           have B9 := Lib.hid (B8.out.trans (z.mono B8.out.size))
           clear z)
        | (have g0 := B7; go_at_call 42; refine (hSh.out _ B7.out S7.out).mono ?_; rintro e w8 ⟨rfl, z1, z2⟩
           have S8 := Lib.hid z1
           have B8 := Lib.hid z2
           clear z1 z2)
        | (have g0 := B6; go_at_call 67; refine (hW5.out _ S6.out B6.out.size).mono ?_; rintro e w7 ⟨⟨x7, rfl⟩, q1, q2⟩
           have S7 := Lib.hid q1
           have B7 := Lib.hid (B6.out.trans q2)
           clear q1 q2)
        | (go_at_call 69; refine hTx.out.mono ?_; rintro e w6 ⟨rfl, q⟩
           have S6 := Lib.hid (hSA.out.below q)
           have B6 := Lib.hid (hBr.out.trans (q.mono hBr.out.size))
           clear q))
      rw [he9.out] at S9
      go_roundw
      case rel => exact ⟨r', A ++ [(b', .pointer (some ⟨k', 0, none⟩))], lr', _, rfl, rfl, hE2, hd2, hK2, S9, B9⟩
      case measure =>
        cases lr' with
        | nil => simp [hdK, hdB, intOf]; omega
        | cons y l => have := hms.out y (by simp); simp [hdK, hdB, intOf]; split <;> omega
theorem shp_any {wb w0 : World} {Q : List NP} (hT : PTab wb) (hQ : StoreP NoB w0 wb Q) : ∀ N, ShpAsk wb Q N
  | N, .nil, _, _, _, _, _, hn, _, _, _, _, _ => hn.elim
  | N, .kid .., _, _, _, _, _, hn, _, _, _, _, _ => hn.elim
  | 0, .node .., _, _, _, _, hd, _, _, _, _, _, _ => by simp only [tdep] at hd; omega
  | N + 1, .node bs v has leaf ks, w, a, b, l, hd, hn, hV, hO, hl, hB, hS => by
    have hI : TreeIn Q 0 (.node bs v has leaf ks) (.pointer a) [] := by
      rcases hV with ⟨h, _⟩ | ⟨_, h⟩
      · cases h
      · exact h
    obtain ⟨n, kk, rfl, N1, K1, x1, _⟩ := nodew_of hQ hI hO
    obtain ⟨y, rfl⟩ : ∃ y : Nat, v = (y : Nat) := ⟨v.toNat, by have := hO.2.1; omega⟩
    have hy : y < 18446744073709551616 := by have := hO.2.2.1; omega
    have h8 := hO.1
    have hm := chain256 hO.2.2.2.2.2.1 hO.2.2.2.2.2.2
    have hkc := krowC_chain ks hO.2.2.2.2.2.1
    have hll : (u8s (hexL bs)).length = 2 * bs.length := by simp [u8s, hexL_len]
    simp only [tdep, tway] at hd
    cases leaf with
    | true =>
      obtain ⟨e1, e2⟩ := hO.2.2.2.2.1 rfl
      subst e1; subst e2
      simp only [shp, if_true, Int.toNat_natCast, List.length_append, List.length_cons, List.length_nil, hll] at hl
      have := shp_leaf (l := l) (b := b) (by omega) hT N1 h8 hy (by omega) hB hS
      simp only [shp, if_true, Int.toNat_natCast, List.append_nil]
      simp only [List.append_assoc] at this
      exact this
    | false =>
      simp only [shp, Bool.false_eq_true, if_false, Int.toNat_natCast, hkc, List.length_append, List.length_cons, List.length_nil, hll] at hl
      cases has with
      | true =>
        have := shp_in_true (l := l) (b := b) (shp_any hT hQ N) hT N1 hm K1 x1 h8 hy (by omega) (by omega) (by simp only [if_true, List.length_append, List.length_cons, List.length_nil] at hl ⊢; omega) hB hS
        simp only [shp, Bool.false_eq_true, if_false, if_true, Int.toNat_natCast, hkc]
        simp only [if_true, List.append_assoc] at this
        simp only [List.append_assoc]
        exact this
      | false =>
        have := shp_in_false (l := l) (b := b) (shp_any hT hQ N) hT N1 hm K1 x1 h8 hy (by omega) (by omega) (by simp only [Bool.false_eq_true, if_false, List.length_append, List.length_cons, List.length_nil] at hl ⊢; omega) hB hS
        simp only [shp, Bool.false_eq_true, if_false, Int.toNat_natCast, hkc]
        simp only [Bool.false_eq_true, if_false, List.append_assoc] at this
        simp only [List.append_assoc]
        exact this
end Go.Proofs.YtfhdiimcimafkaaGreatDoor
/- What the laws of the chapters 17, 30, 32 ask of pairs: whether they are too many; their tree. -/
namespace Go.Proofs.YtfhdiimcimafkaaGreatDoor
open Go.RowKit
theorem far_m {m n : Nat} {l : PL} (h : (decide (m < n) || farL 300 l) = false) : n ≤ m ∧ ∀ x ∈ l, x.1.length ≤ 300 := by
  simp only [Bool.or_eq_false_iff, decide_eq_false_iff_not] at h
  refine ⟨by omega, fun x hx => ?_⟩
  have := h.2
  unfold farL at this
  rw [List.any_eq_false] at this
  have := this x hx
  simp at this
  exact this
end Go.Proofs.YtfhdiimcimafkaaGreatDoor
/- What the texts on numbers of trees share. -/
namespace Go.Proofs.YtfhdiimcimafkaaGreatDoor
open Go.RowKit
theorem below_al (w : World) (o : Obj) : Below w.heap.size w (w.alloc o) := (Below.refl _ w).alloc (Nat.le_refl _) o
theorem treeV_nz {Q : List NP} {t : Tr} {v : Value} (h : TreeV Q t v) : t = .nil ∨ IsN t := by
  rcases h with ⟨h, _⟩ | ⟨h, _⟩
  · exact Or.inl h
  · exact Or.inr h
end Go.Proofs.YtfhdiimcimafkaaGreatDoor
/- canon.Shape. -/
namespace Go.Proofs.YtfhdiimcimafkaaGreatDoor
open Go.RowKit
theorem shape_nil {w w1 : World} {b : Nat} (hS : SB w.heap.size b [] w1) (hB : Below w.heap.size w w1) : Calls Tryz.prog 42 #[.pointer (some ⟨b, 0, none⟩), .pointer none] w1 fun e w' => e = .returned (.tuple #[]) ∧ SB w.heap.size b [46] w' ∧ Below w.heap.size w w' := by
  have hW : Hid (Calls Tryz.prog 67 #[.pointer (some ⟨b, 0, none⟩), .string ⟨#[46]⟩] w1 fun e w' => (∃ x, e = .returned (.tuple #[.int .i64 x, .nilIface])) ∧ SB w.heap.size b [46] w' ∧ Below w.heap.size w1 w') := sb_writeS hS (ls := [46]) rfl (by simp) hB.size
  have HB := Lib.hid hB
  clear hS hB
  go_enter Tryz.func42, Tryz.ntmps42
  go_wp2_with (go_at_call 67; refine hW.out.mono ?_; rintro e w9 ⟨⟨x9, rfl⟩, q1, q2⟩; have S9 := Lib.hid q1; have B9 := Lib.hid (HB.out.trans q2); clear q1 q2)
  (try simp only [Exit.inBlock, Exit.then])
  refine bodyPost_ret (results_none rfl _ _ _) rfl ?_
  exact ⟨rfl, S9.out, B9.out⟩
theorem canon_shape {w0 w : World} {Q : List NP} {t : Tr} {v : Option Addr} (hT : PTab w) (hQ : StoreP NoB w0 w Q) (hV : TreeV Q t (.pointer v)) (hO : TOk t) (hl : (shp t).length ≤ 40000000) (hw : tway t ≤ 400000) : Calls Tryz.prog 15 #[.pointer v] w (belowPost (.string ⟨(shpT t).toArray⟩) w) := by
  have hA : Below w.heap.size w (w.alloc (.cells #[.pointer none, .slice none 0 0] sbT)) := (Below.refl _ w).alloc (Nat.le_refl _) _
  have hSh : Hid (Calls Tryz.prog 42 #[.pointer (some ⟨w.heap.size, 0, none⟩), .pointer v] (w.alloc (.cells #[.pointer none, .slice none 0 0] sbT)) fun e w' => e = .returned (.tuple #[]) ∧ SB w.heap.size w.heap.size (shpT t) w' ∧ Below w.heap.size w w') := by
    rcases treeV_nz hV with h | h
    · subst h
      obtain rfl : v = none := by
        rcases hV with ⟨_, h⟩ | ⟨h, _⟩
        · simpa using h
        · exact h.elim
      exact shape_nil (SB.new w) hA
    · have := shp_any hT hQ _ t _ v w.heap.size [] ⟨Nat.le_refl _, hw⟩ h hV hO (by simpa using hl) hA (SB.new w)
      have e : shpT t = shp t := by
        cases t with
        | nil => exact h.elim
        | kid => rfl
        | node => rfl
      rw [e]
      exact this
  clear hA hT hQ hV hO hl hw
  generalize shpT t = l at *
  go_enter Tryz.func15, Tryz.ntmps15
  go_wp2_with (first
    | (go_at_call 42; refine hSh.out.mono ?_; rintro e w1 ⟨rfl, q1, q2⟩
       have S1 := Lib.hid q1
       have B1 := Lib.hid q2
       clear q1 q2)
    | (go_at_call 43; refine (sb_string S1.out B1.out.size).mono ?_; rintro e w2 ⟨rfl, q⟩
       have B2 := Lib.hid (B1.out.trans q)
       clear q))
  go_ret
  exact ⟨rfl, B2.out⟩
end Go.Proofs.YtfhdiimcimafkaaGreatDoor
/- canon.each at any tree, for callbacks that are told each node. -/
namespace Go.Proofs.YtfhdiimcimafkaaGreatDoor
open Go.RowKit
/-- what is told of a tree behind some bytes, node by node -/
def tv {α : Type} (tell : List Nat → Int → Bool → Bool → Nat → List α) : Tr → List Nat → List α
  | .nil, _ => []
  | .kid b t r, k => tv tell t (k ++ [b]) ++ tv tell r k
  | .node bs v has leaf ks, k => tell (k ++ bs) v has leaf (chain ks).length ++ tv tell ks (k ++ bs)
/-- what a callback does, at a node -/
def CbTell {α : Type} (tell : List Nat → Int → Bool → Bool → Nat → List α) (S : (Nat → Prop) → List α → World → Prop) (w : World) (fn : FuncId) (m : Nat) : Prop :=
  ∀ F L X (n : Nat) bs (val : Int) has leaf mm kk (a : Option Addr) (nn c : Nat) key, S F L X → NodeW X n bs val has leaf mm kk → Sl X a nn c key → nn ≤ 900000 → 0 ≤ val → val < 18446744073709551616 → mm ≤ 256 → Below w.heap.size w X → L.length ≤ 2000 →
    Calls Tryz.prog fn #[.slice a nn c, .pointer (some ⟨n, 0, none⟩), .pointer (some ⟨m, 0, none⟩)] X fun e X' => e = .returned (.tuple #[]) ∧ ∃ F', S F' (L ++ tell key val has leaf mm) X' ∧ Mod F X X' ∧ ∀ j, F' j → F j ∨ X.heap.size ≤ j
/-- what each is asked for at a tree -/
def EachAskG {α : Type} (tell : List Nat → Int → Bool → Bool → Nat → List α) (S : (Nat → Prop) → List α → World → Prop) (w : World) (cf : Value) (N : Nat) : Prop := ∀ (t : Tr) {w0 : World} {Q : List NP} {p : Option Addr}, tdep t ≤ N → StoreP NoB w0 w Q → TreeIn Q 0 t (.pointer p) [] → IsN t → TOk t → ∀ {X : World} {v : Value} {k : List Nat} {bo : Option Nat} {cap : Nat} {F : Nat → Prop} {L : List α} {bf bd : Nat}, EaS S w bf bd cf (eachF bf bd) v k bo cap F L X → (∀ x ∈ k, x < 256) → k.length + tway t ≤ 900000 → L.length + (tv tell t k).length ≤ 2000 →
  Calls Tryz.prog 62 #[v, .pointer p, .pointer (some ⟨bf, 0, none⟩), .pointer (some ⟨bd, 0, none⟩)] X fun e X' => e = .returned (.tuple #[]) ∧ ∃ F', EaS S w bf bd cf (eachF bf bd) v k bo cap F' (L ++ tv tell t k) X' ∧ Ext bo F X X' F'
set_option maxHeartbeats 4000000 in
set_option maxRecDepth 100000 in
theorem each1G_fn {α : Type} {tell : List Nat → Int → Bool → Bool → Nat → List α} {S : (Nat → Prop) → List α → World → Prop} {w : World} {m : Nat} (hS : CbT S w.heap.size) (hf : CbTell tell S w (44) m) (N : Nat) (IH : EachAskG tell S w (.func (.func 44) #[] #[.pointer (some ⟨m, 0, none⟩)]) N)
    {w0 X : World} {Q : List NP} (hQ : StoreP NoB w0 w Q) {n : Nat} {bs : List Nat} {val : Int} {has leaf : Bool} {mm : Nat} {kk : KV} {ks : Tr} (h : NodeW w n bs val has leaf mm kk) (hKs : Kids Q kk ks ks [] kk) (hk0 : knxt kk 0 = kk.head?) (hdp : tdep ks ≤ N) (hb8 : ∀ x ∈ bs, x < 256) (hv0 : 0 ≤ val) (hv1 : val < 18446744073709551616) (hmm : mm ≤ 256)
    {v : Value} {k : List Nat} {bo : Option Nat} {cap : Nat} {F : Nat → Prop} {L : List α} {bf bd : Nat} (hE : EaS S w bf bd (.func (.func 44) #[] #[.pointer (some ⟨m, 0, none⟩)]) (eachF bf bd) v k bo cap F L X) (hk8 : ∀ x ∈ k, x < 256) (hway : k.length + (bs.length + tway ks) ≤ 900000) {T : List α} (hT : T = L ++ tell (k ++ bs) val has leaf mm ++ tv tell ks (k ++ bs)) (htot : T.length ≤ 2000) :
    Calls Tryz.prog 62 #[v, .pointer (some ⟨n, 0, none⟩), .pointer (some ⟨bf, 0, none⟩), .pointer (some ⟨bd, 0, none⟩)] X fun e X' => e = .returned (.tuple #[]) ∧ ∃ F', EaS S w bf bd (.func (.func 44) #[] #[.pointer (some ⟨m, 0, none⟩)]) (eachF bf bd) v k bo cap F' T X' ∧ Ext bo F X X' F' := by
  have hPart := Lib.hid (h.part X hE.since)
  have HN := Lib.hid h
  have HS := Lib.hid hS
  have HF := Lib.hid hf
  have HQ := Lib.hid hQ
  have HE := Lib.hid hE
  have hn0 : Hid (∀ X, Below w.heap.size w X → Calls Tryz.prog 47 #[.pointer (some ⟨n, 0, none⟩), .int .i64 0] X fun e w' => e = .returned (.tuple #[.int .u8 (hdB kk : Nat), hdK kk]) ∧ Below X.heap.size X w') := fun X hX => by
    have := h.next X 0 hX (by omega) (by omega)
    rw [hk0, stepV_head] at this
    exact this
  obtain ⟨kb, hkbe⟩ : ∃ kb, kb = k ++ bs := ⟨_, rfl⟩
  have HKe := Lib.hid hkbe
  have hT2 : Hid (L ++ tell kb val has leaf mm ++ tv tell ks kb = T) := by rw [hkbe]; exact hT.symm
  have hLl : Hid (L.length ≤ 2000) := by show _ ≤ _; have := congrArg List.length hT; simp only [List.length_append] at this; omega
  have HT := Lib.hid htot
  have hKs0 := Lib.hid hKs
  have hkl : Hid (k.length ≤ 1000000) := by show _ ≤ _; omega
  have hbl : Hid (bs.length ≤ 1000000) := by show _ ≤ _; omega
  have h1m : Hid (1 ≤ 1000000) := by show _ ≤ _; omega
  have hkb : Hid (∀ x ∈ kb, x < 256) := fun x hx => by
    rw [hkbe] at hx
    rcases List.mem_append.1 hx with hx | hx
    · exact hk8 x hx
    · exact hb8 x hx
  have hkbl : Hid (kb.length + tway ks ≤ 900000) := by show _ ≤ _; rw [hkbe, List.length_append]; omega
  have hv := Lib.hid (And.intro hv0 hv1)
  have Hmm := Lib.hid hmm
  clear h hKs hk0 hb8 hv0 hv1 hmm hE hk8 hway hT htot hS hf hQ hkbe
  go_enter Tryz.func62, Tryz.ntmps62
  go_wp2_with (first
    | (go_at_call 47; refine (hn0.out _ B3.out).mono ?_; rintro e w4 ⟨rfl, z1⟩; have E4 := Lib.hid (E3.out.below HS.out z1); have Y4 := Lib.hid (Y3.out.trans (Ext.of_below z1)); clear z1)
    | (go_at_call 44; refine (HF.out _ _ _ _ _ _ _ _ _ _ _ _ _ _ E2.out.st hNX.out hSl.out (by have := hkbl.out; omega) hv.out.1 hv.out.2 Hmm.out E2.out.since hLl.out).mono ?_; rintro e w3 ⟨rfl, F3, s3, m3, f3⟩
       obtain ⟨q1, q2⟩ := E2.out.told HS.out s3 m3 f3
       have E3 := Lib.hid q1
       have Y3 := Lib.hid q2
       have B3 := Lib.hid q1.since
       clear s3 m3 f3 q1 q2)
    | (at_builtin; go_loud (refine wpList_append_way (v := v) rfl (.tmp 10) (.tmp 12) rfl rfl E1.out.way ⟨X.heap.size, 0, none⟩ bs.length bs.length bs rfl rfl hnews.out hkl.out hbl.out ?_); intro v2 w2 bo2 cap2 HW HG HM HK
       obtain ⟨q1, q2⟩ := E1.out.app HS.out HW.out HG.out HM.out
       rw [← HKe.out] at q1
       have E2 := Lib.hid q1
       have hNX := Lib.hid (HN.out.below q1.since)
       obtain ⟨a2, hv2, sl2⟩ := q1.way.sl hkb.out
       subst hv2
       have hSl := Lib.hid sl2
       have cbf := q1.xf
       clear q1 q2 sl2 HW)
    | (go_at_call 63; refine hPart.out.mono ?_; rintro e w1 ⟨rfl, s1, b1⟩
       have E1 := Lib.hid (HE.out.below HS.out b1)
       have B1 := Lib.hid b1
       have hnews := Lib.hid (sl_news s1 (Below.refl _ w1))
       clear s1 b1))
  have E4' := E4
  have Y4' := Y4
  clear E4 Y4 Y3 E3 E2 B3 hNX hSl cbf hnews hn0 hPart hLl hbl
  go_loopw [6, 7] (fun v6 v7 wr => ∃ (F1 : Nat → Prop) (L1 : List α) (r : Tr) (A lr : KV), v6 = .int .u8 (hdB lr : Nat) ∧ v7 = hdK lr ∧ Hid (EaS S w bf bd (.func (.func 44) #[] #[.pointer (some ⟨m, 0, none⟩)]) (eachF bf bd) (.slice a2 kb.length cap2) kb bo2 cap2 F1 L1 wr) ∧ Hid (Ext bo2 F w2 wr F1) ∧ Hid (Kids Q kk ks r A lr) ∧ Hid (L1 ++ tv tell r kb = T) ∧ Hid (tdep r ≤ N ∧ kb.length + tway r ≤ 900000)) (fun v6 v7 _ => match v7 with | .pointer none => 0 | _ => 256 - (intOf v6).toNat)
  case atStart => exact ⟨F3, _, ks, [], kk, rfl, rfl, E4', Y4', hKs0, hT2, hdp, hkbl.out⟩
  case round =>
    clear E4' Y4' hKs0 hT2 hkbl
    obtain ⟨F1, L1, r, A, lr, rfl, rfl, hE, hY, hKd, hL, hdr⟩ := hrel
    by_cases hl : lr = []
    · subst hl
      obtain rfl := hKd.out.done
      rw [show hdK ([] : KV) = .pointer none from rfl]
      go_wp2_with fail
      go_end0
      have e := hL.out
      simp only [tv, List.append_nil] at e
      have q := hE.out
      rw [HKe.out, e] at q
      obtain ⟨q1, q2⟩ := E1.out.back HS.out HG.out HM.out HK.out q hY.out
      exact ⟨rfl, F1, q1, (Ext.of_below B1.out).trans q2⟩
    · obtain ⟨b, t, r', x, lr', rfl, rfl, hb1, hx1, hb256, ⟨kn, rfl⟩, hTV, hIN, hOk, hnext, hkn⟩ := hKd.out.next hl
      rw [hb1, hx1]
      obtain ⟨kb2, hkb2⟩ : ∃ kb2, kb2 = kb ++ [b] := ⟨_, rfl⟩
      have HK2 := Lib.hid hkb2
      have hL2 : Hid (L1 ++ tv tell t kb2 ++ tv tell r' kb = T) := by show _ = _; rw [← hL.out, hkb2]; simp [tv]
      have hLl : Hid (L1.length + (tv tell t kb2).length ≤ 2000) := by
        have := congrArg List.length hL2.out
        have := HT.out
        simp only [List.length_append] at *
        show _ ≤ _
        omega
      have hdr1 := hdr.out.1
      have hdr2 := hdr.out.2
      simp only [tdep] at hdr1
      simp only [tway] at hdr2
      have hTI : TreeIn Q 0 t (.pointer (some ⟨kn, 0, none⟩)) [] := by
        rcases hTV with ⟨_, e⟩ | ⟨_, e⟩
        · cases e
        · exact e
      have hk2 : Hid (∀ x ∈ kb2, x < 256) := fun x hx => by
        rw [hkb2] at hx
        rcases List.mem_append.1 hx with hx | hx
        · exact hkb.out x hx
        · obtain rfl := List.mem_singleton.1 hx; exact hb256
      have hRec : Hid (∀ w8 v8 bo8 cap8, EaS S w bf bd (.func (.func 44) #[] #[.pointer (some ⟨m, 0, none⟩)]) (eachF bf bd) v8 kb2 bo8 cap8 F1 L1 w8 → Calls Tryz.prog 62 #[v8, .pointer (some ⟨kn, 0, none⟩), .pointer (some ⟨bf, 0, none⟩), .pointer (some ⟨bd, 0, none⟩)] w8 fun e X' => e = .returned (.tuple #[]) ∧ ∃ F', EaS S w bf bd (.func (.func 44) #[] #[.pointer (some ⟨m, 0, none⟩)]) (eachF bf bd) v8 kb2 bo8 cap8 F' (L1 ++ tv tell t kb2) X' ∧ Ext bo8 F1 w8 X' F') := fun w8 v8 bo8 cap8 q =>
        IH t (by omega) HQ.out hTI hIN hOk q hk2.out (by rw [hkb2, List.length_append, List.length_singleton]; omega) hLl.out
      have hN2 : Hid (∀ wr', Below w.heap.size w wr' → Calls Tryz.prog 47 #[.pointer (some ⟨n, 0, none⟩), .int .i64 ((b + 1 : Nat) : Int)] wr' fun e w' => e = .returned (.tuple #[.int .u8 (hdB lr' : Nat), hdK lr']) ∧ Below wr'.heap.size wr' w') := fun wr' hb' => by
        have := HN.out.next wr' ((b + 1 : Nat) : Int) hb' (by omega) (by omega)
        rw [show (((b + 1 : Nat) : Int)) = (b : Int) + 1 by omega, hkn, stepV_head] at this
        exact this
      have hK2 := Lib.hid hnext
      have hwb : IntKind.i64.wrap ((b : Int) + 1) = ((b + 1 : Nat) : Int) := by rw [show (b : Int) + 1 = ((b + 1 : Nat) : Int) by omega]; exact IntWalk.i64_in _ (by omega)
      have hwc : IntKind.i64.wrap (b : Int) = (b : Int) := IntWalk.i64_in _ (by omega)
      have hms : Hid (∀ p ∈ lr', b < p.1 ∧ p.1 < 256) := kids_rest hnext
      have hdr3 : Hid (tdep r' ≤ N ∧ kb.length + tway r' ≤ 900000) := And.intro (by omega) (by omega)
      have hkbL : Hid (kb.length ≤ 1000000) := by show _ ≤ _; omega
      have hAd : Hid (Below wr.heap.size wr (wr.alloc (.cells #[.int .u8 (b : Nat)] 5)).drew) := ((Below.refl _ wr).alloc (Nat.le_refl _) _).drew
      have hEA := Lib.hid (hE.out.below HS.out hAd.out)
      have hnews : Hid (∀ j u, (bV [b])[j]? = some u → (wr.alloc (.cells #[.int .u8 (b : Nat)] 5)).drew.cell? ((⟨wr.heap.size, 0, none⟩ : Addr).add j) = some u) := news_alloc wr [.int .u8 (b : Nat)] 5
      have cd0 := hE.out.xd
      have cdA : ∀ o, (wr.alloc o).cell? ⟨bd, 0, none⟩ = some (eachF bf bd) := fun o => (hE.out.below HS.out ((Below.refl _ wr).alloc (Nat.le_refl _) o)).xd
      unfold eachF at cd0 cdA
      clear hTV hTI hIN hOk hnext hkn hKd hl hb1 hx1 hdr hdr1 hdr2 hL hkb2
      go_wp2_with fail
      go_region_law (first
        | (refine step_append_way (v := .slice a2 kb.length cap2) rfl (.tmp 34) (.tmp 36) rfl rfl hEA.out.way ⟨wr.heap.size, 0, none⟩ 1 1 [b] rfl rfl hnews.out hkbL.out h1m.out ?_; intro v8 w8 bo8 cap8 HW8 HG8 HM8 HK8
           obtain ⟨q1, q2⟩ := hEA.out.app HS.out HW8.out HG8.out HM8.out
           rw [← HK2.out] at q1
           have E8 := Lib.hid q1
           have cd8 := q1.xd
           unfold eachF at cd8
           clear q1 q2)
        | (go_simp; go_at_call 62; refine (hRec.out _ _ _ _ E8.out).mono ?_; rintro e w9 ⟨rfl, F9, q9, y9⟩
           have E9 := Lib.hid (hEA.out.back HS.out HG8.out HM8.out HK8.out (by rw [← HK2.out]; exact q9) y9)
           clear q9 y9))
      all_goals
        go_wp2_with (go_at_call 47; refine (hN2.out _ E9.out.1.since).mono ?_; rintro e w10 ⟨rfl, z1⟩; have E10 := Lib.hid (E9.out.1.below HS.out z1); have Y10 := Lib.hid (hY.out.trans ((Ext.of_below hAd.out).trans (E9.out.2.trans (Ext.of_below z1)))); clear z1)
        go_roundw
        case rel => exact ⟨F9, _, r', A ++ [(b, .pointer (some ⟨kn, 0, none⟩))], lr', rfl, rfl, E10, Y10, hK2, hL2, hdr3⟩
        case measure =>
          cases lr' with
          | nil => simp [hdK, hdB, intOf]; omega
          | cons y l => have := hms.out y (by simp); simp [hdK, hdB, intOf]; split <;> omega
theorem eachAnyG_fn {α : Type} {tell : List Nat → Int → Bool → Bool → Nat → List α} {S : (Nat → Prop) → List α → World → Prop} {w : World} {m : Nat} (hS : CbT S w.heap.size) (hf : CbTell tell S w (44) m) : ∀ N, EachAskG tell S w (.func (.func 44) #[] #[.pointer (some ⟨m, 0, none⟩)]) N
  | 0 => fun t w0 Q p hd hQ hT hN hO => by
    cases t with
    | nil => exact hN.elim
    | kid => exact hN.elim
    | node => simp only [tdep] at hd; omega
  | N + 1 => fun t w0 Q p hd hQ hT hN hO X v k bo cap F L bf bd hE hk8 hway htot => by
    cases t with
    | nil => exact hN.elim
    | kid => exact hN.elim
    | node bs val has leaf ks =>
      simp only [tdep] at hd
      simp only [tway] at hway
      obtain ⟨n, kk, rfl, h1, h2, h3, _⟩ := nodew_of hQ hT hO
      have hm2 := chain256 hO.2.2.2.2.2.1 hO.2.2.2.2.2.2
      obtain ⟨o1, o2, o3, _⟩ := hO
      refine each1G_fn hS hf N (eachAnyG_fn hS hf N) hQ h1 h2 h3 (by omega) o1 o2 o3 hm2 hE hk8 hway (T := L ++ tv tell (.node bs val has leaf ks) k) ?_ (by rw [List.length_append]; exact htot)
      simp only [tv, List.append_assoc]
theorem eachTopG_fn {α : Type} {tell : List Nat → Int → Bool → Bool → Nat → List α} {S : (Nat → Prop) → List α → World → Prop} {w w0 X : World} {m : Nat} (hS : CbT S w.heap.size) (hf : CbTell tell S w (44) m) {t : Tr} {Q : List NP} {p : Option Addr} (hQ : StoreP NoB w0 w Q) (hT : TreeV Q t (.pointer p)) (hO : TOk t) (hb : Below w.heap.size w X) {F : Nat → Prop} (hs : S F [] X) (hway : tway t ≤ 900000) (htot : (tv tell t []).length ≤ 2000) :
    Calls Tryz.prog 34 #[.pointer p, .func (.func 44) #[] #[.pointer (some ⟨m, 0, none⟩)]] X fun e X' => e = .returned (.tuple #[]) ∧ ∃ F', S F' (tv tell t []) X' ∧ Mod F X X' ∧ ∀ j, F' j → F j ∨ X.heap.size ≤ j := by
  obtain ⟨w1, hw1⟩ : ∃ w1, w1 = X.alloc (.cells #[.func (.func 44) #[] #[.pointer (some ⟨m, 0, none⟩)]] 84) := ⟨_, rfl⟩
  have hbx : w1.heap[X.heap.size]? = some (.cells [.func (.func 44) #[] #[.pointer (some ⟨m, 0, none⟩)]].toArray 84 (0, 0)) := by rw [hw1]; exact heap_alloc_new X _
  have hA1 : Below X.heap.size X w1 := by rw [hw1]; exact (Below.refl _ X).alloc (Nat.le_refl _) _
  have hs1 : w1.heap.size = X.heap.size + 1 := by rw [hw1, World.size_alloc]
  have hE : Hid (∀ t', Calls Tryz.prog 62 #[.slice none 0 0, .pointer p, .pointer (some ⟨X.heap.size, 0, none⟩), .pointer (some ⟨w1.heap.size, 0, none⟩)] (w1.alloc (.cells #[eachF X.heap.size w1.heap.size] t')) fun e X' => e = .returned (.tuple #[]) ∧ ∃ F', S F' (tv tell t []) X' ∧ Mod F X X' ∧ ∀ j, F' j → F j ∨ X.heap.size ≤ j) := fun t' => by
    have hA2 : Below w1.heap.size w1 (w1.alloc (.cells #[eachF X.heap.size w1.heap.size] t')) := (Below.refl _ w1).alloc (Nat.le_refl _) _
    have hA : Below X.heap.size X (w1.alloc (.cells #[eachF X.heap.size w1.heap.size] t')) := hA1.trans (hA2.mono hA1.size)
    have hF : ∀ b, X.heap.size ≤ b → ¬ F b := fun b h q => by have := hS.high F [] X hs b q; omega
    rcases hT with ⟨rfl, e⟩ | ⟨hn, hT⟩
    · obtain rfl : p = none := by simpa using e
      refine (each1_nil _ _ _).mono ?_
      rintro e w' ⟨rfl, rfl⟩
      exact ⟨rfl, F, hS.keep F [] X _ hs fun j hj => hA.block j (hS.high F [] X hs j hj), Mod.of_below hA, fun j hj => Or.inl hj⟩
    · have hEA : EaS S w X.heap.size w1.heap.size (.func (.func 44) #[] #[.pointer (some ⟨m, 0, none⟩)]) (eachF X.heap.size w1.heap.size) (.slice none 0 0) [] none 0 F [] (w1.alloc (.cells #[eachF X.heap.size w1.heap.size] t')) := by
        refine ⟨hb.trans (hA.mono hb.size), WayAt.nil _, fun g e => (by cases e), hS.keep F [] X _ hs fun j hj => hA.block j (hS.high F [] X hs j hj), fun g e => (by cases e), ?_, ?_, ⟨hF _ (Nat.le_refl _), by simp⟩, ⟨hF _ (by omega), by simp⟩⟩
        · rw [cell_of_blk ((hA2.block _ (Array.getElem?_eq_some_iff.1 hbx).1).trans hbx)]; rfl
        · rw [cell_of_blk (c := [eachF X.heap.size w1.heap.size]) (t := t') (heap_alloc_new w1 _)]; rfl
      refine (eachAnyG_fn hS hf (tdep t) t (Nat.le_refl _) hQ hT hn hO hEA (by simp) (by simpa using hway) (by simpa using htot)).mono ?_
      rintro e X' ⟨rfl, F', q, q1, q2⟩
      have q3 := q.st
      simp only [List.nil_append] at q3
      refine ⟨rfl, F', q3, (Mod.of_below hA).then q1 fun i _ r => ?_, fun j hj => ?_⟩
      · rcases r with r | r
        · cases r
        · exact r
      · rcases q2 j hj with r | r
        · exact Or.inl r
        · exact Or.inr (Nat.le_trans hA.size r)
  unfold eachF at hE
  generalize tv tell t [] = T at *
  clear hQ hb hT hO hbx hA1 hs1 hway htot hs hS hf
  go_enter Tryz.func34, Tryz.ntmps34
  go_upto_region 1 with fail
  rw [← hw1]
  clear hw1
  go_wp2_with (go_at_call 62; refine (hE.out _).mono ?_; rintro e w' ⟨rfl, q⟩; have q := Lib.hid q)
  go_end0
  exact ⟨rfl, q.out⟩

set_option maxHeartbeats 4000000 in
set_option maxRecDepth 100000 in
theorem each1G_pt {α : Type} {tell : List Nat → Int → Bool → Bool → Nat → List α} {S : (Nat → Prop) → List α → World → Prop} {w : World} {m : Nat} (hS : CbT S w.heap.size) (hf : CbTell tell S w (35) m) (N : Nat) (IH : EachAskG tell S w (.func (.func 35) #[] #[.pointer (some ⟨m, 0, none⟩)]) N)
    {w0 X : World} {Q : List NP} (hQ : StoreP NoB w0 w Q) {n : Nat} {bs : List Nat} {val : Int} {has leaf : Bool} {mm : Nat} {kk : KV} {ks : Tr} (h : NodeW w n bs val has leaf mm kk) (hKs : Kids Q kk ks ks [] kk) (hk0 : knxt kk 0 = kk.head?) (hdp : tdep ks ≤ N) (hb8 : ∀ x ∈ bs, x < 256) (hv0 : 0 ≤ val) (hv1 : val < 18446744073709551616) (hmm : mm ≤ 256)
    {v : Value} {k : List Nat} {bo : Option Nat} {cap : Nat} {F : Nat → Prop} {L : List α} {bf bd : Nat} (hE : EaS S w bf bd (.func (.func 35) #[] #[.pointer (some ⟨m, 0, none⟩)]) (eachF bf bd) v k bo cap F L X) (hk8 : ∀ x ∈ k, x < 256) (hway : k.length + (bs.length + tway ks) ≤ 900000) {T : List α} (hT : T = L ++ tell (k ++ bs) val has leaf mm ++ tv tell ks (k ++ bs)) (htot : T.length ≤ 2000) :
    Calls Tryz.prog 62 #[v, .pointer (some ⟨n, 0, none⟩), .pointer (some ⟨bf, 0, none⟩), .pointer (some ⟨bd, 0, none⟩)] X fun e X' => e = .returned (.tuple #[]) ∧ ∃ F', EaS S w bf bd (.func (.func 35) #[] #[.pointer (some ⟨m, 0, none⟩)]) (eachF bf bd) v k bo cap F' T X' ∧ Ext bo F X X' F' := by
  have hPart := Lib.hid (h.part X hE.since)
  have HN := Lib.hid h
  have HS := Lib.hid hS
  have HF := Lib.hid hf
  have HQ := Lib.hid hQ
  have HE := Lib.hid hE
  have hn0 : Hid (∀ X, Below w.heap.size w X → Calls Tryz.prog 47 #[.pointer (some ⟨n, 0, none⟩), .int .i64 0] X fun e w' => e = .returned (.tuple #[.int .u8 (hdB kk : Nat), hdK kk]) ∧ Below X.heap.size X w') := fun X hX => by
    have := h.next X 0 hX (by omega) (by omega)
    rw [hk0, stepV_head] at this
    exact this
  obtain ⟨kb, hkbe⟩ : ∃ kb, kb = k ++ bs := ⟨_, rfl⟩
  have HKe := Lib.hid hkbe
  have hT2 : Hid (L ++ tell kb val has leaf mm ++ tv tell ks kb = T) := by rw [hkbe]; exact hT.symm
  have hLl : Hid (L.length ≤ 2000) := by show _ ≤ _; have := congrArg List.length hT; simp only [List.length_append] at this; omega
  have HT := Lib.hid htot
  have hKs0 := Lib.hid hKs
  have hkl : Hid (k.length ≤ 1000000) := by show _ ≤ _; omega
  have hbl : Hid (bs.length ≤ 1000000) := by show _ ≤ _; omega
  have h1m : Hid (1 ≤ 1000000) := by show _ ≤ _; omega
  have hkb : Hid (∀ x ∈ kb, x < 256) := fun x hx => by
    rw [hkbe] at hx
    rcases List.mem_append.1 hx with hx | hx
    · exact hk8 x hx
    · exact hb8 x hx
  have hkbl : Hid (kb.length + tway ks ≤ 900000) := by show _ ≤ _; rw [hkbe, List.length_append]; omega
  have hv := Lib.hid (And.intro hv0 hv1)
  have Hmm := Lib.hid hmm
  clear h hKs hk0 hb8 hv0 hv1 hmm hE hk8 hway hT htot hS hf hQ hkbe
  go_enter Tryz.func62, Tryz.ntmps62
  go_wp2_with (first
    | (go_at_call 47; refine (hn0.out _ B3.out).mono ?_; rintro e w4 ⟨rfl, z1⟩; have E4 := Lib.hid (E3.out.below HS.out z1); have Y4 := Lib.hid (Y3.out.trans (Ext.of_below z1)); clear z1)
    | (go_at_call 35; refine (HF.out _ _ _ _ _ _ _ _ _ _ _ _ _ _ E2.out.st hNX.out hSl.out (by have := hkbl.out; omega) hv.out.1 hv.out.2 Hmm.out E2.out.since hLl.out).mono ?_; rintro e w3 ⟨rfl, F3, s3, m3, f3⟩
       obtain ⟨q1, q2⟩ := E2.out.told HS.out s3 m3 f3
       have E3 := Lib.hid q1
       have Y3 := Lib.hid q2
       have B3 := Lib.hid q1.since
       clear s3 m3 f3 q1 q2)
    | (at_builtin; go_loud (refine wpList_append_way (v := v) rfl (.tmp 10) (.tmp 12) rfl rfl E1.out.way ⟨X.heap.size, 0, none⟩ bs.length bs.length bs rfl rfl hnews.out hkl.out hbl.out ?_); intro v2 w2 bo2 cap2 HW HG HM HK
       obtain ⟨q1, q2⟩ := E1.out.app HS.out HW.out HG.out HM.out
       rw [← HKe.out] at q1
       have E2 := Lib.hid q1
       have hNX := Lib.hid (HN.out.below q1.since)
       obtain ⟨a2, hv2, sl2⟩ := q1.way.sl hkb.out
       subst hv2
       have hSl := Lib.hid sl2
       have cbf := q1.xf
       clear q1 q2 sl2 HW)
    | (go_at_call 63; refine hPart.out.mono ?_; rintro e w1 ⟨rfl, s1, b1⟩
       have E1 := Lib.hid (HE.out.below HS.out b1)
       have B1 := Lib.hid b1
       have hnews := Lib.hid (sl_news s1 (Below.refl _ w1))
       clear s1 b1))
  have E4' := E4
  have Y4' := Y4
  clear E4 Y4 Y3 E3 E2 B3 hNX hSl cbf hnews hn0 hPart hLl hbl
  go_loopw [6, 7] (fun v6 v7 wr => ∃ (F1 : Nat → Prop) (L1 : List α) (r : Tr) (A lr : KV), v6 = .int .u8 (hdB lr : Nat) ∧ v7 = hdK lr ∧ Hid (EaS S w bf bd (.func (.func 35) #[] #[.pointer (some ⟨m, 0, none⟩)]) (eachF bf bd) (.slice a2 kb.length cap2) kb bo2 cap2 F1 L1 wr) ∧ Hid (Ext bo2 F w2 wr F1) ∧ Hid (Kids Q kk ks r A lr) ∧ Hid (L1 ++ tv tell r kb = T) ∧ Hid (tdep r ≤ N ∧ kb.length + tway r ≤ 900000)) (fun v6 v7 _ => match v7 with | .pointer none => 0 | _ => 256 - (intOf v6).toNat)
  case atStart => exact ⟨F3, _, ks, [], kk, rfl, rfl, E4', Y4', hKs0, hT2, hdp, hkbl.out⟩
  case round =>
    clear E4' Y4' hKs0 hT2 hkbl
    obtain ⟨F1, L1, r, A, lr, rfl, rfl, hE, hY, hKd, hL, hdr⟩ := hrel
    by_cases hl : lr = []
    · subst hl
      obtain rfl := hKd.out.done
      rw [show hdK ([] : KV) = .pointer none from rfl]
      go_wp2_with fail
      go_end0
      have e := hL.out
      simp only [tv, List.append_nil] at e
      have q := hE.out
      rw [HKe.out, e] at q
      obtain ⟨q1, q2⟩ := E1.out.back HS.out HG.out HM.out HK.out q hY.out
      exact ⟨rfl, F1, q1, (Ext.of_below B1.out).trans q2⟩
    · obtain ⟨b, t, r', x, lr', rfl, rfl, hb1, hx1, hb256, ⟨kn, rfl⟩, hTV, hIN, hOk, hnext, hkn⟩ := hKd.out.next hl
      rw [hb1, hx1]
      obtain ⟨kb2, hkb2⟩ : ∃ kb2, kb2 = kb ++ [b] := ⟨_, rfl⟩
      have HK2 := Lib.hid hkb2
      have hL2 : Hid (L1 ++ tv tell t kb2 ++ tv tell r' kb = T) := by show _ = _; rw [← hL.out, hkb2]; simp [tv]
      have hLl : Hid (L1.length + (tv tell t kb2).length ≤ 2000) := by
        have := congrArg List.length hL2.out
        have := HT.out
        simp only [List.length_append] at *
        show _ ≤ _
        omega
      have hdr1 := hdr.out.1
      have hdr2 := hdr.out.2
      simp only [tdep] at hdr1
      simp only [tway] at hdr2
      have hTI : TreeIn Q 0 t (.pointer (some ⟨kn, 0, none⟩)) [] := by
        rcases hTV with ⟨_, e⟩ | ⟨_, e⟩
        · cases e
        · exact e
      have hk2 : Hid (∀ x ∈ kb2, x < 256) := fun x hx => by
        rw [hkb2] at hx
        rcases List.mem_append.1 hx with hx | hx
        · exact hkb.out x hx
        · obtain rfl := List.mem_singleton.1 hx; exact hb256
      have hRec : Hid (∀ w8 v8 bo8 cap8, EaS S w bf bd (.func (.func 35) #[] #[.pointer (some ⟨m, 0, none⟩)]) (eachF bf bd) v8 kb2 bo8 cap8 F1 L1 w8 → Calls Tryz.prog 62 #[v8, .pointer (some ⟨kn, 0, none⟩), .pointer (some ⟨bf, 0, none⟩), .pointer (some ⟨bd, 0, none⟩)] w8 fun e X' => e = .returned (.tuple #[]) ∧ ∃ F', EaS S w bf bd (.func (.func 35) #[] #[.pointer (some ⟨m, 0, none⟩)]) (eachF bf bd) v8 kb2 bo8 cap8 F' (L1 ++ tv tell t kb2) X' ∧ Ext bo8 F1 w8 X' F') := fun w8 v8 bo8 cap8 q =>
        IH t (by omega) HQ.out hTI hIN hOk q hk2.out (by rw [hkb2, List.length_append, List.length_singleton]; omega) hLl.out
      have hN2 : Hid (∀ wr', Below w.heap.size w wr' → Calls Tryz.prog 47 #[.pointer (some ⟨n, 0, none⟩), .int .i64 ((b + 1 : Nat) : Int)] wr' fun e w' => e = .returned (.tuple #[.int .u8 (hdB lr' : Nat), hdK lr']) ∧ Below wr'.heap.size wr' w') := fun wr' hb' => by
        have := HN.out.next wr' ((b + 1 : Nat) : Int) hb' (by omega) (by omega)
        rw [show (((b + 1 : Nat) : Int)) = (b : Int) + 1 by omega, hkn, stepV_head] at this
        exact this
      have hK2 := Lib.hid hnext
      have hwb : IntKind.i64.wrap ((b : Int) + 1) = ((b + 1 : Nat) : Int) := by rw [show (b : Int) + 1 = ((b + 1 : Nat) : Int) by omega]; exact IntWalk.i64_in _ (by omega)
      have hwc : IntKind.i64.wrap (b : Int) = (b : Int) := IntWalk.i64_in _ (by omega)
      have hms : Hid (∀ p ∈ lr', b < p.1 ∧ p.1 < 256) := kids_rest hnext
      have hdr3 : Hid (tdep r' ≤ N ∧ kb.length + tway r' ≤ 900000) := And.intro (by omega) (by omega)
      have hkbL : Hid (kb.length ≤ 1000000) := by show _ ≤ _; omega
      have hAd : Hid (Below wr.heap.size wr (wr.alloc (.cells #[.int .u8 (b : Nat)] 5)).drew) := ((Below.refl _ wr).alloc (Nat.le_refl _) _).drew
      have hEA := Lib.hid (hE.out.below HS.out hAd.out)
      have hnews : Hid (∀ j u, (bV [b])[j]? = some u → (wr.alloc (.cells #[.int .u8 (b : Nat)] 5)).drew.cell? ((⟨wr.heap.size, 0, none⟩ : Addr).add j) = some u) := news_alloc wr [.int .u8 (b : Nat)] 5
      have cd0 := hE.out.xd
      have cdA : ∀ o, (wr.alloc o).cell? ⟨bd, 0, none⟩ = some (eachF bf bd) := fun o => (hE.out.below HS.out ((Below.refl _ wr).alloc (Nat.le_refl _) o)).xd
      unfold eachF at cd0 cdA
      clear hTV hTI hIN hOk hnext hkn hKd hl hb1 hx1 hdr hdr1 hdr2 hL hkb2
      go_wp2_with fail
      go_region_law (first
        | (refine step_append_way (v := .slice a2 kb.length cap2) rfl (.tmp 34) (.tmp 36) rfl rfl hEA.out.way ⟨wr.heap.size, 0, none⟩ 1 1 [b] rfl rfl hnews.out hkbL.out h1m.out ?_; intro v8 w8 bo8 cap8 HW8 HG8 HM8 HK8
           obtain ⟨q1, q2⟩ := hEA.out.app HS.out HW8.out HG8.out HM8.out
           rw [← HK2.out] at q1
           have E8 := Lib.hid q1
           have cd8 := q1.xd
           unfold eachF at cd8
           clear q1 q2)
        | (go_simp; go_at_call 62; refine (hRec.out _ _ _ _ E8.out).mono ?_; rintro e w9 ⟨rfl, F9, q9, y9⟩
           have E9 := Lib.hid (hEA.out.back HS.out HG8.out HM8.out HK8.out (by rw [← HK2.out]; exact q9) y9)
           clear q9 y9))
      all_goals
        go_wp2_with (go_at_call 47; refine (hN2.out _ E9.out.1.since).mono ?_; rintro e w10 ⟨rfl, z1⟩; have E10 := Lib.hid (E9.out.1.below HS.out z1); have Y10 := Lib.hid (hY.out.trans ((Ext.of_below hAd.out).trans (E9.out.2.trans (Ext.of_below z1)))); clear z1)
        go_roundw
        case rel => exact ⟨F9, _, r', A ++ [(b, .pointer (some ⟨kn, 0, none⟩))], lr', rfl, rfl, E10, Y10, hK2, hL2, hdr3⟩
        case measure =>
          cases lr' with
          | nil => simp [hdK, hdB, intOf]; omega
          | cons y l => have := hms.out y (by simp); simp [hdK, hdB, intOf]; split <;> omega
theorem eachAnyG_pt {α : Type} {tell : List Nat → Int → Bool → Bool → Nat → List α} {S : (Nat → Prop) → List α → World → Prop} {w : World} {m : Nat} (hS : CbT S w.heap.size) (hf : CbTell tell S w (35) m) : ∀ N, EachAskG tell S w (.func (.func 35) #[] #[.pointer (some ⟨m, 0, none⟩)]) N
  | 0 => fun t w0 Q p hd hQ hT hN hO => by
    cases t with
    | nil => exact hN.elim
    | kid => exact hN.elim
    | node => simp only [tdep] at hd; omega
  | N + 1 => fun t w0 Q p hd hQ hT hN hO X v k bo cap F L bf bd hE hk8 hway htot => by
    cases t with
    | nil => exact hN.elim
    | kid => exact hN.elim
    | node bs val has leaf ks =>
      simp only [tdep] at hd
      simp only [tway] at hway
      obtain ⟨n, kk, rfl, h1, h2, h3, _⟩ := nodew_of hQ hT hO
      have hm2 := chain256 hO.2.2.2.2.2.1 hO.2.2.2.2.2.2
      obtain ⟨o1, o2, o3, _⟩ := hO
      refine each1G_pt hS hf N (eachAnyG_pt hS hf N) hQ h1 h2 h3 (by omega) o1 o2 o3 hm2 hE hk8 hway (T := L ++ tv tell (.node bs val has leaf ks) k) ?_ (by rw [List.length_append]; exact htot)
      simp only [tv, List.append_assoc]
theorem eachTopG_pt {α : Type} {tell : List Nat → Int → Bool → Bool → Nat → List α} {S : (Nat → Prop) → List α → World → Prop} {w w0 X : World} {m : Nat} (hS : CbT S w.heap.size) (hf : CbTell tell S w (35) m) {t : Tr} {Q : List NP} {p : Option Addr} (hQ : StoreP NoB w0 w Q) (hT : TreeV Q t (.pointer p)) (hO : TOk t) (hb : Below w.heap.size w X) {F : Nat → Prop} (hs : S F [] X) (hway : tway t ≤ 900000) (htot : (tv tell t []).length ≤ 2000) :
    Calls Tryz.prog 34 #[.pointer p, .func (.func 35) #[] #[.pointer (some ⟨m, 0, none⟩)]] X fun e X' => e = .returned (.tuple #[]) ∧ ∃ F', S F' (tv tell t []) X' ∧ Mod F X X' ∧ ∀ j, F' j → F j ∨ X.heap.size ≤ j := by
  obtain ⟨w1, hw1⟩ : ∃ w1, w1 = X.alloc (.cells #[.func (.func 35) #[] #[.pointer (some ⟨m, 0, none⟩)]] 84) := ⟨_, rfl⟩
  have hbx : w1.heap[X.heap.size]? = some (.cells [.func (.func 35) #[] #[.pointer (some ⟨m, 0, none⟩)]].toArray 84 (0, 0)) := by rw [hw1]; exact heap_alloc_new X _
  have hA1 : Below X.heap.size X w1 := by rw [hw1]; exact (Below.refl _ X).alloc (Nat.le_refl _) _
  have hs1 : w1.heap.size = X.heap.size + 1 := by rw [hw1, World.size_alloc]
  have hE : Hid (∀ t', Calls Tryz.prog 62 #[.slice none 0 0, .pointer p, .pointer (some ⟨X.heap.size, 0, none⟩), .pointer (some ⟨w1.heap.size, 0, none⟩)] (w1.alloc (.cells #[eachF X.heap.size w1.heap.size] t')) fun e X' => e = .returned (.tuple #[]) ∧ ∃ F', S F' (tv tell t []) X' ∧ Mod F X X' ∧ ∀ j, F' j → F j ∨ X.heap.size ≤ j) := fun t' => by
    have hA2 : Below w1.heap.size w1 (w1.alloc (.cells #[eachF X.heap.size w1.heap.size] t')) := (Below.refl _ w1).alloc (Nat.le_refl _) _
    have hA : Below X.heap.size X (w1.alloc (.cells #[eachF X.heap.size w1.heap.size] t')) := hA1.trans (hA2.mono hA1.size)
    have hF : ∀ b, X.heap.size ≤ b → ¬ F b := fun b h q => by have := hS.high F [] X hs b q; omega
    rcases hT with ⟨rfl, e⟩ | ⟨hn, hT⟩
    · obtain rfl : p = none := by simpa using e
      refine (each1_nil _ _ _).mono ?_
      rintro e w' ⟨rfl, rfl⟩
      exact ⟨rfl, F, hS.keep F [] X _ hs fun j hj => hA.block j (hS.high F [] X hs j hj), Mod.of_below hA, fun j hj => Or.inl hj⟩
    · have hEA : EaS S w X.heap.size w1.heap.size (.func (.func 35) #[] #[.pointer (some ⟨m, 0, none⟩)]) (eachF X.heap.size w1.heap.size) (.slice none 0 0) [] none 0 F [] (w1.alloc (.cells #[eachF X.heap.size w1.heap.size] t')) := by
        refine ⟨hb.trans (hA.mono hb.size), WayAt.nil _, fun g e => (by cases e), hS.keep F [] X _ hs fun j hj => hA.block j (hS.high F [] X hs j hj), fun g e => (by cases e), ?_, ?_, ⟨hF _ (Nat.le_refl _), by simp⟩, ⟨hF _ (by omega), by simp⟩⟩
        · rw [cell_of_blk ((hA2.block _ (Array.getElem?_eq_some_iff.1 hbx).1).trans hbx)]; rfl
        · rw [cell_of_blk (c := [eachF X.heap.size w1.heap.size]) (t := t') (heap_alloc_new w1 _)]; rfl
      refine (eachAnyG_pt hS hf (tdep t) t (Nat.le_refl _) hQ hT hn hO hEA (by simp) (by simpa using hway) (by simpa using htot)).mono ?_
      rintro e X' ⟨rfl, F', q, q1, q2⟩
      have q3 := q.st
      simp only [List.nil_append] at q3
      refine ⟨rfl, F', q3, (Mod.of_below hA).then q1 fun i _ r => ?_, fun j hj => ?_⟩
      · rcases r with r | r
        · cases r
        · exact r
      · rcases q2 j hj with r | r
        · exact Or.inl r
        · exact Or.inr (Nat.le_trans hA.size r)
  unfold eachF at hE
  generalize tv tell t [] = T at *
  clear hQ hb hT hO hbx hA1 hs1 hway htot hs hS hf
  go_enter Tryz.func34, Tryz.ntmps34
  go_upto_region 1 with fail
  rw [← hw1]
  clear hw1
  go_wp2_with (go_at_call 62; refine (hE.out _).mono ?_; rintro e w' ⟨rfl, q⟩; have q := Lib.hid q)
  go_end0
  exact ⟨rfl, q.out⟩
end Go.Proofs.YtfhdiimcimafkaaGreatDoor
/- canon.Fine. -/
namespace Go.Proofs.YtfhdiimcimafkaaGreatDoor
open Go.RowKit
/-- what Fine is told: whether a node is fine -/
def fnT (key : List Nat) (val : Int) (has leaf : Bool) (m : Nat) : List Bool := [!((!leaf && decide ((if has then m + 1 else m) < 2)) || (has && decide (65535 < key.length)))]
/-- whether a tree is fine -/
def fineB (t : Tr) : Bool := (tv fnT t []).all id
def SFin (lo m : Nat) (F : Nat → Prop) (L : List Bool) (w : World) : Prop := w.heap[m]? = some (.cells [.bool (L.all id)].toArray 4 (0, 0)) ∧ (F = fun j => j = m) ∧ lo ≤ m
theorem sfn_cb (lo m : Nat) : CbT (SFin lo m) lo := by
  refine ⟨fun F L w w' ⟨h1, h2, h3⟩ hk => ⟨(hk m (by rw [h2])).trans h1, h2, h3⟩, fun F L w ⟨h1, h2, h3⟩ j hj => ?_, fun F L w ⟨h1, h2, h3⟩ j hj => ?_⟩
  · subst h2; have hj : j = m := hj; rw [hj]; exact h3
  · subst h2; have hj : j = m := hj; rw [hj]; exact (Array.getElem?_eq_some_iff.1 h1).1
set_option maxHeartbeats 1000000 in
theorem fine_cbt (w : World) (m : Nat) : CbTell fnT (SFin w.heap.size m) w (44) m := fun F L X n bs val has leaf mm kk a nn c key ⟨h1, h2, h3⟩ hN hK hn hv0 hv1 hmm hb hL => by
  have hV := Lib.hid (hN.val X (Below.refl _ _))
  have hKd := Lib.hid (hN.kind X (Below.refl _ _))
  have hOc := Lib.hid (hN.occ X (Below.refl _ _))
  have hf := frozen_of_blk h1 0
  have hcell : X.cell? ⟨m, 0, none⟩ = some (.bool (L.all id)) := by rw [cell_of_blk h1]; rfl
  have hMy := Lib.hid (keys_may (w := X) (a := a) (n := nn) (c := c))
  have hE : Hid (∃ F', SFin w.heap.size m F' (L ++ [false]) (X.setCell ⟨m, 0, none⟩ (.bool false)) ∧ Mod F X (X.setCell ⟨m, 0, none⟩ (.bool false)) ∧ ∀ j, F' j → F j ∨ X.heap.size ≤ j) := by
    refine ⟨F, ⟨?_, h2, h3⟩, (Mod.refl _ X).setCell ⟨m, 0, none⟩ _ (fun _ => by rw [h2]), fun j hj => Or.inl hj⟩
    rw [setCell_list _ _ _ _ _ _ h1, setRow_heap _ _ _ _ _ _ h1]
    simp
  have hE0 : Hid (∃ F', SFin w.heap.size m F' (L ++ [true]) X ∧ Mod F X X ∧ ∀ j, F' j → F j ∨ X.heap.size ≤ j) := ⟨F, ⟨by rw [h1]; simp, h2, h3⟩, Mod.refl _ _, fun j hj => Or.inl hj⟩
  have hkl := hK.len
  obtain ⟨o, ho⟩ : ∃ o, o = if has then mm + 1 else mm := ⟨_, rfl⟩
  rw [← ho] at hOc
  have htell : fnT key val has leaf mm = [!((!leaf && decide (o < 2)) || (has && decide (65535 < nn)))] := by rw [ho, ← hkl]; rfl
  rw [htell]
  have hkd := kindOf_cases mm
  obtain ⟨kd, hkde⟩ : ∃ kd, kd = kindOf mm := ⟨_, rfl⟩
  rw [← hkde] at hKd hkd
  generalize L.all id = V at *
  clear htell ho hkl h1 h2 h3 hN hK hb hkde
  cases leaf with
  | true =>
    cases has with
    | false =>
      have e : (!((!true && decide (o < 2)) || (false && decide (65535 < nn)))) = true := rfl
      rw [e]
      clear e hkd
      go_enter Tryz.func44, Tryz.ntmps44
      go_wp2_with (first
        | (go_at_call 37; refine hV.out.mono ?_; rintro e w' ⟨rfl, rfl⟩)
        | (go_at_call 36; refine hKd.out.mono ?_; rintro e w' ⟨rfl, rfl⟩))
      go_end0
      exact ⟨rfl, hE0.out⟩
    | true =>
      by_cases hl : 65535 < nn
      · have e : (!((!true && decide (o < 2)) || (true && decide (65535 < nn)))) = false := by simp [hl]
        rw [e]
        have hMy2 : Hid (Calls Tryz.prog 46 #[.slice a nn c] X fun e w' => e = .returned (.int .i64 8) ∧ X = w') := by have := hMy.out; rw [if_pos hl] at this; exact this
        clear e hkd hMy hl
        go_enter Tryz.func44, Tryz.ntmps44
        go_wp2_with (first
          | (go_at_call 37; refine hV.out.mono ?_; rintro e w' ⟨rfl, rfl⟩)
          | (go_at_call 36; refine hKd.out.mono ?_; rintro e w' ⟨rfl, rfl⟩)
          | (go_at_call 46; refine hMy2.out.mono ?_; rintro e w' ⟨rfl, rfl⟩))
        go_end0
        exact ⟨rfl, hE.out⟩
      · have e : (!((!true && decide (o < 2)) || (true && decide (65535 < nn)))) = true := by simp [hl]
        rw [e]
        have hMy2 : Hid (Calls Tryz.prog 46 #[.slice a nn c] X fun e w' => e = .returned (.int .i64 0) ∧ X = w') := by have := hMy.out; rw [if_neg hl] at this; exact this
        clear e hkd hMy hl
        go_enter Tryz.func44, Tryz.ntmps44
        go_wp2_with (first
          | (go_at_call 37; refine hV.out.mono ?_; rintro e w' ⟨rfl, rfl⟩)
          | (go_at_call 36; refine hKd.out.mono ?_; rintro e w' ⟨rfl, rfl⟩)
          | (go_at_call 46; refine hMy2.out.mono ?_; rintro e w' ⟨rfl, rfl⟩))
        go_end0
        exact ⟨rfl, hE0.out⟩
  | false =>
    have hk1 : ((kd : Int) == 1) = false := by rw [beq_eq_false_iff_ne]; omega
    have hk1' : ((kd : Int) != 1) = true := by rw [bne_iff_ne]; omega
    have hKd2 : Hid (Calls Tryz.prog 36 #[.pointer (some ⟨n, 0, none⟩)] X fun e w' => e = .returned (.int .i64 (kd : Nat)) ∧ X = w') := hKd
    clear hKd hkd
    by_cases ho : o < 2
    · have e : (!((!false && decide (o < 2)) || (has && decide (65535 < nn)))) = false := by simp [ho]
      rw [e]
      have j1 : (o : Int) < 2 := by omega
      clear e ho hMy
      go_enter Tryz.func44, Tryz.ntmps44
      go_wp2_with (first
        | (go_at_call 37; refine hV.out.mono ?_; rintro e w' ⟨rfl, rfl⟩)
        | (go_at_call 36; refine hKd2.out.mono ?_; rintro e w' ⟨rfl, rfl⟩)
        | (go_at_call 45; refine hOc.out.mono ?_; rintro e w' ⟨rfl, rfl⟩))
      go_end0
      exact ⟨rfl, hE.out⟩
    · have j1 : ¬ (o : Int) < 2 := by omega
      cases has with
      | false =>
        have e : (!((!false && decide (o < 2)) || (false && decide (65535 < nn)))) = true := by simp [ho]
        rw [e]
        clear e ho hMy
        go_enter Tryz.func44, Tryz.ntmps44
        go_wp2_with (first
          | (go_at_call 37; refine hV.out.mono ?_; rintro e w' ⟨rfl, rfl⟩)
          | (go_at_call 36; refine hKd2.out.mono ?_; rintro e w' ⟨rfl, rfl⟩)
          | (go_at_call 45; refine hOc.out.mono ?_; rintro e w' ⟨rfl, rfl⟩))
        go_end0
        exact ⟨rfl, hE0.out⟩
      | true =>
        by_cases hl : 65535 < nn
        · have e : (!((!false && decide (o < 2)) || (true && decide (65535 < nn)))) = false := by simp [hl]
          rw [e]
          have hMy2 : Hid (Calls Tryz.prog 46 #[.slice a nn c] X fun e w' => e = .returned (.int .i64 8) ∧ X = w') := by have := hMy.out; rw [if_pos hl] at this; exact this
          clear e ho hMy hl
          go_enter Tryz.func44, Tryz.ntmps44
          go_wp2_with (first
            | (go_at_call 37; refine hV.out.mono ?_; rintro e w' ⟨rfl, rfl⟩)
            | (go_at_call 36; refine hKd2.out.mono ?_; rintro e w' ⟨rfl, rfl⟩)
            | (go_at_call 45; refine hOc.out.mono ?_; rintro e w' ⟨rfl, rfl⟩)
            | (go_at_call 46; refine hMy2.out.mono ?_; rintro e w' ⟨rfl, rfl⟩))
          go_end0
          exact ⟨rfl, hE.out⟩
        · have e : (!((!false && decide (o < 2)) || (true && decide (65535 < nn)))) = true := by simp [hl, ho]
          rw [e]
          have hMy2 : Hid (Calls Tryz.prog 46 #[.slice a nn c] X fun e w' => e = .returned (.int .i64 0) ∧ X = w') := by have := hMy.out; rw [if_neg hl] at this; exact this
          clear e ho hMy hl
          go_enter Tryz.func44, Tryz.ntmps44
          go_wp2_with (first
            | (go_at_call 37; refine hV.out.mono ?_; rintro e w' ⟨rfl, rfl⟩)
            | (go_at_call 36; refine hKd2.out.mono ?_; rintro e w' ⟨rfl, rfl⟩)
            | (go_at_call 45; refine hOc.out.mono ?_; rintro e w' ⟨rfl, rfl⟩)
            | (go_at_call 46; refine hMy2.out.mono ?_; rintro e w' ⟨rfl, rfl⟩))
          go_end0
          exact ⟨rfl, hE0.out⟩
set_option maxHeartbeats 1000000 in
theorem fine_any {w0 w : World} {Q : List NP} {t : Tr} {p : Option Addr} (hQ : StoreP NoB w0 w Q) (hT : TreeV Q t (.pointer p)) (hO : TOk t) (hway : tway t ≤ 900000) (htot : (tv fnT t []).length ≤ 2000) : Calls Tryz.prog 16 #[.pointer p] w (belowPost (.bool (fineB t)) w) := by
  have hA : Below w.heap.size w (w.alloc (.cells #[.bool true] 4)) := (Below.refl _ w).alloc (Nat.le_refl _) _
  have hE := Lib.hid (eachTopG_fn (sfn_cb w.heap.size w.heap.size) (fine_cbt w w.heap.size) hQ hT hO hA (F := fun j => j = w.heap.size) ⟨heap_alloc_new w _, rfl, Nat.le_refl _⟩ hway htot)
  have HA := Lib.hid hA
  unfold fineB
  generalize tv fnT t [] = T at *
  clear hQ hT hO hA
  go_enter Tryz.func16, Tryz.ntmps16
  go_wp2_with (go_at_call 34; refine hE.out.mono ?_; rintro e w2 ⟨rfl, F2, ⟨z1, z2, z3⟩, m2, _⟩
               have c2 : w2.cell? ⟨w.heap.size, 0, none⟩ = some (.bool (T.all id)) := (by rw [cell_of_blk z1]; rfl)
               have B2 := Lib.hid (HA.out.trans (m2.belowLo (fun j hj => (by have hj : j = w.heap.size := hj; rw [hj]; exact Nat.le_refl _)) HA.out.size))
               clear z1 z2 z3 m2)
  go_ret
  exact ⟨rfl, B2.out⟩
end Go.Proofs.YtfhdiimcimafkaaGreatDoor
