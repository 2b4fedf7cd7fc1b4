/- canon.each: what a callback holds, while a tree is gone through; canon.each, walked, for each of its callbacks; canon.each at any tree, for each of its callbacks; What the texts on numbers of trees share; stats.place, and stats.count of a tree; stats.count of a leaf; stats.count of an inner node. Written by mkstat.py; stats.Of, Inner, Nodes; stats.Inner, stats.Nodes; stats.Nodes; stats.shared of a tree and itself, of nobody; stats.Of of any tree; What count adds, number for number. No program; How many bytes a canonical tree is at most. No program; What a tree weighs, by its bytes. No program; canon.List and canon.Count; Any canonical tree's node laid; Any canonical tree encoded; how many bytes that is; stats.Of, Nodes of a canonical tree; stats.shared of two ends: the way down; stats.shared of trees that were made apart: none; The statements KidsKind and KidsNobody: their walks. -/
import Derived.Test.YtgijnjdcpipfiaaJ4
import Derived.Deep.RegionHeld3
import Derived.Deep.Cut
import Derived.Deep.CutRange
import Derived.Laws.StructEq
import Derived.LaidEqlPtr
import Derived.Deep.CutBlock
import Derived.Test.YtgijnjdcpipfiaaJ2
set_option linter.unusedVariables false
set_option linter.unusedSimpArgs false
/- canon.each: what a callback holds, while a tree is gone through. -/
namespace Go.Proofs.Ytgijnjdcpipfiaa
open Go.RowKit
/-- how long a way down may be -/
def tway : Tr → Nat
  | .nil => 0
  | .kid _ t r => max (1 + tway t) (tway r)
  | .node bs _ _ _ ks => bs.length + tway ks
theorem tway_lay : ∀ t : Tr, TOk t → tway t ≤ (layT t).length
  | .nil, _ => Nat.le_refl _
  | .kid b t r, ⟨h1, h2, h3, h4, h5, h6⟩ => by
    have h1 := tway_lay t h3
    have h2 := tway_lay r h5
    simp only [tway, layT, List.length_cons, List.length_append]
    omega
  | .node bs v has leaf ks, ⟨h1, h2, h3, h4, h5, h6, h7⟩ => by
    have q := tway_lay ks h7
    simp only [tway, layT, List.length_cons, List.length_append]
    cases leaf with
    | true =>
      rw [(h5 rfl).2]
      simp only [tway]
      omega
    | false =>
      simp only [Bool.false_eq_true, if_false, List.length_cons]
      omega
/-- what a callback holds: blocks F, and what it was told -/
structure CbT (S : (Nat → Prop) → PL → World → Prop) (lo : Nat) : Prop where
  keep : ∀ F L w w', S F L w → (∀ j, F j → w'.heap[j]? = w.heap[j]?) → S F L w'
  low : ∀ F L w, S F L w → ∀ j, F j → lo ≤ j
  high : ∀ F L w, S F L w → ∀ j, F j → j < w.heap.size
/-- what is written, and what is held behind it -/
def Ext (bo : Option Nat) (F : Nat → Prop) (X X' : World) (F' : Nat → Prop) : Prop := Mod (fun j => bo = some j ∨ F j) X X' ∧ ∀ j, F' j → F j ∨ X.heap.size ≤ j
theorem Ext.trans {bo : Option Nat} {F F' F'' : Nat → Prop} {X X' X'' : World} (h : Ext bo F X X' F') (k : Ext bo F' X' X'' F'') : Ext bo F X X'' F'' := by
  refine ⟨h.1.then k.1 fun i hi q => ?_, fun j hj => ?_⟩
  · rcases q with q | q
    · exact Or.inl q
    · rcases h.2 i q with q | q
      · exact Or.inr q
      · omega
  · rcases k.2 j hj with q | q
    · exact h.2 j q
    · exact Or.inr (Nat.le_trans h.1.size q)
theorem Ext.of_below {bo : Option Nat} {F : Nat → Prop} {X X' : World} (h : Below X.heap.size X X') : Ext bo F X X' F := ⟨Mod.of_below h, fun j hj => Or.inl hj⟩
/-- a walk under way: the way, what the callback holds, and two boxes that nobody writes -/
structure EaS (S : (Nat → Prop) → PL → World → Prop) (w : World) (bf bd : Nat) (cf cd : Value) (v : Value) (k : List Nat) (bo : Option Nat) (cap : Nat) (F : Nat → Prop) (L : PL) (X : World) : Prop where
  since : Below w.heap.size w X
  way : WayAt X v k bo cap
  wlo : ∀ g, bo = some g → w.heap.size ≤ g
  st : S F L X
  ne : ∀ g, bo = some g → ¬ F g
  xf : X.cell? ⟨bf, 0, none⟩ = some cf
  xd : X.cell? ⟨bd, 0, none⟩ = some cd
  nf : ¬ F bf ∧ bo ≠ some bf
  nd : ¬ F bd ∧ bo ≠ some bd
section
variable {S : (Nat → Prop) → PL → World → Prop} {w X X' X2 X4 X5 : World} {bf bd : Nat} {cf cd v v2 : Value} {k x : List Nat} {bo bo2 : Option Nat} {cap cap2 : Nat} {F F2 : Nat → Prop} {L L2 : PL}
theorem cell_same {p : Addr} {c : Value} (h : X.cell? p = some c) (e : X'.heap[p.block]? = X.heap[p.block]?) : X'.cell? p = some c := by
  rw [← h]; unfold World.cell?; rw [e]
theorem EaS.below (hS : CbT S w.heap.size) (h : EaS S w bf bd cf cd v k bo cap F L X) (hb : Below X.heap.size X X') : EaS S w bf bd cf cd v k bo cap F L X' where
  since := h.since.trans (hb.mono h.since.size)
  way := h.way.below hb
  wlo := h.wlo
  st := hS.keep F L X X' h.st fun j hj => hb.block j (hS.high F L X h.st j hj)
  ne := h.ne
  xf := (hb.cell (cell_lt h.xf)).trans h.xf
  xd := (hb.cell (cell_lt h.xd)).trans h.xd
  nf := h.nf
  nd := h.nd
/-- the way goes on -/
theorem EaS.app (hS : CbT S w.heap.size) (h : EaS S w bf bd cf cd v k bo cap F L X) (hw : WayAt X' v2 (k ++ x) bo2 cap2) (hg : Goes X bo bo2 cap cap2) (hm : Mod (fun j => bo = some j) X X') : EaS S w bf bd cf cd v2 (k ++ x) bo2 cap2 F L X' ∧ Ext bo F X X' F := by
  have hlt : ∀ j, bo2 = some j → bo = some j ∨ X.heap.size ≤ j := fun j e => by
    rcases hg with ⟨q, _⟩ | q | ⟨g, q, hg⟩
    · rw [q] at e; exact Or.inl e
    · rw [q] at e; cases e
    · rw [q] at e; cases e; exact Or.inr hg
  have hF : ∀ j, F j → X'.heap[j]? = X.heap[j]? := fun j hj => hm.same j (hS.high F L X h.st j hj) fun e => h.ne j e hj
  have hnew : ∀ b, b < X.heap.size → bo ≠ some b → bo2 ≠ some b := fun b hb hn e => by
    rcases hlt b e with q | q
    · exact hn q
    · omega
  refine ⟨⟨h.since.trans (mod_lo hm h.wlo h.since.size), hw, fun g e => ?_, hS.keep F L X X' h.st hF, fun g e q => ?_, cell_same h.xf (hm.same bf (cell_lt h.xf) h.nf.2), cell_same h.xd (hm.same bd (cell_lt h.xd) h.nd.2), ⟨h.nf.1, hnew bf (cell_lt h.xf) h.nf.2⟩, ⟨h.nd.1, hnew bd (cell_lt h.xd) h.nd.2⟩⟩, hm.mono (fun j _ e => Or.inl e), fun j hj => Or.inl hj⟩
  · rcases hlt g e with q | q
    · exact h.wlo g q
    · exact Nat.le_trans h.since.size q
  · rcases hlt g e with r | r
    · exact h.ne g r q
    · have := hS.high F L X h.st g q; omega
/-- the callback was called -/
theorem EaS.told (hS : CbT S w.heap.size) (h : EaS S w bf bd cf cd v k bo cap F L X) (hs : S F2 L2 X') (hm : Mod F X X') (hf : ∀ j, F2 j → F j ∨ X.heap.size ≤ j) : EaS S w bf bd cf cd v k bo cap F2 L2 X' ∧ Ext bo F X X' F2 := by
  have hno : ∀ b, b < X.heap.size → ¬ F b → ¬ F2 b := fun b hb hn q => by
    rcases hf b q with r | r
    · exact hn r
    · omega
  refine ⟨⟨h.since.trans (hm.belowLo (hS.low F L X h.st) h.since.size), h.way.mod hm fun g e q => h.ne g e q, h.wlo, hs, fun g e => hno g (h.way.lt e) (h.ne g e), cell_same h.xf (hm.same bf (cell_lt h.xf) h.nf.1), cell_same h.xd (hm.same bd (cell_lt h.xd) h.nd.1), ⟨hno bf (cell_lt h.xf) h.nf.1, h.nf.2⟩, ⟨hno bd (cell_lt h.xd) h.nd.1, h.nd.2⟩⟩, hm.mono (fun j _ e => Or.inr e), hf⟩
/-- back from further down -/
theorem EaS.back (hS : CbT S w.heap.size) (h : EaS S w bf bd cf cd v k bo cap F L X) (hg : Goes X bo bo2 cap cap2) (hm : Mod (fun j => bo = some j) X X4) (hk : WayAt X4 v k bo cap) (q : EaS S w bf bd cf cd v2 (k ++ x) bo2 cap2 F2 L2 X5) (he : Ext bo2 F X4 X5 F2) : EaS S w bf bd cf cd v k bo cap F2 L2 X5 ∧ Ext bo F X X5 F2 := by
  have hlt : ∀ j, bo2 = some j → bo = some j ∨ X.heap.size ≤ j := fun j e => by
    rcases hg with ⟨q, _⟩ | q | ⟨g, q, hg⟩
    · rw [q] at e; exact Or.inl e
    · rw [q] at e; cases e
    · rw [q] at e; cases e; exact Or.inr hg
  have hE : Ext bo F X X5 F2 := by
    refine ⟨(hm.mono fun j _ e => Or.inl e : Mod (fun j => bo = some j ∨ F j) X X4).then he.1 fun i hi e => ?_, fun j hj => ?_⟩
    · rcases e with e | e
      · rcases hlt i e with r | r
        · exact Or.inl r
        · omega
      · exact Or.inr e
    · rcases he.2 j hj with r | r
      · exact Or.inl r
      · exact Or.inr (Nat.le_trans hm.size r)
  have hno : ∀ b, b < X.heap.size → ¬ F b → ¬ F2 b := fun b hb hn q => by
    rcases hE.2 b q with r | r
    · exact hn r
    · omega
  refine ⟨⟨q.since, ?_, h.wlo, q.st, fun g e => hno g (h.way.lt e) (h.ne g e), q.xf, q.xd, ⟨q.nf.1, h.nf.2⟩, ⟨q.nd.1, h.nd.2⟩⟩, hE⟩
  rcases hg with ⟨e1, e2, e3⟩ | e1
  · subst e1; subst e2
    exact hk.back (Or.inl ⟨rfl, rfl, e3⟩) q.way he.1 h.ne
  · refine hk.mod he.1 fun g e r => ?_
    have hl := h.way.lt e
    rcases r with r | r
    · rcases e1 with e1 | ⟨g', e1, hg'⟩
      · rw [e1] at r; cases r
      · rw [e1] at r; cases r; omega
    · exact h.ne g e r
end
/-- what a callback does, at a node -/
def CbTree (S : (Nat → Prop) → PL → World → Prop) (w : World) (fn : FuncId) (m : Nat) : Prop :=
  ∀ F L X (n : Nat) bs (val : Int) has leaf mm kk (a : Option Addr) (nn c : Nat) key, S F L X → NodeW X n bs val has leaf mm kk → Sl X a nn c key → nn ≤ 900000 → 0 ≤ val → val < 18446744073709551616 → Below w.heap.size w X → L.length ≤ 2000 →
    Calls Try.prog fn #[.slice a nn c, .pointer (some ⟨n, 0, none⟩), .pointer (some ⟨m, 0, none⟩)] X fun e X' => e = .returned (.tuple #[]) ∧ ∃ F', S F' (L ++ if has then [(key, val)] else []) X' ∧ Mod F X X' ∧ ∀ j, F' j → F j ∨ X.heap.size ≤ j
/-- a way that goes on, in a list of operations -/
theorem wpList_append_way {w : World} {ops : Array Oper} {rest : List Oper} {o : Oper} {a : Act} {Q : Exit → Act → World → Prop} (hgd : o.guard = none) (s x : Operand)
    (ho : o.op = .call { callee := .builtin .append, args := #[s, x], argTypes := #[27, 27] })
    {v : Value} {k : List Nat} {bo : Option Nat} {cap : Nat} (hs : a.eval s = v) (h : WayAt w v k bo cap) (ad : Addr) (m c : Nat) (news : List Nat) (hm : news.length = m) (hx : a.eval x = .slice (some ad) m c) (hnews : ∀ j u, (bV news)[j]? = some u → w.cell? (ad.add j) = some u) (hk : k.length ≤ 1000000) (hn : news.length ≤ 1000000)
    (K : ∀ v' w' bo' cap', Hid (WayAt w' v' (k ++ news) bo' cap') → Hid (Goes w bo bo' cap cap') → Hid (Mod (fun j => bo = some j) w w') → Hid (WayAt w' v k bo cap) → wpList Try.prog ops Q rest (a.put o.dst v') w') : wpList Try.prog ops Q (o :: rest) a w := by
  subst hm
  obtain ⟨i, hi, hz, hsize, hby⟩ := info_parts cloneB_info
  refine wpList_plain hgd fun K2 hK => ?_
  obtain ⟨v', w', bo', cap', hr, h2, h3, h4, h5⟩ := run_append_way (P := Try.prog) w 27 o.type i Try.underlying27 hi hz hsize hby h ad c news hnews hk hn
  unfold Oper.wp execOp
  simp only [ho, resolve, invoke, builtin, Sem.run_bind, Sem.run_pure, Result.andThen_ok, List.map_toArray, List.map_cons, List.map_nil, hs, hx, hr]
  exact hK _ _ (K v' w' bo' cap' h2 h3 h4 h5)
theorem step_append_way {w : World} {ops : Array Oper} {o : Oper} {a : Act} {K : Act → World → Prop} {Q : Exit → Act → World → Prop} {E : Prop} (hgd : o.guard = none) (s x : Operand)
    (ho : o.op = .call { callee := .builtin .append, args := #[s, x], argTypes := #[27, 27] })
    {v : Value} {k : List Nat} {bo : Option Nat} {cap : Nat} (hs : a.eval s = v) (h : WayAt w v k bo cap) (ad : Addr) (m c : Nat) (news : List Nat) (hm : news.length = m) (hx : a.eval x = .slice (some ad) m c) (hnews : ∀ j u, (bV news)[j]? = some u → w.cell? (ad.add j) = some u) (hk : k.length ≤ 1000000) (hn : news.length ≤ 1000000)
    (h' : ∀ v' w' bo' cap', Hid (WayAt w' v' (k ++ news) bo' cap') → Hid (Goes w bo bo' cap cap') → Hid (Mod (fun j => bo = some j) w w') → Hid (WayAt w' v k bo cap) → K (a.put o.dst v') w') :
    if Region.wanted o (yielded ops a.tmps) = true then Oper.wp Try.prog o a w K Q else E := by
  subst hm
  have hw : Region.wanted o (yielded ops a.tmps) = true := by simp [Region.wanted, hgd]
  rw [if_pos hw]
  obtain ⟨i, hi, hz, hsize, hby⟩ := info_parts cloneB_info
  obtain ⟨v', w', bo', cap', hr, h2, h3, h4, h5⟩ := run_append_way (P := Try.prog) w 27 o.type i Try.underlying27 hi hz hsize hby h ad c news hnews hk hn
  unfold Oper.wp execOp
  simp only [ho, resolve, invoke, builtin, Sem.run_bind, Sem.run_pure, Result.andThen_ok, List.map_toArray, List.map_cons, List.map_nil, hs, hx, hr]
  exact h' v' w' bo' cap' h2 h3 h4 h5
end Go.Proofs.Ytgijnjdcpipfiaa
/- canon.each, walked, for each of its callbacks. -/
namespace Go.Proofs.Ytgijnjdcpipfiaa
open Go.RowKit
def eachF (bf bd : Nat) : Value := .func (.func 154) #[] #[.pointer (some ⟨bf, 0, none⟩), .pointer (some ⟨bd, 0, none⟩)]
/-- what each is asked for at a tree -/
def EachAsk (S : (Nat → Prop) → PL → World → Prop) (w : World) (cf : Value) (N : Nat) : Prop := ∀ (t : Tr) {w0 : World} {Q : List NP} {p : Option Addr}, tdep t ≤ N → StoreP NoB w0 w Q → TreeIn Q 0 t (.pointer p) [] → IsN t → TOk t → ∀ {X : World} {v : Value} {k : List Nat} {bo : Option Nat} {cap : Nat} {F : Nat → Prop} {L : PL} {bf bd : Nat}, EaS S w bf bd cf (eachF bf bd) v k bo cap F L X → (∀ x ∈ k, x < 256) → k.length + tway t ≤ 900000 → L.length + (tl t).length ≤ 2000 →
  Calls Try.prog 154 #[v, .pointer p, .pointer (some ⟨bf, 0, none⟩), .pointer (some ⟨bd, 0, none⟩)] X fun e X' => e = .returned (.tuple #[]) ∧ ∃ F', EaS S w bf bd cf (eachF bf bd) v k bo cap F' (L ++ pre k (tl t)) X' ∧ Ext bo F X X' F'
set_option maxHeartbeats 4000000 in
set_option maxRecDepth 100000 in
theorem each1_cn {S : (Nat → Prop) → PL → World → Prop} {w : World} {m : Nat} (hS : CbT S w.heap.size) (hf : CbTree S w (148) m) (N : Nat) (IH : EachAsk S w (.func (.func 148) #[] #[.pointer (some ⟨m, 0, none⟩)]) N)
    {w0 X : World} {Q : List NP} (hQ : StoreP NoB w0 w Q) {n : Nat} {bs : List Nat} {val : Int} {has leaf : Bool} {mm : Nat} {kk : KV} {ks : Tr} (h : NodeW w n bs val has leaf mm kk) (hKs : Kids Q kk ks ks [] kk) (hk0 : knxt kk 0 = kk.head?) (hdp : tdep ks ≤ N) (hb8 : ∀ x ∈ bs, x < 256) (hv0 : 0 ≤ val) (hv1 : val < 18446744073709551616)
    {v : Value} {k : List Nat} {bo : Option Nat} {cap : Nat} {F : Nat → Prop} {L : PL} {bf bd : Nat} (hE : EaS S w bf bd (.func (.func 148) #[] #[.pointer (some ⟨m, 0, none⟩)]) (eachF bf bd) v k bo cap F L X) (hk8 : ∀ x ∈ k, x < 256) (hway : k.length + (bs.length + tway ks) ≤ 900000) {T : PL} (hT : T = L ++ (if has then [(k ++ bs, val)] else []) ++ pre (k ++ bs) (tl ks)) (htot : T.length ≤ 2000) :
    Calls Try.prog 154 #[v, .pointer (some ⟨n, 0, none⟩), .pointer (some ⟨bf, 0, none⟩), .pointer (some ⟨bd, 0, none⟩)] X fun e X' => e = .returned (.tuple #[]) ∧ ∃ F', EaS S w bf bd (.func (.func 148) #[] #[.pointer (some ⟨m, 0, none⟩)]) (eachF bf bd) v k bo cap F' T X' ∧ Ext bo F X X' F' := by
  have hPart := Lib.hid (h.part X hE.since)
  have HN := Lib.hid h
  have HS := Lib.hid hS
  have HF := Lib.hid hf
  have HQ := Lib.hid hQ
  have HE := Lib.hid hE
  have hn0 : Hid (∀ X, Below w.heap.size w X → Calls Try.prog 11 #[.pointer (some ⟨n, 0, none⟩), .int .i64 0] X fun e w' => e = .returned (.tuple #[.int .u8 (hdB kk : Nat), hdK kk]) ∧ Below X.heap.size X w') := fun X hX => by
    have := h.next X 0 hX (by omega) (by omega)
    rw [hk0, stepV_head] at this
    exact this
  obtain ⟨kb, hkbe⟩ : ∃ kb, kb = k ++ bs := ⟨_, rfl⟩
  have HKe := Lib.hid hkbe
  have hT2 : Hid ((L ++ if has then [(kb, val)] else []) ++ pre kb (tl ks) = T) := by rw [hkbe]; exact hT.symm
  have hLl : Hid (L.length ≤ 2000) := by show _ ≤ _; have := congrArg List.length hT; simp only [List.length_append] at this; omega
  have HT := Lib.hid htot
  have hKs0 := Lib.hid hKs
  have hkl : Hid (k.length ≤ 1000000) := by show _ ≤ _; omega
  have hbl : Hid (bs.length ≤ 1000000) := by show _ ≤ _; omega
  have h1m : Hid (1 ≤ 1000000) := by show _ ≤ _; omega
  have hkb : Hid (∀ x ∈ kb, x < 256) := fun x hx => by
    rw [hkbe] at hx
    rcases List.mem_append.1 hx with hx | hx
    · exact hk8 x hx
    · exact hb8 x hx
  have hkbl : Hid (kb.length + tway ks ≤ 900000) := by show _ ≤ _; rw [hkbe, List.length_append]; omega
  have hv := Lib.hid (And.intro hv0 hv1)
  clear h hKs hk0 hb8 hv0 hv1 hE hk8 hway hT htot hS hf hQ hkbe
  go_enter Try.func154, Try.ntmps154
  go_wp2_with (first
    | (go_at_call 11; refine (hn0.out _ B3.out).mono ?_; rintro e w4 ⟨rfl, z1⟩; have E4 := Lib.hid (E3.out.below HS.out z1); have Y4 := Lib.hid (Y3.out.trans (Ext.of_below z1)); clear z1)
    | (go_at_call 148; refine (HF.out _ _ _ _ _ _ _ _ _ _ _ _ _ _ E2.out.st hNX.out hSl.out (by have := hkbl.out; omega) hv.out.1 hv.out.2 E2.out.since hLl.out).mono ?_; rintro e w3 ⟨rfl, F3, s3, m3, f3⟩
       obtain ⟨q1, q2⟩ := E2.out.told HS.out s3 m3 f3
       have E3 := Lib.hid q1
       have Y3 := Lib.hid q2
       have B3 := Lib.hid q1.since
       clear s3 m3 f3 q1 q2)
    | (at_builtin; go_loud (refine wpList_append_way (v := v) rfl (.tmp 10) (.tmp 12) rfl rfl E1.out.way ⟨X.heap.size, 0, none⟩ bs.length bs.length bs rfl rfl hnews.out hkl.out hbl.out ?_); intro v2 w2 bo2 cap2 HW HG HM HK
       obtain ⟨q1, q2⟩ := E1.out.app HS.out HW.out HG.out HM.out
       rw [← HKe.out] at q1
       have E2 := Lib.hid q1
       have hNX := Lib.hid (HN.out.below q1.since)
       obtain ⟨a2, hv2, sl2⟩ := q1.way.sl hkb.out
       subst hv2
       have hSl := Lib.hid sl2
       have cbf := q1.xf
       clear q1 q2 sl2 HW)
    | (go_at_call 25; refine hPart.out.mono ?_; rintro e w1 ⟨rfl, s1, b1⟩
       have E1 := Lib.hid (HE.out.below HS.out b1)
       have B1 := Lib.hid b1
       have hnews := Lib.hid (sl_news s1 (Below.refl _ w1))
       clear s1 b1))
  have E4' := E4
  have Y4' := Y4
  clear E4 Y4 Y3 E3 E2 B3 hNX hSl cbf hnews hn0 hPart hLl hbl
  go_loopw [6, 7] (fun v6 v7 wr => ∃ (F1 : Nat → Prop) (L1 : PL) (r : Tr) (A lr : KV), v6 = .int .u8 (hdB lr : Nat) ∧ v7 = hdK lr ∧ Hid (EaS S w bf bd (.func (.func 148) #[] #[.pointer (some ⟨m, 0, none⟩)]) (eachF bf bd) (.slice a2 kb.length cap2) kb bo2 cap2 F1 L1 wr) ∧ Hid (Ext bo2 F w2 wr F1) ∧ Hid (Kids Q kk ks r A lr) ∧ Hid (L1 ++ pre kb (tl r) = T) ∧ Hid (tdep r ≤ N ∧ kb.length + tway r ≤ 900000)) (fun v6 v7 _ => match v7 with | .pointer none => 0 | _ => 256 - (intOf v6).toNat)
  case atStart => exact ⟨F3, _, ks, [], kk, rfl, rfl, E4', Y4', hKs0, hT2, hdp, hkbl.out⟩
  case round =>
    clear E4' Y4' hKs0 hT2 hkbl
    obtain ⟨F1, L1, r, A, lr, rfl, rfl, hE, hY, hKd, hL, hdr⟩ := hrel
    by_cases hl : lr = []
    · subst hl
      obtain rfl := hKd.out.done
      rw [show hdK ([] : KV) = .pointer none from rfl]
      go_wp2_with fail
      go_end0
      have e := hL.out
      simp only [tl, pre_nil, List.append_nil] at e
      have q := hE.out
      rw [HKe.out, e] at q
      obtain ⟨q1, q2⟩ := E1.out.back HS.out HG.out HM.out HK.out q hY.out
      exact ⟨rfl, F1, q1, (Ext.of_below B1.out).trans q2⟩
    · obtain ⟨b, t, r', x, lr', rfl, rfl, hb1, hx1, hb256, ⟨kn, rfl⟩, hTV, hIN, hOk, hnext, hkn⟩ := hKd.out.next hl
      rw [hb1, hx1]
      obtain ⟨kb2, hkb2⟩ : ∃ kb2, kb2 = kb ++ [b] := ⟨_, rfl⟩
      have HK2 := Lib.hid hkb2
      have hL2 : Hid (L1 ++ pre kb2 (tl t) ++ pre kb (tl r') = T) := by show _ = _; rw [← hL.out, hkb2]; simp [tl, pre_append, pre_pre]
      have hLl : Hid (L1.length + (tl t).length ≤ 2000) := by
        have := congrArg List.length hL2.out
        have := HT.out
        simp only [List.length_append, pre_length] at *
        show _ ≤ _
        omega
      have hdr1 := hdr.out.1
      have hdr2 := hdr.out.2
      simp only [tdep] at hdr1
      simp only [tway] at hdr2
      have hTI : TreeIn Q 0 t (.pointer (some ⟨kn, 0, none⟩)) [] := by
        rcases hTV with ⟨_, e⟩ | ⟨_, e⟩
        · cases e
        · exact e
      have hk2 : Hid (∀ x ∈ kb2, x < 256) := fun x hx => by
        rw [hkb2] at hx
        rcases List.mem_append.1 hx with hx | hx
        · exact hkb.out x hx
        · obtain rfl := List.mem_singleton.1 hx; exact hb256
      have hRec : Hid (∀ w8 v8 bo8 cap8, EaS S w bf bd (.func (.func 148) #[] #[.pointer (some ⟨m, 0, none⟩)]) (eachF bf bd) v8 kb2 bo8 cap8 F1 L1 w8 → Calls Try.prog 154 #[v8, .pointer (some ⟨kn, 0, none⟩), .pointer (some ⟨bf, 0, none⟩), .pointer (some ⟨bd, 0, none⟩)] w8 fun e X' => e = .returned (.tuple #[]) ∧ ∃ F', EaS S w bf bd (.func (.func 148) #[] #[.pointer (some ⟨m, 0, none⟩)]) (eachF bf bd) v8 kb2 bo8 cap8 F' (L1 ++ pre kb2 (tl t)) X' ∧ Ext bo8 F1 w8 X' F') := fun w8 v8 bo8 cap8 q =>
        IH t (by omega) HQ.out hTI hIN hOk q hk2.out (by rw [hkb2, List.length_append, List.length_singleton]; omega) hLl.out
      have hN2 : Hid (∀ wr', Below w.heap.size w wr' → Calls Try.prog 11 #[.pointer (some ⟨n, 0, none⟩), .int .i64 ((b + 1 : Nat) : Int)] wr' fun e w' => e = .returned (.tuple #[.int .u8 (hdB lr' : Nat), hdK lr']) ∧ Below wr'.heap.size wr' w') := fun wr' hb' => by
        have := HN.out.next wr' ((b + 1 : Nat) : Int) hb' (by omega) (by omega)
        rw [show (((b + 1 : Nat) : Int)) = (b : Int) + 1 by omega, hkn, stepV_head] at this
        exact this
      have hK2 := Lib.hid hnext
      have hwb : IntKind.i64.wrap ((b : Int) + 1) = ((b + 1 : Nat) : Int) := by rw [show (b : Int) + 1 = ((b + 1 : Nat) : Int) by omega]; exact IntWalk.i64_in _ (by omega)
      have hwc : IntKind.i64.wrap (b : Int) = (b : Int) := IntWalk.i64_in _ (by omega)
      have hms : Hid (∀ p ∈ lr', b < p.1 ∧ p.1 < 256) := kids_rest hnext
      have hdr3 : Hid (tdep r' ≤ N ∧ kb.length + tway r' ≤ 900000) := And.intro (by omega) (by omega)
      have hkbL : Hid (kb.length ≤ 1000000) := by show _ ≤ _; omega
      have hAd : Hid (Below wr.heap.size wr (wr.alloc (.cells #[.int .u8 (b : Nat)] 5)).drew) := ((Below.refl _ wr).alloc (Nat.le_refl _) _).drew
      have hEA := Lib.hid (hE.out.below HS.out hAd.out)
      have hnews : Hid (∀ j u, (bV [b])[j]? = some u → (wr.alloc (.cells #[.int .u8 (b : Nat)] 5)).drew.cell? ((⟨wr.heap.size, 0, none⟩ : Addr).add j) = some u) := news_alloc wr [.int .u8 (b : Nat)] 5
      have cd0 := hE.out.xd
      have cdA : ∀ o, (wr.alloc o).cell? ⟨bd, 0, none⟩ = some (eachF bf bd) := fun o => (hE.out.below HS.out ((Below.refl _ wr).alloc (Nat.le_refl _) o)).xd
      unfold eachF at cd0 cdA
      clear hTV hTI hIN hOk hnext hkn hKd hl hb1 hx1 hdr hdr1 hdr2 hL hkb2
      go_wp2_with fail
      go_region_law (first
        | (refine step_append_way (v := .slice a2 kb.length cap2) rfl (.tmp 34) (.tmp 36) rfl rfl hEA.out.way ⟨wr.heap.size, 0, none⟩ 1 1 [b] rfl rfl hnews.out hkbL.out h1m.out ?_; intro v8 w8 bo8 cap8 HW8 HG8 HM8 HK8
           obtain ⟨q1, q2⟩ := hEA.out.app HS.out HW8.out HG8.out HM8.out
           rw [← HK2.out] at q1
           have E8 := Lib.hid q1
           have cd8 := q1.xd
           unfold eachF at cd8
           clear q1 q2)
        | (go_simp; go_at_call 154; refine (hRec.out _ _ _ _ E8.out).mono ?_; rintro e w9 ⟨rfl, F9, q9, y9⟩
           have E9 := Lib.hid (hEA.out.back HS.out HG8.out HM8.out HK8.out (by rw [← HK2.out]; exact q9) y9)
           clear q9 y9))
      all_goals
        go_wp2_with (go_at_call 11; refine (hN2.out _ E9.out.1.since).mono ?_; rintro e w10 ⟨rfl, z1⟩; have E10 := Lib.hid (E9.out.1.below HS.out z1); have Y10 := Lib.hid (hY.out.trans ((Ext.of_below hAd.out).trans (E9.out.2.trans (Ext.of_below z1)))); clear z1)
        go_roundw
        case rel => exact ⟨F9, _, r', A ++ [(b, .pointer (some ⟨kn, 0, none⟩))], lr', rfl, rfl, E10, Y10, hK2, hL2, hdr3⟩
        case measure =>
          cases lr' with
          | nil => simp [hdK, hdB, intOf]; omega
          | cons y l => have := hms.out y (by simp); simp [hdK, hdB, intOf]; split <;> omega

end Go.Proofs.Ytgijnjdcpipfiaa
/- canon.each at any tree, for each of its callbacks. -/
namespace Go.Proofs.Ytgijnjdcpipfiaa
open Go.RowKit
theorem eachAny_cn {S : (Nat → Prop) → PL → World → Prop} {w : World} {m : Nat} (hS : CbT S w.heap.size) (hf : CbTree S w (148) m) : ∀ N, EachAsk S w (.func (.func 148) #[] #[.pointer (some ⟨m, 0, none⟩)]) N
  | 0 => fun t w0 Q p hd hQ hT hN hO => by
    cases t with
    | nil => exact hN.elim
    | kid => exact hN.elim
    | node => simp only [tdep] at hd; omega
  | N + 1 => fun t w0 Q p hd hQ hT hN hO X v k bo cap F L bf bd hE hk8 hway htot => by
    cases t with
    | nil => exact hN.elim
    | kid => exact hN.elim
    | node bs val has leaf ks =>
      simp only [tdep] at hd
      simp only [tway] at hway
      obtain ⟨n, kk, rfl, h1, h2, h3, _⟩ := nodew_of hQ hT hO
      obtain ⟨o1, o2, o3, _⟩ := hO
      refine each1_cn hS hf N (eachAny_cn hS hf N) hQ h1 h2 h3 (by omega) o1 o2 o3 hE hk8 hway (T := L ++ pre k (tl (.node bs val has leaf ks))) ?_ (by rw [List.length_append, pre_length]; exact htot)
      simp only [tl, pre_append, pre_pre, List.append_assoc]
      congr 2
      cases has <;> simp [pre]
theorem eachTop_cn {S : (Nat → Prop) → PL → World → Prop} {w w0 X : World} {m : Nat} (hS : CbT S w.heap.size) (hf : CbTree S w (148) m) {t : Tr} {Q : List NP} {p : Option Addr} (hQ : StoreP NoB w0 w Q) (hT : TreeV Q t (.pointer p)) (hO : TOk t) (hb : Below w.heap.size w X) {F : Nat → Prop} (hs : S F [] X) (hway : tway t ≤ 900000) (htot : (tl t).length ≤ 2000) :
    Calls Try.prog 147 #[.pointer p, .func (.func 148) #[] #[.pointer (some ⟨m, 0, none⟩)]] X fun e X' => e = .returned (.tuple #[]) ∧ ∃ F', S F' (tl t) X' ∧ Mod F X X' ∧ ∀ j, F' j → F j ∨ X.heap.size ≤ j := by
  obtain ⟨w1, hw1⟩ : ∃ w1, w1 = X.alloc (.cells #[.func (.func 148) #[] #[.pointer (some ⟨m, 0, none⟩)]] 179) := ⟨_, rfl⟩
  have hbx : w1.heap[X.heap.size]? = some (.cells [.func (.func 148) #[] #[.pointer (some ⟨m, 0, none⟩)]].toArray 179 (0, 0)) := by rw [hw1]; exact heap_alloc_new X _
  have hA1 : Below X.heap.size X w1 := by rw [hw1]; exact (Below.refl _ X).alloc (Nat.le_refl _) _
  have hs1 : w1.heap.size = X.heap.size + 1 := by rw [hw1, World.size_alloc]
  have hE : Hid (∀ t', Calls Try.prog 154 #[.slice none 0 0, .pointer p, .pointer (some ⟨X.heap.size, 0, none⟩), .pointer (some ⟨w1.heap.size, 0, none⟩)] (w1.alloc (.cells #[eachF X.heap.size w1.heap.size] t')) fun e X' => e = .returned (.tuple #[]) ∧ ∃ F', S F' (tl t) X' ∧ Mod F X X' ∧ ∀ j, F' j → F j ∨ X.heap.size ≤ j) := fun t' => by
    have hA2 : Below w1.heap.size w1 (w1.alloc (.cells #[eachF X.heap.size w1.heap.size] t')) := (Below.refl _ w1).alloc (Nat.le_refl _) _
    have hA : Below X.heap.size X (w1.alloc (.cells #[eachF X.heap.size w1.heap.size] t')) := hA1.trans (hA2.mono hA1.size)
    have hF : ∀ b, X.heap.size ≤ b → ¬ F b := fun b h q => by have := hS.high F [] X hs b q; omega
    rcases hT with ⟨rfl, e⟩ | ⟨hn, hT⟩
    · obtain rfl : p = none := by simpa using e
      refine (each1_nil _ _ _).mono ?_
      rintro e w' ⟨rfl, rfl⟩
      exact ⟨rfl, F, hS.keep F [] X _ hs fun j hj => hA.block j (hS.high F [] X hs j hj), Mod.of_below hA, fun j hj => Or.inl hj⟩
    · have hEA : EaS S w X.heap.size w1.heap.size (.func (.func 148) #[] #[.pointer (some ⟨m, 0, none⟩)]) (eachF X.heap.size w1.heap.size) (.slice none 0 0) [] none 0 F [] (w1.alloc (.cells #[eachF X.heap.size w1.heap.size] t')) := by
        refine ⟨hb.trans (hA.mono hb.size), WayAt.nil _, fun g e => (by cases e), hS.keep F [] X _ hs fun j hj => hA.block j (hS.high F [] X hs j hj), fun g e => (by cases e), ?_, ?_, ⟨hF _ (Nat.le_refl _), by simp⟩, ⟨hF _ (by omega), by simp⟩⟩
        · rw [cell_of_blk ((hA2.block _ (Array.getElem?_eq_some_iff.1 hbx).1).trans hbx)]; rfl
        · rw [cell_of_blk (c := [eachF X.heap.size w1.heap.size]) (t := t') (heap_alloc_new w1 _)]; rfl
      refine (eachAny_cn hS hf (tdep t) t (Nat.le_refl _) hQ hT hn hO hEA (by simp) (by simpa using hway) (by simpa using htot)).mono ?_
      rintro e X' ⟨rfl, F', q, q1, q2⟩
      have q3 := q.st
      simp only [List.nil_append, pre_none] at q3
      refine ⟨rfl, F', q3, (Mod.of_below hA).then q1 fun i _ r => ?_, fun j hj => ?_⟩
      · rcases r with r | r
        · cases r
        · exact r
      · rcases q2 j hj with r | r
        · exact Or.inl r
        · exact Or.inr (Nat.le_trans hA.size r)
  unfold eachF at hE
  generalize tl t = T at *
  clear hQ hb hT hO hbx hA1 hs1 hway htot hs hS hf
  go_enter Try.func147, Try.ntmps147
  go_upto_region 1 with fail
  rw [← hw1]
  clear hw1
  go_wp2_with (go_at_call 154; refine (hE.out _).mono ?_; rintro e w' ⟨rfl, q⟩; have q := Lib.hid q)
  go_end0
  exact ⟨rfl, q.out⟩

end Go.Proofs.Ytgijnjdcpipfiaa
/- What the texts on numbers of trees share. -/
namespace Go.Proofs.Ytgijnjdcpipfiaa
open Go.RowKit
theorem below_al (w : World) (o : Obj) : Below w.heap.size w (w.alloc o) := (Below.refl _ w).alloc (Nat.le_refl _) o
theorem treeV_nz {Q : List NP} {t : Tr} {v : Value} (h : TreeV Q t v) : t = .nil ∨ IsN t := by
  rcases h with ⟨h, _⟩ | ⟨h, _⟩
  · exact Or.inl h
  · exact Or.inr h
end Go.Proofs.Ytgijnjdcpipfiaa
/- stats.place, and stats.count of a tree. -/
namespace Go.Proofs.Ytgijnjdcpipfiaa
open Go.RowKit
def plc (m : Nat) : Nat := if m ≤ 4 then 0 else if m ≤ 16 then 1 else if m ≤ 48 then 2 else 3
set_option maxRecDepth 100000 in
theorem place_at (w : World) (p k : Nat) (h : (p = 0 ∧ k = 4) ∨ (p = 1 ∧ k = 16) ∨ (p = 2 ∧ k = 48) ∨ (p = 3 ∧ k = 256)) : Calls Try.prog 106 #[.int .i64 (k : Nat)] w fun e w' => e = .returned (.int .i64 (p : Nat)) ∧ w = w' := by
  have H := Lib.hid h
  have hk0 : ((k : Int) == 4) = decide (p = 0) := by rcases h with ⟨rfl, rfl⟩ | ⟨rfl, rfl⟩ | ⟨rfl, rfl⟩ | ⟨rfl, rfl⟩ <;> rfl
  have hk1 : ((k : Int) == 16) = decide (p = 1) := by rcases h with ⟨rfl, rfl⟩ | ⟨rfl, rfl⟩ | ⟨rfl, rfl⟩ | ⟨rfl, rfl⟩ <;> rfl
  have hk2 : ((k : Int) == 48) = decide (p = 2) := by rcases h with ⟨rfl, rfl⟩ | ⟨rfl, rfl⟩ | ⟨rfl, rfl⟩ | ⟨rfl, rfl⟩ <;> rfl
  clear h
  have i0 : ∀ w, (Instr.index 166 (.agg #[.int .i64 4, .int .i64 16, .int .i64 48]) (.int .i64 0)).run Try.prog w = .ok (.int .i64 4) w := fun _ => by kernel_rfl
  have i1 : ∀ w, (Instr.index 166 (.agg #[.int .i64 4, .int .i64 16, .int .i64 48]) (.int .i64 1)).run Try.prog w = .ok (.int .i64 16) w := fun _ => by kernel_rfl
  have i2 : ∀ w, (Instr.index 166 (.agg #[.int .i64 4, .int .i64 16, .int .i64 48]) (.int .i64 2)).run Try.prog w = .ok (.int .i64 48) w := fun _ => by kernel_rfl
  go_enter Try.func106, Try.ntmps106
  go_wp2_with fail
  go_loopw [6] (fun v6 wr => ∃ i : Int, v6 = .int .i64 i ∧ 0 ≤ i ∧ i ≤ p ∧ i ≤ 3 ∧ w = wr) (fun v6 _ => (4 - intOf v6).toNat)
  case atStart => exact ⟨0, rfl, by omega, by omega, by omega, rfl⟩
  case round =>
    obtain ⟨i, rfl, hi0, hi, hi3, rfl⟩ := hrel
    have hH : p ≤ 3 := by rcases H.out with ⟨rfl, _⟩ | ⟨rfl, _⟩ | ⟨rfl, _⟩ | ⟨rfl, _⟩ <;> omega
    rcases (by omega : i = 0 ∨ i = 1 ∨ i = 2 ∨ i = 3) with rfl | rfl | rfl | rfl
    · by_cases h : p = 0
      · subst h
        have hk : ((k : Int) == 4) = true := hk0
        go_wp2_with fail
        go_ret
        exact ⟨rfl, rfl⟩
      · have hk : ((k : Int) == 4) = false := by rw [hk0]; simpa using h
        go_wp2_with fail
        go_roundw
        case rel => exact ⟨1, (by first | rfl | go_num), by omega, by omega, by omega, (by first | trivial | rfl)⟩
        case measure => (simp [intOf]) <;> omega
    · by_cases h : p = 1
      · subst h
        have hk : ((k : Int) == 16) = true := hk1
        go_wp2_with fail
        go_ret
        exact ⟨rfl, rfl⟩
      · have hk : ((k : Int) == 16) = false := by rw [hk1]; simpa using h
        go_wp2_with fail
        go_roundw
        case rel => exact ⟨2, (by first | rfl | go_num), by omega, by omega, by omega, (by first | trivial | rfl)⟩
        case measure => (simp [intOf]) <;> omega
    · by_cases h : p = 2
      · subst h
        have hk : ((k : Int) == 48) = true := hk2
        go_wp2_with fail
        go_ret
        exact ⟨rfl, rfl⟩
      · have hk : ((k : Int) == 48) = false := by rw [hk2]; simpa using h
        go_wp2_with fail
        go_roundw
        case rel => exact ⟨3, (by first | rfl | go_num), by omega, by omega, by omega, (by first | trivial | rfl)⟩
        case measure => (simp [intOf]) <;> omega
    · obtain rfl : p = 3 := by omega
      go_wp2_with fail
      go_ret
      exact ⟨rfl, rfl⟩
theorem place_is (w : World) (m : Nat) : Calls Try.prog 106 #[.int .i64 (kindOf m : Nat)] w fun e w' => e = .returned (.int .i64 (plc m : Nat)) ∧ w = w' := by
  refine place_at w (plc m) (kindOf m) ?_
  unfold plc kindOf
  by_cases h1 : m ≤ 4
  · simp [h1]
  · by_cases h2 : m ≤ 16
    · simp [h1, h2]
    · by_cases h3 : m ≤ 48
      · simp [h1, h2, h3]
      · simp [h1, h2, h3]
/-- block g holds the numbers -/
structure StIs (T : TypeId) (w : World) (g : Nat) (s : StN) : Prop where
  blk : w.heap[g]? = some (.cells s.cells.toArray T (0, 0))
section
variable {T : TypeId} {w w' : World} {g : Nat} {s s' : StN}
theorem StIs.lt (h : StIs T w g s) : g < w.heap.size := (Array.getElem?_eq_some_iff.1 h.blk).1
theorem StIs.below (h : StIs T w g s) (hb : Below w.heap.size w w') : StIs T w' g s := ⟨(hb.block g h.lt).trans h.blk⟩
theorem StIs.set (h : StIs T w g s) (i : Nat) (v : Value) (he : s.cells.set i v = s'.cells) : StIs T (w.setCell ⟨g, i, none⟩ v) g s' := by
  refine ⟨?_⟩
  rw [setCell_list _ _ _ _ _ _ h.blk, setRow_heap _ _ _ _ _ _ h.blk, he]
theorem StIs.fz (h : StIs T w g s) (i : Nat) : w.frozen? ⟨g, i, none⟩ = false := frozen_of_blk h.blk i
theorem StIs.facts {a0 a1 a2 a3 a4 a5 a6 a7 a8 a9 a10 : Nat} (h : StIs T w g ⟨a0, a1, a2, a3, a4, a5, a6, a7, a8, a9, a10⟩) : w.cell? ⟨g, 0, none⟩ = some (.int .i64 a0) ∧ w.cell? ⟨g, 1, none⟩ = some (.int .i64 a1) ∧ w.cell? ⟨g, 6, none⟩ = some (.int .i64 a6) ∧ w.cell? ⟨g, 7, none⟩ = some (.int .i64 a7) ∧ w.cell? ⟨g, 8, none⟩ = some (.int .i64 a8) ∧ w.cell? ⟨g, 9, none⟩ = some (.int .i64 a9) ∧ w.frozen? ⟨g, 0, none⟩ = false ∧ w.frozen? ⟨g, 1, none⟩ = false ∧ w.frozen? ⟨g, 6, none⟩ = false ∧ w.frozen? ⟨g, 7, none⟩ = false ∧ w.frozen? ⟨g, 8, none⟩ = false ∧ w.frozen? ⟨g, 9, none⟩ = false :=
  ⟨by rw [cell_of_blk h.blk]; rfl, by rw [cell_of_blk h.blk]; rfl, by rw [cell_of_blk h.blk]; rfl, by rw [cell_of_blk h.blk]; rfl, by rw [cell_of_blk h.blk]; rfl, by rw [cell_of_blk h.blk]; rfl, h.fz 0, h.fz 1, h.fz 6, h.fz 7, h.fz 8, h.fz 9⟩
end
end Go.Proofs.Ytgijnjdcpipfiaa
/- stats.count of a leaf. -/
namespace Go.Proofs.Ytgijnjdcpipfiaa
open Go.RowKit
def cntPost (T : TypeId) (wb : World) (g : Nat) (s : StN) (e : Ending) (w' : World) : Prop := e = .returned (.tuple #[]) ∧ StIs T w' g s ∧ Below wb.heap.size wb w'
set_option maxHeartbeats 4000000 in
set_option maxRecDepth 100000 in
theorem st_leaf {T : TypeId} {wb w0 w : World} {Q : List NP} (hQ : StoreP NoB w0 wb Q) (hB : Below wb.heap.size wb w) {g : Nat} (hg : wb.heap.size ≤ g) {s : StN} (hS : StIs T w g s) {i : Nat} {p : NP} (hi : Q[i]? = some p) (hl : p.kk = none) (hh : p.has = true) (way deep M : Nat) (hM : s.le M) (hw : way + deep ≤ M) (hM2 : M + p.bs.length + 2 ≤ 2000000000000000000) :
    Calls Try.prog 63 #[.pointer (some ⟨g, 0, none⟩), .pointer (some ⟨p.n, 0, none⟩), .int .i64 (way : Nat), .int .i64 (deep : Nat)] w (cntPost T wb g (stNode p.bs true true 0 way deep s)) := by
  obtain ⟨hf8, hfl⟩ := hQ.fit hi
  have hPart : Hid (∀ X, Below wb.heap.size wb X → Calls Try.prog 25 #[.pointer (some ⟨p.n, 0, none⟩)] X (npartPost p.bs X)) := fun X hb => by
    obtain ⟨pv, bo, kp, Sk, hn⟩ := (hQ.below hb).is hi
    exact nd_part_sl hn hf8 hfl
  have hVal : Hid (∀ X, Below wb.heap.size wb X → Calls Try.prog 10 #[.pointer (some ⟨p.n, 0, none⟩)] X fun e w' => e = .returned (.tuple #[.int .u64 p.val, .bool true]) ∧ X = w') := fun X hb => by
    obtain ⟨pv, bo, kp, Sk, hn⟩ := (hQ.below hb).is hi
    have := nd_val hn
    rw [hh, if_pos rfl] at this
    exact this
  have hKind : Hid (∀ X, Below wb.heap.size wb X → Calls Try.prog 22 #[.pointer (some ⟨p.n, 0, none⟩)] X fun e w' => e = .returned (.int .i64 1) ∧ X = w') := fun X hb => by
    have := sp_kind (hQ.below hb) hi
    rw [hl] at this
    exact this
  obtain ⟨a0, a1, a2, a3, a4, a5, a6, a7, a8, a9, a10⟩ := s
  obtain ⟨h0, h1, h2, h3, h4, h5, h6, h7, h8, h9⟩ := hM
  generalize p.bs = bs at *
  generalize p.val = pv at *
  generalize p.n = pn at *
  obtain ⟨z9, e9⟩ : ∃ z, z = a9 + bs.length := ⟨_, rfl⟩
  obtain ⟨zd, ed⟩ : ∃ z, z = deep + 1 := ⟨_, rfl⟩
  obtain ⟨z7, e7⟩ : ∃ z, z = max a7 (deep + 1) := ⟨_, rfl⟩
  obtain ⟨z0, e0⟩ : ∃ z, z = a0 + 1 := ⟨_, rfl⟩
  obtain ⟨z1, e1⟩ : ∃ z, z = a1 + 1 := ⟨_, rfl⟩
  obtain ⟨zw, ew⟩ : ∃ z, z = way + bs.length := ⟨_, rfl⟩
  obtain ⟨z8, e8⟩ : ∃ z, z = max a8 (way + bs.length) := ⟨_, rfl⟩
  have hfin : Hid (∀ _ : Unit, stNode bs true true 0 way deep ⟨a0, a1, a2, a3, a4, a5, a6, a7, a8, a9, a10⟩ = ⟨z0, z1, a2, a3, a4, a5, a6, z7, z8, z9, a10⟩) := fun _ => by
    rw [e9, e7, e0, e1, e8]; rfl
  have w9 : IntKind.i64.wrap ((a9 : Int) + (bs.length : Nat)) = (z9 : Int) := by rw [show (a9 : Int) + (bs.length : Nat) = ((z9 : Nat) : Int) by omega]; exact IntWalk.i64_in _ (by simp at *; omega)
  have wd : IntKind.i64.wrap ((deep : Int) + 1) = (zd : Int) := by rw [show (deep : Int) + 1 = ((zd : Nat) : Int) by omega]; exact IntWalk.i64_in _ (by simp at *; omega)
  have w7 : max (a7 : Int) (zd : Int) = (z7 : Int) := by omega
  have wk : IntKind.i64.wrap ((a0 : Int) + 1) = (z0 : Int) := by rw [show (a0 : Int) + 1 = ((z0 : Nat) : Int) by omega]; exact IntWalk.i64_in _ (by simp at *; omega)
  have wl : IntKind.i64.wrap ((a1 : Int) + 1) = (z1 : Int) := by rw [show (a1 : Int) + 1 = ((z1 : Nat) : Int) by omega]; exact IntWalk.i64_in _ (by simp at *; omega)
  have ww : IntKind.i64.wrap ((way : Int) + (bs.length : Nat)) = (zw : Int) := by rw [show (way : Int) + (bs.length : Nat) = ((zw : Nat) : Int) by omega]; exact IntWalk.i64_in _ (by simp at *; omega)
  have w8 : max (a8 : Int) (zw : Int) = (z8 : Int) := by omega
  have hg := Lib.hid hg
  have hS := Lib.hid hS
  have hB := Lib.hid hB
  clear h0 h1 h2 h3 h4 h5 h6 h7 h8 h9 hw hM2 e9 ed e7 e0 e1 ew e8 hQ hi hl hh hf8 hfl
  go_enter Try.func63, Try.ntmps63
  go_wp2_with (first
    | (have g0 := S2
       go_at_call 22
       have S3 := Lib.hid ((S2.out.set (s' := ⟨z0, a1, a2, a3, a4, a5, a6, z7, a8, z9, a10⟩) 0 (.int .i64 z0) rfl).set (s' := ⟨z0, a1, a2, a3, a4, a5, a6, z7, z8, z9, a10⟩) 8 (.int .i64 z8) rfl)
       have B3 := Lib.hid ((B2.out.setCell (p := ⟨g, 0, none⟩) hg.out (.int .i64 z0)).setCell (p := ⟨g, 8, none⟩) hg.out (.int .i64 z8))
       refine (hKind.out _ B3.out).mono ?_; rintro e w3 ⟨rfl, q⟩
       rw [q] at S3 B3
       clear q c0 c1 c6 c7 c8 c9 f0 f1 f6 f7 f8 f9
       obtain ⟨c0, c1, c6, c7, c8, c9, f0, f1, f6, f7, f8, f9⟩ := S3.out.facts)
    | (have g0 := S1
       go_at_call 10
       have S2 := Lib.hid ((S1.out.set (s' := ⟨a0, a1, a2, a3, a4, a5, a6, a7, a8, z9, a10⟩) 9 (.int .i64 z9) rfl).set (s' := ⟨a0, a1, a2, a3, a4, a5, a6, z7, a8, z9, a10⟩) 7 (.int .i64 z7) rfl)
       have B2 := Lib.hid ((B1.out.setCell (p := ⟨g, 9, none⟩) hg.out (.int .i64 z9)).setCell (p := ⟨g, 7, none⟩) hg.out (.int .i64 z7))
       refine (hVal.out _ B2.out).mono ?_; rintro e w2 ⟨rfl, q⟩
       rw [q] at S2 B2
       clear q c0 c1 c6 c7 c8 c9 f0 f1 f6 f7 f8 f9
       obtain ⟨c0, c1, c6, c7, c8, c9, f0, f1, f6, f7, f8, f9⟩ := S2.out.facts)
    | (go_at_call 25; refine (hPart.out _ hB.out).mono ?_; rintro e w1 ⟨pa, rfl, _, z⟩
       have S1 := Lib.hid (hS.out.below z)
       have B1 := Lib.hid (hB.out.trans (z.mono hB.out.size))
       obtain ⟨c0, c1, c6, c7, c8, c9, f0, f1, f6, f7, f8, f9⟩ := S1.out.facts
       clear z))
  (try simp only [Exit.inBlock, Exit.then])
  refine bodyPost_ret (results_none rfl _ _ _) rfl ?_
  exact ⟨rfl, by rw [hfin.out ()]; exact S3.out.set 1 (.int .i64 z1) rfl, B3.out.setCell (p := ⟨g, 1, none⟩) hg.out _⟩
end Go.Proofs.Ytgijnjdcpipfiaa
/- stats.count of an inner node. Written by mkstat.py. -/
namespace Go.Proofs.Ytgijnjdcpipfiaa
open Go.RowKit
theorem tree_krow {Q : List NP} {lo : Nat} : ∀ {r : Tr} {v : Value} {l : KV}, TreeIn Q lo r v l → IsK r → TOk r → l.length = krow r
  | .nil, _, l, h, _, _ => by have h : l = [] := h; subst h; rfl
  | .node .., _, _, _, h, _ => h.elim
  | .kid c t r, v, lr, ⟨x, l', h1, h2, h3⟩, _, ⟨k1, k2, k3, k4, k5, k6⟩ => by
    subst h1
    have := tree_krow h3 k4 k5
    simp [krow, this]; omega
def CountAsk (T : TypeId) (wb : World) (Q : List NP) (g N : Nat) : Prop := ∀ (t : Tr) (w : World) (v : Option Addr) (s : StN) (way deep M : Nat), tdep t ≤ N → IsN t → TreeV Q t (.pointer v) → TOk t → Below wb.heap.size wb w → StIs T w g s → s.le M → way + deep ≤ M → M + tw t ≤ 2000000000000000000 →
  Calls Try.prog 63 #[.pointer (some ⟨g, 0, none⟩), .pointer v, .int .i64 (way : Nat), .int .i64 (deep : Nat)] w (cntPost T wb g (stAdd t way deep s))
/-- the number of a kind -/
def StN.kind (s : StN) (p : Nat) : Nat := if p = 0 then s.k0 else if p = 1 then s.k1 else if p = 2 then s.k2 else s.k3
theorem kind_facts {T : TypeId} {w : World} {g : Nat} {s : StN} (h : StIs T w g s) {M : Nat} (hM : s.le M) (m : Nat) : ∃ p k : Nat, p = plc m ∧ p < 4 ∧ k ≤ M ∧ w.cell? ⟨g, 2 + p, none⟩ = some (.int .i64 (k : Nat)) ∧ w.frozen? ⟨g, 2 + p, none⟩ = false ∧ StIs T (w.setCell ⟨g, 2 + p, none⟩ (.int .i64 ((k + 1 : Nat) : Int))) g (s.bump m) := by
  refine ⟨plc m, s.kind (plc m), rfl, by unfold plc; split <;> (try split) <;> (try split) <;> omega, ?_, ?_, h.fz _, ?_⟩
  · unfold StN.kind; have := hM.k0; have := hM.k1; have := hM.k2; have := hM.k3; split <;> (try split) <;> (try split) <;> assumption
  · rw [cell_of_blk h.blk]
    by_cases h1 : m ≤ 4
    · simp [plc, StN.kind, StN.cells, h1]
    · by_cases h2 : m ≤ 16
      · simp [plc, StN.kind, StN.cells, h1, h2]
      · by_cases h3 : m ≤ 48 <;> simp [plc, StN.kind, StN.cells, h1, h2, h3]
  · refine h.set _ _ ?_
    by_cases h1 : m ≤ 4
    · simp [plc, StN.kind, StN.cells, StN.bump, h1]
    · by_cases h2 : m ≤ 16
      · simp [plc, StN.kind, StN.cells, StN.bump, h1, h2]
      · by_cases h3 : m ≤ 48 <;> simp [plc, StN.kind, StN.cells, StN.bump, h1, h2, h3]
theorem StIs.drew {T : TypeId} {w : World} {g : Nat} {s : StN} (h : StIs T w g s) : StIs T w.drew g s := ⟨h.blk⟩
theorem kids_rise {Q : List NP} {kk : KV} {ks r' : Tr} {A lr' : KV} {b : Nat} {x : Value} (hnext : Kids Q kk ks r' (A ++ [(b, x)]) lr') (hb : b < 256) : ∀ p ∈ lr', b < p.1 ∧ p.1 < 256 := fun q hq => by
  have h1 := hnext.lt (b, x) (by simp) q hq
  refine ⟨h1, ?_⟩
  have := row_from (b := 0) hnext.tree hnext.isK hnext.ok
  cases hr : r' with
  | nil => have e : lr' = [] := by have := hnext.tree; rw [hr] at this; exact this
           rw [e] at hq; simp at hq
  | node => have := hnext.isK; rw [hr] at this; exact this.elim
  | kid c t2 r2 =>
    by_cases hc : 0 < c
    · exact (this (by rw [hr]; exact hc) q hq).2
    · have ht := hnext.tree
      have ho := hnext.ok
      rw [hr] at ht ho
      obtain ⟨x2, l2, e2, _, h3⟩ := ht
      rw [e2] at hq
      rcases List.mem_cons.1 hq with rfl | hq
      · exact ho.1
      · exact (row_from h3 ho.2.2.2.1 ho.2.2.2.2.1 ho.2.2.2.2.2 q hq).2
set_option maxHeartbeats 4000000 in
set_option maxRecDepth 100000 in
theorem st_has {T : TypeId} {wb w0 w : World} {Q : List NP} {g N : Nat} (IH : CountAsk T wb Q g N) (hQ : StoreP NoB w0 wb Q) (hB : Below wb.heap.size wb w) (hg : wb.heap.size ≤ g) {s : StN} (hS : StIs T w g s) {i : Nat} {p : NP} (hi : Q[i]? = some p) {l : KV} (hl : p.kk = some l) (hh : p.has = true) {ks : Tr} (hT : TreeIn Q 0 ks (.pointer none) l) (hK : IsK ks) (hO : TOk ks) (hd : tdep ks ≤ N) (way deep M : Nat) (hM : s.le M) (hw : way + deep ≤ M) (hM2 : M + p.bs.length + 2 + tw ks ≤ 2000000000000000000) :
    Calls Try.prog 63 #[.pointer (some ⟨g, 0, none⟩), .pointer (some ⟨p.n, 0, none⟩), .int .i64 (way : Nat), .int .i64 (deep : Nat)] w (cntPost T wb g (stAdd ks (way + p.bs.length + 1) (deep + 1) (stNode p.bs true false (krow ks) way deep s))) := by
  obtain ⟨hf8, hfl⟩ := hQ.fit hi
  have hkr := tree_krow hT hK hO
  obtain ⟨hs, hx0⟩ := kids_start hT rfl hK hO
  have hstart := Lib.hid hs
  have hPart : Hid (∀ X, Below wb.heap.size wb X → Calls Try.prog 25 #[.pointer (some ⟨p.n, 0, none⟩)] X (npartPost p.bs X)) := fun X hb => by
    obtain ⟨pv, bo, kp, Sk, hn⟩ := (hQ.below hb).is hi
    exact nd_part_sl hn hf8 hfl
  have hVal : Hid (∀ X, Below wb.heap.size wb X → Calls Try.prog 10 #[.pointer (some ⟨p.n, 0, none⟩)] X fun e w' => e = .returned (.tuple #[.int .u64 p.val, .bool true]) ∧ X = w') := fun X hb => by
    obtain ⟨pv, bo, kp, Sk, hn⟩ := (hQ.below hb).is hi
    have := nd_val hn
    rw [hh] at this
    exact this
  have hKind : Hid (∀ X, Below wb.heap.size wb X → Calls Try.prog 22 #[.pointer (some ⟨p.n, 0, none⟩)] X fun e w' => e = .returned (.int .i64 (kindOf (krow ks) : Nat)) ∧ X = w') := fun X hb => by
    have := sp_kind (hQ.below hb) hi
    rw [hl] at this
    rw [← hkr]
    exact this
  have hNx : Hid (∀ X f, Below wb.heap.size wb X → (0 : Int) ≤ f → f ≤ 256 → Calls Try.prog 11 #[.pointer (some ⟨p.n, 0, none⟩), .int .i64 f] X fun e w' => e = .returned (stepV (knxt l f)) ∧ Below X.heap.size X w') := fun X f hb h1 h2 => by
    obtain ⟨pv, bo, kp, Sk, hn⟩ := (hQ.below hb).is hi
    have := nd_next hn f (by omega) (by omega)
    rw [hl] at this
    exact this.mono fun e w' ⟨e1, n, e2⟩ => ⟨e1, by rw [e2]; exact below_drewN (Below.refl _ _) n⟩
  have hN0 : Hid (∀ X, Below wb.heap.size wb X → Calls Try.prog 11 #[.pointer (some ⟨p.n, 0, none⟩), .int .i64 0] X fun e w' => e = .returned (.tuple #[.int .u8 (hdB l : Nat), hdK l]) ∧ Below X.heap.size X w') := fun X hb => by
    have := hNx.out X 0 hb (by omega) (by omega)
    rw [hx0, stepV_head] at this
    exact this
  have hPl := Lib.hid (fun X => place_is X (krow ks))
  have hk1 : Hid (1 < kindOf (krow ks) ∧ kindOf (krow ks) < 257) := by show _ ∧ _; unfold kindOf; split <;> (try split) <;> (try split) <;> omega
  obtain ⟨s1, hs1⟩ : ∃ s1, s1 = stNode p.bs true false (krow ks) way deep s := ⟨_, rfl⟩
  have hle := stNode_le (bs := p.bs) (has := true) (leaf := false) (m := krow ks) hM hw
  rw [← hs1] at hle
  obtain ⟨m, hm⟩ : ∃ m, m = krow ks := ⟨_, rfl⟩
  rw [← hm] at hKind hPl hk1 hs1
  obtain ⟨kd, hkd⟩ : ∃ kd, kd = kindOf m := ⟨_, rfl⟩
  rw [← hkd] at hKind hPl hk1
  obtain ⟨a0, a1, a2, a3, a4, a5, a6, a7, a8, a9, a10⟩ := s
  have HM := Lib.hid hM
  obtain ⟨h0, h1, h2, h3, h4, h5, h6, h7, h8, h9⟩ := hM
  have htw : p.bs.length + 2 + way + deep ≤ M + p.bs.length + 2 := by omega
  generalize p.bs = bs at *
  generalize p.val = pv at *
  generalize p.n = pn at *
  obtain ⟨z9, e9⟩ : ∃ z, z = a9 + bs.length := ⟨_, rfl⟩
  obtain ⟨zd, ed⟩ : ∃ z, z = deep + 1 := ⟨_, rfl⟩
  obtain ⟨z7, e7⟩ : ∃ z, z = max a7 (deep + 1) := ⟨_, rfl⟩
  obtain ⟨z0, e0⟩ : ∃ z, z = a0 + 1 := ⟨_, rfl⟩
  obtain ⟨z6, e6⟩ : ∃ z, z = a6 + 1 := ⟨_, rfl⟩
  obtain ⟨zw, ew⟩ : ∃ z, z = way + bs.length := ⟨_, rfl⟩
  obtain ⟨zx, ex⟩ : ∃ z, z = zw + 1 := ⟨_, rfl⟩
  obtain ⟨z8, e8⟩ : ∃ z, z = max a8 (way + bs.length) := ⟨_, rfl⟩
  have hfin : Hid (∀ _ : Unit, StN.bump ⟨z0, a1, a2, a3, a4, a5, z6, z7, z8, z9, a10⟩ m = s1) := fun _ => by
    rw [hs1, e9, e7, e0, e6, e8]; rfl
  have hends : Hid (∀ _ : Unit, stAdd ks (way + bs.length + 1) (deep + 1) s1 = stAdd ks zx zd s1) := fun _ => by rw [ex, ew, ed]
  have hzz : Hid (∀ z, z = zx + zd → z ≤ M + bs.length + 2) := fun z e => by omega
  have hM2 := Lib.hid hM2
  have HM4 : Hid (StN.le ⟨z0, a1, a2, a3, a4, a5, z6, z7, z8, z9, a10⟩ (M + bs.length + 2)) := by
    constructor <;> simp only [] at * <;> omega
  have w9 : IntKind.i64.wrap ((a9 : Int) + (bs.length : Nat)) = (z9 : Int) := by rw [show (a9 : Int) + (bs.length : Nat) = ((z9 : Nat) : Int) by omega]; exact IntWalk.i64_in _ (by have := hM2.out; simp at *; omega)
  have wd : IntKind.i64.wrap ((deep : Int) + 1) = (zd : Int) := by rw [show (deep : Int) + 1 = ((zd : Nat) : Int) by omega]; exact IntWalk.i64_in _ (by have := hM2.out; simp at *; omega)
  have w7 : max (a7 : Int) (zd : Int) = (z7 : Int) := by omega
  have wk : IntKind.i64.wrap ((a0 : Int) + 1) = (z0 : Int) := by rw [show (a0 : Int) + 1 = ((z0 : Nat) : Int) by omega]; exact IntWalk.i64_in _ (by have := hM2.out; simp at *; omega)
  have w6 : IntKind.i64.wrap ((a6 : Int) + 1) = (z6 : Int) := by rw [show (a6 : Int) + 1 = ((z6 : Nat) : Int) by omega]; exact IntWalk.i64_in _ (by have := hM2.out; simp at *; omega)
  have ww : IntKind.i64.wrap ((way : Int) + (bs.length : Nat)) = (zw : Int) := by rw [show (way : Int) + (bs.length : Nat) = ((zw : Nat) : Int) by omega]; exact IntWalk.i64_in _ (by have := hM2.out; simp at *; omega)
  have wx : IntKind.i64.wrap ((zw : Int) + 1) = (zx : Int) := by rw [show (zw : Int) + 1 = ((zx : Nat) : Int) by omega]; exact IntWalk.i64_in _ (by have := hM2.out; simp at *; omega)
  have w8 : max (a8 : Int) (zw : Int) = (z8 : Int) := by omega
  have hkd1 : ((kd : Int) == 1) = false := by rw [beq_eq_false_iff_ne]; have := hk1.out; omega
  have hg := Lib.hid hg
  have hS := Lib.hid hS
  have hB := Lib.hid hB
  have hle := Lib.hid hle
  rw [← hm, ← hs1, hends.out ()]
  clear h0 h1 h2 h3 h4 h5 h6 h7 h8 h9 hw e9 ed e7 e0 ew ex e6 e8 hQ hi hl hh hf8 hfl hs hx0 hT hkr hm hs1 hkd htw HM
  go_enter Try.func63, Try.ntmps63
  go_wp2_with (first
    | (have g0 := S2
       go_at_call 22
       have S3 := Lib.hid ((S2.out.set (s' := ⟨z0, a1, a2, a3, a4, a5, a6, z7, a8, z9, a10⟩) 0 (.int .i64 z0) rfl).set (s' := ⟨z0, a1, a2, a3, a4, a5, a6, z7, z8, z9, a10⟩) 8 (.int .i64 z8) rfl)
       have B3 := Lib.hid ((B2.out.setCell (p := ⟨g, 0, none⟩) hg.out (.int .i64 z0)).setCell (p := ⟨g, 8, none⟩) hg.out (.int .i64 z8))
       refine (hKind.out _ B3.out).mono ?_; rintro e w3 ⟨rfl, q⟩
       rw [q] at S3 B3
       clear q c0 c1 c6 c7 c8 c9 f0 f1 f6 f7 f8 f9
       obtain ⟨c0, c1, c6, c7, c8, c9, f0, f1, f6, f7, f8, f9⟩ := S3.out.facts)
    | (have g0 := S1
       go_at_call 10
       have S2 := Lib.hid ((S1.out.set (s' := ⟨a0, a1, a2, a3, a4, a5, a6, a7, a8, z9, a10⟩) 9 (.int .i64 z9) rfl).set (s' := ⟨a0, a1, a2, a3, a4, a5, a6, z7, a8, z9, a10⟩) 7 (.int .i64 z7) rfl)
       have B2 := Lib.hid ((B1.out.setCell (p := ⟨g, 9, none⟩) hg.out (.int .i64 z9)).setCell (p := ⟨g, 7, none⟩) hg.out (.int .i64 z7))
       refine (hVal.out _ B2.out).mono ?_; rintro e w2 ⟨rfl, q⟩
       rw [q] at S2 B2
       clear q c0 c1 c6 c7 c8 c9 f0 f1 f6 f7 f8 f9
       obtain ⟨c0, c1, c6, c7, c8, c9, f0, f1, f6, f7, f8, f9⟩ := S2.out.facts)
    | (go_at_call 25; refine (hPart.out _ hB.out).mono ?_; rintro e w1 ⟨pa, rfl, _, z⟩
       have S1 := Lib.hid (hS.out.below z)
       have B1 := Lib.hid (hB.out.trans (z.mono hB.out.size))
       obtain ⟨c0, c1, c6, c7, c8, c9, f0, f1, f6, f7, f8, f9⟩ := S1.out.facts
       clear z))
  have S4 := Lib.hid (S3.out.set (s' := ⟨z0, a1, a2, a3, a4, a5, z6, z7, z8, z9, a10⟩) 6 (.int .i64 z6) rfl)
  have B4 := Lib.hid (B3.out.setCell (p := ⟨g, 6, none⟩) hg.out (.int .i64 z6))
  clear c0 c1 c6 c7 c8 c9 f0 f1 f6 f7 f8 f9
  generalize w3.setCell ⟨g, 6, none⟩ (.int .i64 z6) = w4 at *
  obtain ⟨pl, kc, hpl, hpl4, hkc, cK, fK, S5⟩ := kind_facts S4.out HM4.out m
  rw [← hpl] at hPl
  obtain ⟨kz, hkz⟩ : ∃ kz, kz = kc + 1 := ⟨_, rfl⟩
  rw [← hkz] at S5
  have wK : IntKind.i64.wrap ((kc : Int) + 1) = (kz : Int) := by rw [show (kc : Int) + 1 = ((kz : Nat) : Int) by omega]; exact IntWalk.i64_in _ (by have := hM2.out; simp at *; omega)
  have S5 := Lib.hid S5
  have p0 : (0 : Int) ≤ (pl : Int) := by omega
  have p4 : (pl : Int) < 4 := by omega
  have SF := Lib.hid (show StIs T (w4.setCell ⟨g, 2 + pl, none⟩ (.int .i64 (kz : Int))) g s1 by rw [← hfin.out ()]; exact S5.out)
  have BF := Lib.hid (B4.out.setCell (p := ⟨g, 2 + pl, none⟩) hg.out (.int .i64 (kz : Int)))
  clear hpl hkz hkc S1 S2 S3 B1 B2 B3 S4 S5 hfin HM4 g0
  go_cut [10] from 76 (fun s10 w' => s10 = .bool true ∧ Hid (StIs T w' g s1) ∧ Hid (Below wb.heap.size wb w'))
  case first =>
    go_region_with (first
      | (go_at_call 106; refine (hPl.out _).mono ?_; rintro e w6 ⟨rfl, rfl⟩)
      | (go_at_call 22; refine (hKind.out _ (by first | exact B4.out | exact B4.out.drew)).mono ?_; rintro e w5 ⟨rfl, rfl⟩))
    all_goals
      (try simp only [Exit.then, Exit.inBlock])
      go_wp2_with fail
      go_meet
      case rel => exact ⟨rfl, SF.out.drew, BF.out.drew⟩
  case rest =>
    clear cK fK SF BF wK p0 p4 B4 hPl hKind hPart hVal
    obtain ⟨rfl, S5, B5⟩ := hcut
    go_wp2_with (first
      | (go_at_call 11; refine (hN0.out _ B5.out).mono ?_; rintro e w6 ⟨rfl, z⟩
         have S6 := Lib.hid (S5.out.below z)
         have B6 := Lib.hid (B5.out.trans (z.mono B5.out.size))
         clear z))
    go_loopw [11, 12] (fun v11 v12 wr => ∃ (r : Tr) (A lr : KV) (s' : StN) (M' : Nat), v11 = .int .u8 (hdB lr : Nat) ∧ v12 = hdK lr ∧ Hid (stAdd r zx zd s' = stAdd ks zx zd s1) ∧ Hid (s'.le M' ∧ zx + zd ≤ M' ∧ M' + tw r ≤ 2000000000000000000) ∧ Hid (tdep r ≤ N) ∧ Hid (Kids Q l ks r A lr) ∧ Hid (StIs T wr g s') ∧ Hid (Below wb.heap.size wb wr)) (fun v11 v12 _ => match v12 with | .pointer none => 0 | _ => 256 - (intOf v11).toNat)
    case atStart => exact ⟨ks, [], l, s1, M + bs.length + 2, rfl, rfl, rfl, ⟨hle.out, hzz.out _ rfl, hM2.out⟩, hd, hstart, S6, B6⟩
    case round =>
      clear S5 S6 B5 B6 hstart hN0 hle hzz hM2
      obtain ⟨r, A, lr, s', M', rfl, rfl, hE, hM', hdr, hKd, hSr, hBr⟩ := hrel
      by_cases hl : lr = []
      · subst hl
        obtain rfl := hKd.out.done
        rw [show hdK ([] : KV) = .pointer none from rfl]
        go_wp2_with fail
        go_end0
        exact ⟨rfl, by rw [← hE.out]; exact hSr.out, hBr.out⟩
      · obtain ⟨b, t, r', x, lr', rfl, rfl, hb1, hx1, hb256, ⟨k, rfl⟩, hTV, hIN, hOk, hnext, hkn⟩ := hKd.out.next hl
        rw [hb1, hx1]
        have hD : Hid (Calls Try.prog 63 #[.pointer (some ⟨g, 0, none⟩), .pointer (some ⟨k, 0, none⟩), .int .i64 (zx : Nat), .int .i64 (zd : Nat)] wr (cntPost T wb g (stAdd t zx zd s'))) := by
          have h1 := hM'.out
          have h2 := hdr.out
          simp only [tw, tdep] at h1 h2
          exact IH t wr _ s' zx zd M' (by omega) hIN hTV hOk hBr.out hSr.out h1.1 h1.2.1 (by omega)
        have hM2' : Hid ((stAdd t zx zd s').le (M' + tw t) ∧ zx + zd ≤ M' + tw t ∧ M' + tw t + tw r' ≤ 2000000000000000000) := by
          have h1 := hM'.out
          simp only [tw] at h1
          exact ⟨stAdd_le t (way := zx) (deep := zd) h1.1 h1.2.1, by omega, by omega⟩
        have hd2 : Hid (tdep r' ≤ N) := by show _ ≤ _; have h2 := hdr.out; simp only [tdep] at h2; omega
        have hE2 : Hid (stAdd r' zx zd (stAdd t zx zd s') = stAdd ks zx zd s1) := hE.out
        have hN2 : Hid (∀ X, Below wb.heap.size wb X → Calls Try.prog 11 #[.pointer (some ⟨pn, 0, none⟩), .int .i64 ((b + 1 : Nat) : Int)] X fun e w' => e = .returned (.tuple #[.int .u8 (hdB lr' : Nat), hdK lr']) ∧ Below X.heap.size X w') := fun X hb' => by
          have := hNx.out X ((b + 1 : Nat) : Int) hb' (by omega) (by omega)
          rw [show (((b + 1 : Nat) : Int)) = (b : Int) + 1 by omega, hkn, stepV_head] at this
          exact this
        have hK2 := Lib.hid hnext
        have hwb : IntKind.i64.wrap ((b : Int) + 1) = ((b + 1 : Nat) : Int) := by rw [show (b : Int) + 1 = ((b + 1 : Nat) : Int) by omega]; exact IntWalk.i64_in _ (by omega)
        have hwc : IntKind.i64.wrap (b : Int) = (b : Int) := IntWalk.i64_in _ (by omega)
        have hms := Lib.hid (kids_rise hnext hb256)
        clear hTV hIN hOk hnext hkn hKd hl hb1 hx1 IH hNx hE hM' hdr hSr
        generalize stAdd t zx zd s' = s2 at *
        go_wp2_with (first
          | (go_at_call 11; refine (hN2.out _ B7.out).mono ?_; rintro e w8 ⟨rfl, z⟩
             have S8 := Lib.hid (S7.out.below z)
             have B8 := Lib.hid (B7.out.trans (z.mono B7.out.size))
             clear z)
          | (go_at_call 63; refine hD.out.mono ?_; rintro e w7 ⟨rfl, z1, z2⟩
             have S7 := Lib.hid z1
             have B7 := Lib.hid z2
             clear z1 z2))
        go_roundw
        case rel => exact ⟨r', A ++ [(b, .pointer (some ⟨k, 0, none⟩))], lr', s2, M' + tw t, rfl, rfl, hE2, hM2', hd2, hK2, S8, B8⟩
        case measure =>
          cases lr' with
          | nil => simp [hdK, hdB, intOf]; omega
          | cons y l => have := hms.out y (by simp); simp [hdK, hdB, intOf]; split <;> omega
set_option maxHeartbeats 4000000 in
set_option maxRecDepth 100000 in
theorem st_no {T : TypeId} {wb w0 w : World} {Q : List NP} {g N : Nat} (IH : CountAsk T wb Q g N) (hQ : StoreP NoB w0 wb Q) (hB : Below wb.heap.size wb w) (hg : wb.heap.size ≤ g) {s : StN} (hS : StIs T w g s) {i : Nat} {p : NP} (hi : Q[i]? = some p) {l : KV} (hl : p.kk = some l) (hh : p.has = false) {ks : Tr} (hT : TreeIn Q 0 ks (.pointer none) l) (hK : IsK ks) (hO : TOk ks) (hd : tdep ks ≤ N) (way deep M : Nat) (hM : s.le M) (hw : way + deep ≤ M) (hM2 : M + p.bs.length + 2 + tw ks ≤ 2000000000000000000) :
    Calls Try.prog 63 #[.pointer (some ⟨g, 0, none⟩), .pointer (some ⟨p.n, 0, none⟩), .int .i64 (way : Nat), .int .i64 (deep : Nat)] w (cntPost T wb g (stAdd ks (way + p.bs.length + 1) (deep + 1) (stNode p.bs false false (krow ks) way deep s))) := by
  obtain ⟨hf8, hfl⟩ := hQ.fit hi
  have hkr := tree_krow hT hK hO
  obtain ⟨hs, hx0⟩ := kids_start hT rfl hK hO
  have hstart := Lib.hid hs
  have hPart : Hid (∀ X, Below wb.heap.size wb X → Calls Try.prog 25 #[.pointer (some ⟨p.n, 0, none⟩)] X (npartPost p.bs X)) := fun X hb => by
    obtain ⟨pv, bo, kp, Sk, hn⟩ := (hQ.below hb).is hi
    exact nd_part_sl hn hf8 hfl
  have hVal : Hid (∀ X, Below wb.heap.size wb X → Calls Try.prog 10 #[.pointer (some ⟨p.n, 0, none⟩)] X fun e w' => e = .returned (.tuple #[.int .u64 0, .bool false]) ∧ X = w') := fun X hb => by
    obtain ⟨pv, bo, kp, Sk, hn⟩ := (hQ.below hb).is hi
    have := nd_val hn
    rw [hh] at this
    exact this
  have hKind : Hid (∀ X, Below wb.heap.size wb X → Calls Try.prog 22 #[.pointer (some ⟨p.n, 0, none⟩)] X fun e w' => e = .returned (.int .i64 (kindOf (krow ks) : Nat)) ∧ X = w') := fun X hb => by
    have := sp_kind (hQ.below hb) hi
    rw [hl] at this
    rw [← hkr]
    exact this
  have hNx : Hid (∀ X f, Below wb.heap.size wb X → (0 : Int) ≤ f → f ≤ 256 → Calls Try.prog 11 #[.pointer (some ⟨p.n, 0, none⟩), .int .i64 f] X fun e w' => e = .returned (stepV (knxt l f)) ∧ Below X.heap.size X w') := fun X f hb h1 h2 => by
    obtain ⟨pv, bo, kp, Sk, hn⟩ := (hQ.below hb).is hi
    have := nd_next hn f (by omega) (by omega)
    rw [hl] at this
    exact this.mono fun e w' ⟨e1, n, e2⟩ => ⟨e1, by rw [e2]; exact below_drewN (Below.refl _ _) n⟩
  have hN0 : Hid (∀ X, Below wb.heap.size wb X → Calls Try.prog 11 #[.pointer (some ⟨p.n, 0, none⟩), .int .i64 0] X fun e w' => e = .returned (.tuple #[.int .u8 (hdB l : Nat), hdK l]) ∧ Below X.heap.size X w') := fun X hb => by
    have := hNx.out X 0 hb (by omega) (by omega)
    rw [hx0, stepV_head] at this
    exact this
  have hPl := Lib.hid (fun X => place_is X (krow ks))
  have hk1 : Hid (1 < kindOf (krow ks) ∧ kindOf (krow ks) < 257) := by show _ ∧ _; unfold kindOf; split <;> (try split) <;> (try split) <;> omega
  obtain ⟨s1, hs1⟩ : ∃ s1, s1 = stNode p.bs false false (krow ks) way deep s := ⟨_, rfl⟩
  have hle := stNode_le (bs := p.bs) (has := false) (leaf := false) (m := krow ks) hM hw
  rw [← hs1] at hle
  obtain ⟨m, hm⟩ : ∃ m, m = krow ks := ⟨_, rfl⟩
  rw [← hm] at hKind hPl hk1 hs1
  obtain ⟨kd, hkd⟩ : ∃ kd, kd = kindOf m := ⟨_, rfl⟩
  rw [← hkd] at hKind hPl hk1
  obtain ⟨a0, a1, a2, a3, a4, a5, a6, a7, a8, a9, a10⟩ := s
  have HM := Lib.hid hM
  obtain ⟨h0, h1, h2, h3, h4, h5, h6, h7, h8, h9⟩ := hM
  have htw : p.bs.length + 2 + way + deep ≤ M + p.bs.length + 2 := by omega
  generalize p.bs = bs at *
  generalize p.val = pv at *
  generalize p.n = pn at *
  obtain ⟨z9, e9⟩ : ∃ z, z = a9 + bs.length := ⟨_, rfl⟩
  obtain ⟨zd, ed⟩ : ∃ z, z = deep + 1 := ⟨_, rfl⟩
  obtain ⟨z7, e7⟩ : ∃ z, z = max a7 (deep + 1) := ⟨_, rfl⟩
  obtain ⟨z0, e0⟩ : ∃ z, z = a0 + 1 := ⟨_, rfl⟩
  obtain ⟨z6, e6⟩ : ∃ z, z = a6 + 1 := ⟨_, rfl⟩
  obtain ⟨zw, ew⟩ : ∃ z, z = way + bs.length := ⟨_, rfl⟩
  obtain ⟨zx, ex⟩ : ∃ z, z = zw + 1 := ⟨_, rfl⟩
  obtain ⟨z8, e8⟩ : ∃ z, z = max a8 (way + bs.length) := ⟨_, rfl⟩
  have hfin : Hid (∀ _ : Unit, StN.bump ⟨a0, a1, a2, a3, a4, a5, a6, z7, a8, z9, a10⟩ m = s1) := fun _ => by
    rw [hs1, e9, e7]; rfl
  have hends : Hid (∀ _ : Unit, stAdd ks (way + bs.length + 1) (deep + 1) s1 = stAdd ks zx zd s1) := fun _ => by rw [ex, ew, ed]
  have hzz : Hid (∀ z, z = zx + zd → z ≤ M + bs.length + 2) := fun z e => by omega
  have hM2 := Lib.hid hM2
  have HM4 : Hid (StN.le ⟨a0, a1, a2, a3, a4, a5, a6, z7, a8, z9, a10⟩ (M + bs.length + 2)) := by
    constructor <;> simp only [] at * <;> omega
  have w9 : IntKind.i64.wrap ((a9 : Int) + (bs.length : Nat)) = (z9 : Int) := by rw [show (a9 : Int) + (bs.length : Nat) = ((z9 : Nat) : Int) by omega]; exact IntWalk.i64_in _ (by have := hM2.out; simp at *; omega)
  have wd : IntKind.i64.wrap ((deep : Int) + 1) = (zd : Int) := by rw [show (deep : Int) + 1 = ((zd : Nat) : Int) by omega]; exact IntWalk.i64_in _ (by have := hM2.out; simp at *; omega)
  have w7 : max (a7 : Int) (zd : Int) = (z7 : Int) := by omega
  have wk : IntKind.i64.wrap ((a0 : Int) + 1) = (z0 : Int) := by rw [show (a0 : Int) + 1 = ((z0 : Nat) : Int) by omega]; exact IntWalk.i64_in _ (by have := hM2.out; simp at *; omega)
  have w6 : IntKind.i64.wrap ((a6 : Int) + 1) = (z6 : Int) := by rw [show (a6 : Int) + 1 = ((z6 : Nat) : Int) by omega]; exact IntWalk.i64_in _ (by have := hM2.out; simp at *; omega)
  have ww : IntKind.i64.wrap ((way : Int) + (bs.length : Nat)) = (zw : Int) := by rw [show (way : Int) + (bs.length : Nat) = ((zw : Nat) : Int) by omega]; exact IntWalk.i64_in _ (by have := hM2.out; simp at *; omega)
  have wx : IntKind.i64.wrap ((zw : Int) + 1) = (zx : Int) := by rw [show (zw : Int) + 1 = ((zx : Nat) : Int) by omega]; exact IntWalk.i64_in _ (by have := hM2.out; simp at *; omega)
  have w8 : max (a8 : Int) (zw : Int) = (z8 : Int) := by omega
  have hkd1 : ((kd : Int) == 1) = false := by rw [beq_eq_false_iff_ne]; have := hk1.out; omega
  have hg := Lib.hid hg
  have hS := Lib.hid hS
  have hB := Lib.hid hB
  have hle := Lib.hid hle
  rw [← hm, ← hs1, hends.out ()]
  clear h0 h1 h2 h3 h4 h5 h6 h7 h8 h9 hw e9 ed e7 e0 ew ex e6 e8 hQ hi hl hh hf8 hfl hs hx0 hT hkr hm hs1 hkd htw HM
  go_enter Try.func63, Try.ntmps63
  go_wp2_with (first
    | (have g0 := S2
       go_at_call 22
       have S3 := S2
       have B3 := B2
       refine (hKind.out _ B3.out).mono ?_; rintro e w3 ⟨rfl, q⟩
       rw [q] at S3 B3
       clear q c0 c1 c6 c7 c8 c9 f0 f1 f6 f7 f8 f9
       obtain ⟨c0, c1, c6, c7, c8, c9, f0, f1, f6, f7, f8, f9⟩ := S3.out.facts)
    | (have g0 := S1
       go_at_call 10
       have S2 := Lib.hid ((S1.out.set (s' := ⟨a0, a1, a2, a3, a4, a5, a6, a7, a8, z9, a10⟩) 9 (.int .i64 z9) rfl).set (s' := ⟨a0, a1, a2, a3, a4, a5, a6, z7, a8, z9, a10⟩) 7 (.int .i64 z7) rfl)
       have B2 := Lib.hid ((B1.out.setCell (p := ⟨g, 9, none⟩) hg.out (.int .i64 z9)).setCell (p := ⟨g, 7, none⟩) hg.out (.int .i64 z7))
       refine (hVal.out _ B2.out).mono ?_; rintro e w2 ⟨rfl, q⟩
       rw [q] at S2 B2
       clear q c0 c1 c6 c7 c8 c9 f0 f1 f6 f7 f8 f9
       obtain ⟨c0, c1, c6, c7, c8, c9, f0, f1, f6, f7, f8, f9⟩ := S2.out.facts)
    | (go_at_call 25; refine (hPart.out _ hB.out).mono ?_; rintro e w1 ⟨pa, rfl, _, z⟩
       have S1 := Lib.hid (hS.out.below z)
       have B1 := Lib.hid (hB.out.trans (z.mono hB.out.size))
       obtain ⟨c0, c1, c6, c7, c8, c9, f0, f1, f6, f7, f8, f9⟩ := S1.out.facts
       clear z))
  have S4 := S3
  have B4 := B3
  clear c0 c1 c6 c7 c8 c9 f0 f1 f6 f7 f8 f9
  obtain ⟨w4, hw4⟩ : ∃ w4, w4 = w3 := ⟨_, rfl⟩
  rw [← hw4] at S4 B4 ⊢
  clear hw4
  obtain ⟨pl, kc, hpl, hpl4, hkc, cK, fK, S5⟩ := kind_facts S4.out HM4.out m
  rw [← hpl] at hPl
  obtain ⟨kz, hkz⟩ : ∃ kz, kz = kc + 1 := ⟨_, rfl⟩
  rw [← hkz] at S5
  have wK : IntKind.i64.wrap ((kc : Int) + 1) = (kz : Int) := by rw [show (kc : Int) + 1 = ((kz : Nat) : Int) by omega]; exact IntWalk.i64_in _ (by have := hM2.out; simp at *; omega)
  have S5 := Lib.hid S5
  have p0 : (0 : Int) ≤ (pl : Int) := by omega
  have p4 : (pl : Int) < 4 := by omega
  have SF := Lib.hid (show StIs T (w4.setCell ⟨g, 2 + pl, none⟩ (.int .i64 (kz : Int))) g s1 by rw [← hfin.out ()]; exact S5.out)
  have BF := Lib.hid (B4.out.setCell (p := ⟨g, 2 + pl, none⟩) hg.out (.int .i64 (kz : Int)))
  clear hpl hkz hkc S1 S2 S3 B1 B2 B3 S4 S5 hfin HM4 g0
  go_cut [10] from 76 (fun s10 w' => s10 = .bool false ∧ Hid (StIs T w' g s1) ∧ Hid (Below wb.heap.size wb w'))
  case first =>
    go_region_with (first
      | (go_at_call 106; refine (hPl.out _).mono ?_; rintro e w6 ⟨rfl, rfl⟩)
      | (go_at_call 22; refine (hKind.out _ (by first | exact B4.out | exact B4.out.drew)).mono ?_; rintro e w5 ⟨rfl, rfl⟩))
    all_goals
      (try simp only [Exit.then, Exit.inBlock])
      go_wp2_with fail
      go_meet
      case rel => exact ⟨rfl, SF.out.drew, BF.out.drew⟩
  case rest =>
    clear cK fK SF BF wK p0 p4 B4 hPl hKind hPart hVal
    obtain ⟨rfl, S5, B5⟩ := hcut
    go_wp2_with (first
      | (go_at_call 11; refine (hN0.out _ B5.out).mono ?_; rintro e w6 ⟨rfl, z⟩
         have S6 := Lib.hid (S5.out.below z)
         have B6 := Lib.hid (B5.out.trans (z.mono B5.out.size))
         clear z))
    go_loopw [11, 12] (fun v11 v12 wr => ∃ (r : Tr) (A lr : KV) (s' : StN) (M' : Nat), v11 = .int .u8 (hdB lr : Nat) ∧ v12 = hdK lr ∧ Hid (stAdd r zx zd s' = stAdd ks zx zd s1) ∧ Hid (s'.le M' ∧ zx + zd ≤ M' ∧ M' + tw r ≤ 2000000000000000000) ∧ Hid (tdep r ≤ N) ∧ Hid (Kids Q l ks r A lr) ∧ Hid (StIs T wr g s') ∧ Hid (Below wb.heap.size wb wr)) (fun v11 v12 _ => match v12 with | .pointer none => 0 | _ => 256 - (intOf v11).toNat)
    case atStart => exact ⟨ks, [], l, s1, M + bs.length + 2, rfl, rfl, rfl, ⟨hle.out, hzz.out _ rfl, hM2.out⟩, hd, hstart, S6, B6⟩
    case round =>
      clear S5 S6 B5 B6 hstart hN0 hle hzz hM2
      obtain ⟨r, A, lr, s', M', rfl, rfl, hE, hM', hdr, hKd, hSr, hBr⟩ := hrel
      by_cases hl : lr = []
      · subst hl
        obtain rfl := hKd.out.done
        rw [show hdK ([] : KV) = .pointer none from rfl]
        go_wp2_with fail
        go_end0
        exact ⟨rfl, by rw [← hE.out]; exact hSr.out, hBr.out⟩
      · obtain ⟨b, t, r', x, lr', rfl, rfl, hb1, hx1, hb256, ⟨k, rfl⟩, hTV, hIN, hOk, hnext, hkn⟩ := hKd.out.next hl
        rw [hb1, hx1]
        have hD : Hid (Calls Try.prog 63 #[.pointer (some ⟨g, 0, none⟩), .pointer (some ⟨k, 0, none⟩), .int .i64 (zx : Nat), .int .i64 (zd : Nat)] wr (cntPost T wb g (stAdd t zx zd s'))) := by
          have h1 := hM'.out
          have h2 := hdr.out
          simp only [tw, tdep] at h1 h2
          exact IH t wr _ s' zx zd M' (by omega) hIN hTV hOk hBr.out hSr.out h1.1 h1.2.1 (by omega)
        have hM2' : Hid ((stAdd t zx zd s').le (M' + tw t) ∧ zx + zd ≤ M' + tw t ∧ M' + tw t + tw r' ≤ 2000000000000000000) := by
          have h1 := hM'.out
          simp only [tw] at h1
          exact ⟨stAdd_le t (way := zx) (deep := zd) h1.1 h1.2.1, by omega, by omega⟩
        have hd2 : Hid (tdep r' ≤ N) := by show _ ≤ _; have h2 := hdr.out; simp only [tdep] at h2; omega
        have hE2 : Hid (stAdd r' zx zd (stAdd t zx zd s') = stAdd ks zx zd s1) := hE.out
        have hN2 : Hid (∀ X, Below wb.heap.size wb X → Calls Try.prog 11 #[.pointer (some ⟨pn, 0, none⟩), .int .i64 ((b + 1 : Nat) : Int)] X fun e w' => e = .returned (.tuple #[.int .u8 (hdB lr' : Nat), hdK lr']) ∧ Below X.heap.size X w') := fun X hb' => by
          have := hNx.out X ((b + 1 : Nat) : Int) hb' (by omega) (by omega)
          rw [show (((b + 1 : Nat) : Int)) = (b : Int) + 1 by omega, hkn, stepV_head] at this
          exact this
        have hK2 := Lib.hid hnext
        have hwb : IntKind.i64.wrap ((b : Int) + 1) = ((b + 1 : Nat) : Int) := by rw [show (b : Int) + 1 = ((b + 1 : Nat) : Int) by omega]; exact IntWalk.i64_in _ (by omega)
        have hwc : IntKind.i64.wrap (b : Int) = (b : Int) := IntWalk.i64_in _ (by omega)
        have hms := Lib.hid (kids_rise hnext hb256)
        clear hTV hIN hOk hnext hkn hKd hl hb1 hx1 IH hNx hE hM' hdr hSr
        generalize stAdd t zx zd s' = s2 at *
        go_wp2_with (first
          | (go_at_call 11; refine (hN2.out _ B7.out).mono ?_; rintro e w8 ⟨rfl, z⟩
             have S8 := Lib.hid (S7.out.below z)
             have B8 := Lib.hid (B7.out.trans (z.mono B7.out.size))
             clear z)
          | (go_at_call 63; refine hD.out.mono ?_; rintro e w7 ⟨rfl, z1, z2⟩
             have S7 := Lib.hid z1
             have B7 := Lib.hid z2
             clear z1 z2))
        go_roundw
        case rel => exact ⟨r', A ++ [(b, .pointer (some ⟨k, 0, none⟩))], lr', s2, M' + tw t, rfl, rfl, hE2, hM2', hd2, hK2, S8, B8⟩
        case measure =>
          cases lr' with
          | nil => simp [hdK, hdB, intOf]; omega
          | cons y l => have := hms.out y (by simp); simp [hdK, hdB, intOf]; split <;> omega
/-- stats.count of any tree -/
theorem stcount_any {T : TypeId} {wb w0 : World} {Q : List NP} {g : Nat} (hQ : StoreP NoB w0 wb Q) (hg : wb.heap.size ≤ g) : ∀ N, CountAsk T wb Q g N
  | N, .nil, _, _, _, _, _, _, _, hn, _, _, _, _, _, _, _ => hn.elim
  | N, .kid .., _, _, _, _, _, _, _, hn, _, _, _, _, _, _, _ => hn.elim
  | 0, .node .., _, _, _, _, _, _, hd, _, _, _, _, _, _, _, _ => by simp only [tdep] at hd; omega
  | N + 1, .node bs val has leaf ks, w, v, s, way, deep, M, hd, hn, hT, hO, hB, hS, hM, hw, hM2 => by
    rcases hT with ⟨h, _⟩ | ⟨_, hT⟩
    · cases h
    · obtain ⟨i, p, h0, h1, h2, h3, h4, h5, h6, h7⟩ := hT
      obtain rfl : v = some ⟨p.n, 0, none⟩ := by simpa using h2
      simp only [tdep] at hd
      obtain ⟨_, _, _, _, o5, o6, o7⟩ := hO
      subst h3
      simp only [tw] at hM2
      cases hk : p.kk with
      | none =>
        have hl : leaf = true := by rw [← h6, hk]; rfl
        obtain ⟨e1, e2⟩ := o5 hl
        subst e2
        subst e1
        subst hl
        simp only [stAdd, krow]
        exact st_leaf hQ hB hg hS h1 hk h5 way deep M hM hw (by omega)
      | some l =>
        have hl : leaf = false := by rw [← h6, hk]; rfl
        subst hl
        rw [hk] at h7
        simp only [stAdd]
        cases has with
        | true => exact st_has (stcount_any hQ hg N) hQ hB hg hS h1 hk h5 h7 o6 o7 (by omega) way deep M hM hw (by omega)
        | false => exact st_no (stcount_any hQ hg N) hQ hB hg hS h1 hk h5 h7 o6 o7 (by omega) way deep M hM hw (by omega)
end Go.Proofs.Ytgijnjdcpipfiaa
/- stats.Of, Inner, Nodes. -/
namespace Go.Proofs.Ytgijnjdcpipfiaa
open Go.RowKit
/-- the sum of the kinds -/
def StN.inner (s : StN) : Nat := s.k0 + s.k1 + s.k2 + s.k3
def stV (s : StN) : Value := .agg s.cells.toArray
def stZ (n : Nat) : StN := ⟨0, 0, 0, 0, 0, 0, 0, 0, 0, 0, n⟩
theorem StIs.all {T : TypeId} {w : World} {g : Nat} {a0 a1 a2 a3 a4 a5 a6 a7 a8 a9 a10 : Nat} (h : StIs T w g ⟨a0, a1, a2, a3, a4, a5, a6, a7, a8, a9, a10⟩) : w.cell? ⟨g, 0, none⟩ = some (.int .i64 (a0 : Nat)) ∧ w.cell? ⟨g, 1, none⟩ = some (.int .i64 (a1 : Nat)) ∧ w.cell? ⟨g, 2, none⟩ = some (.int .i64 (a2 : Nat)) ∧ w.cell? ⟨g, 3, none⟩ = some (.int .i64 (a3 : Nat)) ∧ w.cell? ⟨g, 4, none⟩ = some (.int .i64 (a4 : Nat)) ∧ w.cell? ⟨g, 5, none⟩ = some (.int .i64 (a5 : Nat)) ∧ w.cell? ⟨g, 6, none⟩ = some (.int .i64 (a6 : Nat)) ∧ w.cell? ⟨g, 7, none⟩ = some (.int .i64 (a7 : Nat)) ∧ w.cell? ⟨g, 8, none⟩ = some (.int .i64 (a8 : Nat)) ∧ w.cell? ⟨g, 9, none⟩ = some (.int .i64 (a9 : Nat)) ∧ w.cell? ⟨g, 10, none⟩ = some (.int .i64 (a10 : Nat)) :=
  ⟨by rw [cell_of_blk h.blk]; rfl, by rw [cell_of_blk h.blk]; rfl, by rw [cell_of_blk h.blk]; rfl, by rw [cell_of_blk h.blk]; rfl, by rw [cell_of_blk h.blk]; rfl, by rw [cell_of_blk h.blk]; rfl, by rw [cell_of_blk h.blk]; rfl, by rw [cell_of_blk h.blk]; rfl, by rw [cell_of_blk h.blk]; rfl, by rw [cell_of_blk h.blk]; rfl, by rw [cell_of_blk h.blk]; rfl⟩
theorem StIs.allF {T : TypeId} {w : World} {g : Nat} {s : StN} (h : StIs T w g s) : w.frozen? ⟨g, 0, none⟩ = false ∧ w.frozen? ⟨g, 1, none⟩ = false ∧ w.frozen? ⟨g, 2, none⟩ = false ∧ w.frozen? ⟨g, 3, none⟩ = false ∧ w.frozen? ⟨g, 4, none⟩ = false ∧ w.frozen? ⟨g, 5, none⟩ = false ∧ w.frozen? ⟨g, 6, none⟩ = false ∧ w.frozen? ⟨g, 7, none⟩ = false ∧ w.frozen? ⟨g, 8, none⟩ = false ∧ w.frozen? ⟨g, 9, none⟩ = false ∧ w.frozen? ⟨g, 10, none⟩ = false := ⟨h.fz 0, h.fz 1, h.fz 2, h.fz 3, h.fz 4, h.fz 5, h.fz 6, h.fz 7, h.fz 8, h.fz 9, h.fz 10⟩
abbrev stT : TypeId := 58
theorem st_new (w : World) (n : Nat) : StIs stT (w.alloc (.cells #[.int .i64 0, .int .i64 0, .int .i64 0, .int .i64 0, .int .i64 0, .int .i64 0, .int .i64 0, .int .i64 0, .int .i64 0, .int .i64 0, .int .i64 (n : Nat)] stT)) w.heap.size (stZ n) := ⟨heap_alloc_new w _⟩
set_option maxHeartbeats 4000000 in
set_option maxRecDepth 100000 in
theorem st_of (w : World) (v : Addr) (n : Nat) (s : StN) (hSz : ∀ X, Below w.heap.size w X → Calls Try.prog 62 #[.pointer (some v)] X (belowPost (.int .i64 (n : Nat)) X))
    (hC : ∀ X, Below w.heap.size w X → Calls Try.prog 63 #[.pointer (some ⟨X.heap.size, 0, none⟩), .pointer (some v), .int .i64 (0 : Nat), .int .i64 (0 : Nat)] (X.alloc (.cells #[.int .i64 0, .int .i64 0, .int .i64 0, .int .i64 0, .int .i64 0, .int .i64 0, .int .i64 0, .int .i64 0, .int .i64 0, .int .i64 0, .int .i64 (n : Nat)] stT)) (cntPost stT X X.heap.size s)) : Calls Try.prog 31 #[.pointer (some v)] w (belowPost (stV s) w) := by
  have HSz := Lib.hid hSz
  have HC := Lib.hid hC
  have hA := Lib.hid (below_al w (.cells #[.int .i64 0, .int .i64 0, .int .i64 0, .int .i64 0, .int .i64 0, .int .i64 0, .int .i64 0, .int .i64 0, .int .i64 0, .int .i64 0, .int .i64 0] stT))
  have hN := Lib.hid (st_new w 0)
  clear hSz hC
  obtain ⟨a0, a1, a2, a3, a4, a5, a6, a7, a8, a9, a10⟩ := s
  go_enter Try.func31, Try.ntmps31
  go_wp2_with (first
    | (have g0 := B5
       go_at_call 63; refine (HC.out _ B5.out).mono ?_; rintro e w6 ⟨rfl, z1, z2⟩
       have S6 := Lib.hid z1
       have hne : w5.heap.size ≠ w.heap.size := by have := S5.out.lt; omega
       have N6 := Lib.hid (S5.out.below z2)
       have B6 := Lib.hid (B5.out.trans (z2.mono B5.out.size))
       obtain ⟨c0, c1, c2, c3, c4, c5, c6, c7, c8, c9, c10⟩ := z1.all
       obtain ⟨f0, f1, f2, f3, f4, f5, f6, f7, f8, f9, f10⟩ := N6.out.allF
       obtain ⟨d0, d1, d2, d3, d4, d5, d6, d7, d8, d9, d10⟩ := (show StIs stT w6 w.heap.size ⟨0, 0, 0, 0, 0, 0, 0, 0, 0, 0, 0⟩ from N6.out).all
       clear z1 z2)
    | (go_at_call 62; refine (HSz.out _ hA.out).mono ?_; rintro e w5 ⟨rfl, z⟩
       have B5 := Lib.hid (hA.out.trans (z.mono hA.out.size))
       have S5 := Lib.hid (hN.out.below z)
       clear z))
  have NF := ((((((((((((show StIs stT w6 w.heap.size ⟨0, 0, 0, 0, 0, 0, 0, 0, 0, 0, 0⟩ from N6.out).set (s' := ⟨a0, 0, 0, 0, 0, 0, 0, 0, 0, 0, 0⟩) 0 (.int .i64 (a0 : Nat)) rfl).set (s' := ⟨a0, a1, 0, 0, 0, 0, 0, 0, 0, 0, 0⟩) 1 (.int .i64 (a1 : Nat)) rfl).set (s' := ⟨a0, a1, a2, 0, 0, 0, 0, 0, 0, 0, 0⟩) 2 (.int .i64 (a2 : Nat)) rfl).set (s' := ⟨a0, a1, a2, a3, 0, 0, 0, 0, 0, 0, 0⟩) 3 (.int .i64 (a3 : Nat)) rfl).set (s' := ⟨a0, a1, a2, a3, a4, 0, 0, 0, 0, 0, 0⟩) 4 (.int .i64 (a4 : Nat)) rfl).set (s' := ⟨a0, a1, a2, a3, a4, a5, 0, 0, 0, 0, 0⟩) 5 (.int .i64 (a5 : Nat)) rfl).set (s' := ⟨a0, a1, a2, a3, a4, a5, a6, 0, 0, 0, 0⟩) 6 (.int .i64 (a6 : Nat)) rfl).set (s' := ⟨a0, a1, a2, a3, a4, a5, a6, a7, 0, 0, 0⟩) 7 (.int .i64 (a7 : Nat)) rfl).set (s' := ⟨a0, a1, a2, a3, a4, a5, a6, a7, a8, 0, 0⟩) 8 (.int .i64 (a8 : Nat)) rfl).set (s' := ⟨a0, a1, a2, a3, a4, a5, a6, a7, a8, a9, 0⟩) 9 (.int .i64 (a9 : Nat)) rfl).set (s' := ⟨a0, a1, a2, a3, a4, a5, a6, a7, a8, a9, a10⟩) 10 (.int .i64 (a10 : Nat)) rfl)
  have BF := (((((((((((B6.out.setCell (p := ⟨w.heap.size, 0, none⟩) (Nat.le_refl _) (.int .i64 (a0 : Nat))).setCell (p := ⟨w.heap.size, 1, none⟩) (Nat.le_refl _) (.int .i64 (a1 : Nat))).setCell (p := ⟨w.heap.size, 2, none⟩) (Nat.le_refl _) (.int .i64 (a2 : Nat))).setCell (p := ⟨w.heap.size, 3, none⟩) (Nat.le_refl _) (.int .i64 (a3 : Nat))).setCell (p := ⟨w.heap.size, 4, none⟩) (Nat.le_refl _) (.int .i64 (a4 : Nat))).setCell (p := ⟨w.heap.size, 5, none⟩) (Nat.le_refl _) (.int .i64 (a5 : Nat))).setCell (p := ⟨w.heap.size, 6, none⟩) (Nat.le_refl _) (.int .i64 (a6 : Nat))).setCell (p := ⟨w.heap.size, 7, none⟩) (Nat.le_refl _) (.int .i64 (a7 : Nat))).setCell (p := ⟨w.heap.size, 8, none⟩) (Nat.le_refl _) (.int .i64 (a8 : Nat))).setCell (p := ⟨w.heap.size, 9, none⟩) (Nat.le_refl _) (.int .i64 (a9 : Nat))).setCell (p := ⟨w.heap.size, 10, none⟩) (Nat.le_refl _) (.int .i64 (a10 : Nat)))
  have hinf : (Try.prog.info? stT).map (·.size) = some 11 := by kernel_rfl
  exact bodyPost_ret (v := stV ⟨a0, a1, a2, a3, a4, a5, a6, a7, a8, a9, a10⟩) (results_cell_row Try.results31 _ _ w.heap.size stT _ (0, 0) _ rfl NF.blk Try.underlying58 rfl hinf) rfl ⟨rfl, BF⟩
end Go.Proofs.Ytgijnjdcpipfiaa
/- stats.Inner, stats.Nodes. -/
namespace Go.Proofs.Ytgijnjdcpipfiaa
open Go.RowKit
theorem eq4_0 (n x1 x2 x3 : Nat) (w : World) : (Op.equalIn 10000 56 (.agg #[.int .i64 ((n + 1 : Nat) : Int), .int .i64 (x1 : Int), .int .i64 (x2 : Int), .int .i64 (x3 : Int)]) (.agg #[.int .i64 0, .int .i64 0, .int .i64 0, .int .i64 0])).run Try.prog w = .ok false w := by kernel_rfl
theorem eq4_1 (n x2 x3 : Nat) (w : World) : (Op.equalIn 10000 56 (.agg #[.int .i64 ((0 : Nat) : Int), .int .i64 ((n + 1 : Nat) : Int), .int .i64 (x2 : Int), .int .i64 (x3 : Int)]) (.agg #[.int .i64 0, .int .i64 0, .int .i64 0, .int .i64 0])).run Try.prog w = .ok false w := by kernel_rfl
theorem eq4_2 (n x3 : Nat) (w : World) : (Op.equalIn 10000 56 (.agg #[.int .i64 ((0 : Nat) : Int), .int .i64 ((0 : Nat) : Int), .int .i64 ((n + 1 : Nat) : Int), .int .i64 (x3 : Int)]) (.agg #[.int .i64 0, .int .i64 0, .int .i64 0, .int .i64 0])).run Try.prog w = .ok false w := by kernel_rfl
theorem eq4_3 (n : Nat) (w : World) : (Op.equalIn 10000 56 (.agg #[.int .i64 ((0 : Nat) : Int), .int .i64 ((0 : Nat) : Int), .int .i64 ((0 : Nat) : Int), .int .i64 ((n + 1 : Nat) : Int)]) (.agg #[.int .i64 0, .int .i64 0, .int .i64 0, .int .i64 0])).run Try.prog w = .ok false w := by kernel_rfl
theorem eq4_4 (w : World) : (Op.equalIn 10000 56 (.agg #[.int .i64 0, .int .i64 0, .int .i64 0, .int .i64 0]) (.agg #[.int .i64 0, .int .i64 0, .int .i64 0, .int .i64 0])).run Try.prog w = .ok true w := by kernel_rfl
theorem eq4_no (x0 x1 x2 x3 : Nat) (h : 0 < x0 + x1 + x2 + x3) (w : World) : (Op.equalIn 10000 56 (.agg #[.int .i64 (x0 : Int), .int .i64 (x1 : Int), .int .i64 (x2 : Int), .int .i64 (x3 : Int)]) (.agg #[.int .i64 0, .int .i64 0, .int .i64 0, .int .i64 0])).run Try.prog w = .ok false w := by
  cases x0 with
  | succ n => exact eq4_0 n x1 x2 x3 w
  | zero => cases x1 with
    | succ n => exact eq4_1 n x2 x3 w
    | zero => cases x2 with
      | succ n => exact eq4_2 n x3 w
      | zero => cases x3 with
        | succ n => exact eq4_3 n w
        | zero => omega
set_option maxHeartbeats 4000000 in
set_option maxRecDepth 100000 in
theorem st_innerC (w : World) (a0 a1 a2 a3 a4 a5 a6 a7 a8 a9 a10 : Nat) (h2 : a2 ≤ 1000000000000000000) (h3 : a3 ≤ 1000000000000000000) (h4 : a4 ≤ 1000000000000000000) (h5 : a5 ≤ 1000000000000000000) :
    Calls Try.prog 34 #[.agg #[.int .i64 (a0 : Nat), .int .i64 (a1 : Nat), .int .i64 (a2 : Nat), .int .i64 (a3 : Nat), .int .i64 (a4 : Nat), .int .i64 (a5 : Nat), .int .i64 (a6 : Nat), .int .i64 (a7 : Nat), .int .i64 (a8 : Nat), .int .i64 (a9 : Nat), .int .i64 (a10 : Nat)]] w (belowPost (.int .i64 ((a2 + a3 + a4 + a5 : Nat) : Int)) w) := by
  have hA := Lib.hid (below_al w (.cells #[.int .i64 (a0 : Nat), .int .i64 (a1 : Nat), .int .i64 (a2 : Nat), .int .i64 (a3 : Nat), .int .i64 (a4 : Nat), .int .i64 (a5 : Nat), .int .i64 (a6 : Nat), .int .i64 (a7 : Nat), .int .i64 (a8 : Nat), .int .i64 (a9 : Nat), .int .i64 (a10 : Nat)] stT))
  have i0 : ∀ w, (Instr.index 56 (.agg #[.int .i64 (a2 : Nat), .int .i64 (a3 : Nat), .int .i64 (a4 : Nat), .int .i64 (a5 : Nat)]) (.int .i64 0)).run Try.prog w = .ok (.int .i64 (a2 : Nat)) w := fun _ => by kernel_rfl
  have i1 : ∀ w, (Instr.index 56 (.agg #[.int .i64 (a2 : Nat), .int .i64 (a3 : Nat), .int .i64 (a4 : Nat), .int .i64 (a5 : Nat)]) (.int .i64 1)).run Try.prog w = .ok (.int .i64 (a3 : Nat)) w := fun _ => by kernel_rfl
  have i2 : ∀ w, (Instr.index 56 (.agg #[.int .i64 (a2 : Nat), .int .i64 (a3 : Nat), .int .i64 (a4 : Nat), .int .i64 (a5 : Nat)]) (.int .i64 2)).run Try.prog w = .ok (.int .i64 (a4 : Nat)) w := fun _ => by kernel_rfl
  have i3 : ∀ w, (Instr.index 56 (.agg #[.int .i64 (a2 : Nat), .int .i64 (a3 : Nat), .int .i64 (a4 : Nat), .int .i64 (a5 : Nat)]) (.int .i64 3)).run Try.prog w = .ok (.int .i64 (a5 : Nat)) w := fun _ => by kernel_rfl
  have b0 : Hid (Below w.heap.size w w) := Below.refl _ _
  by_cases hz : 0 < a2 + a3 + a4 + a5
  · have eN := eq4_no a2 a3 a4 a5 hz
    clear hz
    go_enter Try.func34, Try.ntmps34
    go_wp2_with fail
    go_loopw [3, 13] (fun v3 v13 wr => ∃ (i : Int) (d : Nat), v3 = .int .i64 (d : Nat) ∧ v13 = .int .i64 i ∧ ((i = 0 ∧ d = 0) ∨ (i = 1 ∧ d = a2) ∨ (i = 2 ∧ d = a2 + a3) ∨ (i = 3 ∧ d = a2 + a3 + a4) ∨ (i = 4 ∧ d = a2 + a3 + a4 + a5)) ∧ Hid (Below w.heap.size w wr)) (fun _ v13 _ => (4 - intOf v13).toNat)
    case atStart => exact ⟨0, 0, rfl, rfl, by simp, hA.out⟩
    case round =>
      obtain ⟨i, d, rfl, rfl, hi, hB⟩ := hrel
      rcases hi with ⟨rfl, hd⟩ | ⟨rfl, hd⟩ | ⟨rfl, hd⟩ | ⟨rfl, hd⟩ | ⟨rfl, hd⟩ <;> rw [hd] <;> clear hd
      · have hd0 : ((0 : Nat) : Int) = 0 := rfl
        have e : IntKind.i64.wrap ((a2 : Nat) : Int) = ((a2 : Nat) : Int) := IntWalk.i64_in _ (by omega)
        go_wp2_with fail
        go_roundw
        case rel => exact ⟨1, a2, (by first | rfl | simp [e]), (by first | rfl | go_num), by simp, hB⟩
        case measure => (simp [intOf]) <;> omega
      · have e : IntKind.i64.wrap (((a2 : Nat) : Int) + (a3 : Nat)) = ((a2 + a3 : Nat) : Int) := by rw [show ((a2 : Nat) : Int) + (a3 : Nat) = ((a2 + a3 : Nat) : Int) by omega]; exact IntWalk.i64_in _ (by omega)
        go_wp2_with fail
        go_roundw
        case rel => exact ⟨2, a2 + a3, (by first | rfl | simp [e]), (by first | rfl | go_num), by simp, hB⟩
        case measure => (simp [intOf]) <;> omega
      · have e : IntKind.i64.wrap (((a2 : Nat) : Int) + (a3 : Nat) + (a4 : Nat)) = ((a2 + a3 + a4 : Nat) : Int) := by rw [show ((a2 : Nat) : Int) + (a3 : Nat) + (a4 : Nat) = ((a2 + a3 + a4 : Nat) : Int) by omega]; exact IntWalk.i64_in _ (by omega)
        go_wp2_with fail
        go_roundw
        case rel => exact ⟨3, a2 + a3 + a4, (by first | rfl | simp [e]), (by first | rfl | go_num), by simp, hB⟩
        case measure => (simp [intOf]) <;> omega
      · have e : IntKind.i64.wrap (((a2 : Nat) : Int) + (a3 : Nat) + (a4 : Nat) + (a5 : Nat)) = ((a2 + a3 + a4 + a5 : Nat) : Int) := by rw [show ((a2 : Nat) : Int) + (a3 : Nat) + (a4 : Nat) + (a5 : Nat) = ((a2 + a3 + a4 + a5 : Nat) : Int) by omega]; exact IntWalk.i64_in _ (by omega)
        go_wp2_with fail
        go_roundw
        case rel => exact ⟨4, a2 + a3 + a4 + a5, (by first | rfl | simp [e]), (by first | rfl | go_num), by simp, hB⟩
        case measure => (simp [intOf]) <;> omega
      · go_wp2_with fail
        go_ret
        exact ⟨by first | rfl | simp, hB.out⟩
  · obtain ⟨rfl, rfl, rfl, rfl⟩ : a2 = 0 ∧ a3 = 0 ∧ a4 = 0 ∧ a5 = 0 := by omega
    have eY := eq4_4
    clear hz
    go_enter Try.func34, Try.ntmps34
    go_wp2_with fail
    go_ret
    exact ⟨by first | rfl | simp, hA.out⟩
end Go.Proofs.Ytgijnjdcpipfiaa
/- stats.Nodes. -/
namespace Go.Proofs.Ytgijnjdcpipfiaa
open Go.RowKit
set_option maxHeartbeats 4000000 in
set_option maxRecDepth 100000 in
theorem st_nodesC (w : World) (a0 a1 a2 a3 a4 a5 a6 a7 a8 a9 a10 : Nat) (h1 : a1 ≤ 1000000000000000000) (h2 : a2 ≤ 1000000000000000000) (h3 : a3 ≤ 1000000000000000000) (h4 : a4 ≤ 1000000000000000000) (h5 : a5 ≤ 1000000000000000000) :
    Calls Try.prog 35 #[.agg #[.int .i64 (a0 : Nat), .int .i64 (a1 : Nat), .int .i64 (a2 : Nat), .int .i64 (a3 : Nat), .int .i64 (a4 : Nat), .int .i64 (a5 : Nat), .int .i64 (a6 : Nat), .int .i64 (a7 : Nat), .int .i64 (a8 : Nat), .int .i64 (a9 : Nat), .int .i64 (a10 : Nat)]] w (belowPost (.int .i64 ((a2 + a3 + a4 + a5 + a1 : Nat) : Int)) w) := by
  have hA := Lib.hid (below_al w (.cells #[.int .i64 (a0 : Nat), .int .i64 (a1 : Nat), .int .i64 (a2 : Nat), .int .i64 (a3 : Nat), .int .i64 (a4 : Nat), .int .i64 (a5 : Nat), .int .i64 (a6 : Nat), .int .i64 (a7 : Nat), .int .i64 (a8 : Nat), .int .i64 (a9 : Nat), .int .i64 (a10 : Nat)] stT))
  have hI := Lib.hid (fun X => st_innerC X a0 a1 a2 a3 a4 a5 a6 a7 a8 a9 a10 h2 h3 h4 h5)
  have hJ : Hid (∀ X, Below (w.alloc (.cells #[.int .i64 (a0 : Nat), .int .i64 (a1 : Nat), .int .i64 (a2 : Nat), .int .i64 (a3 : Nat), .int .i64 (a4 : Nat), .int .i64 (a5 : Nat), .int .i64 (a6 : Nat), .int .i64 (a7 : Nat), .int .i64 (a8 : Nat), .int .i64 (a9 : Nat), .int .i64 (a10 : Nat)] stT)).heap.size (w.alloc (.cells #[.int .i64 (a0 : Nat), .int .i64 (a1 : Nat), .int .i64 (a2 : Nat), .int .i64 (a3 : Nat), .int .i64 (a4 : Nat), .int .i64 (a5 : Nat), .int .i64 (a6 : Nat), .int .i64 (a7 : Nat), .int .i64 (a8 : Nat), .int .i64 (a9 : Nat), .int .i64 (a10 : Nat)] stT)) X → Calls Try.prog 34 #[.agg #[.int .i64 (a0 : Nat), .int .i64 (a1 : Nat), .int .i64 (a2 : Nat), .int .i64 (a3 : Nat), .int .i64 (a4 : Nat), .int .i64 (a5 : Nat), .int .i64 (a6 : Nat), .int .i64 (a7 : Nat), .int .i64 (a8 : Nat), .int .i64 (a9 : Nat), .int .i64 (a10 : Nat)]] X fun e w' => e = .returned (.int .i64 ((a2 + a3 + a4 + a5 : Nat) : Int)) ∧ Below (w.alloc (.cells #[.int .i64 (a0 : Nat), .int .i64 (a1 : Nat), .int .i64 (a2 : Nat), .int .i64 (a3 : Nat), .int .i64 (a4 : Nat), .int .i64 (a5 : Nat), .int .i64 (a6 : Nat), .int .i64 (a7 : Nat), .int .i64 (a8 : Nat), .int .i64 (a9 : Nat), .int .i64 (a10 : Nat)] stT)).heap.size (w.alloc (.cells #[.int .i64 (a0 : Nat), .int .i64 (a1 : Nat), .int .i64 (a2 : Nat), .int .i64 (a3 : Nat), .int .i64 (a4 : Nat), .int .i64 (a5 : Nat), .int .i64 (a6 : Nat), .int .i64 (a7 : Nat), .int .i64 (a8 : Nat), .int .i64 (a9 : Nat), .int .i64 (a10 : Nat)] stT)) w') := fun X hb => (hI.out X).mono fun e w' ⟨q1, q2⟩ => ⟨q1, hb.trans (q2.mono hb.size)⟩
  have hB0 : StIs stT (w.alloc (.cells #[.int .i64 (a0 : Nat), .int .i64 (a1 : Nat), .int .i64 (a2 : Nat), .int .i64 (a3 : Nat), .int .i64 (a4 : Nat), .int .i64 (a5 : Nat), .int .i64 (a6 : Nat), .int .i64 (a7 : Nat), .int .i64 (a8 : Nat), .int .i64 (a9 : Nat), .int .i64 (a10 : Nat)] stT)) w.heap.size ⟨a0, a1, a2, a3, a4, a5, a6, a7, a8, a9, a10⟩ := ⟨heap_alloc_new w _⟩
  have HB0 := Lib.hid hB0
  obtain ⟨q0, q1, q2⟩ := hB0.facts
  obtain ⟨z, hz⟩ : ∃ z, z = a2 + a3 + a4 + a5 := ⟨_, rfl⟩
  have wz : IntKind.i64.wrap ((z : Int) + (a1 : Nat)) = ((a2 + a3 + a4 + a5 + a1 : Nat) : Int) := by rw [show (z : Int) + (a1 : Nat) = ((a2 + a3 + a4 + a5 + a1 : Nat) : Int) by omega]; exact IntWalk.i64_in _ (by omega)
  rw [← hz] at wz hJ ⊢
  obtain ⟨y, hy⟩ : ∃ y, y = z + a1 := ⟨_, rfl⟩
  rw [← hy] at wz ⊢
  clear hB0 q0 q1 q2 hz hy hI h1 h2 h3 h4 h5
  have hl0 : Hid (w.heap.size < (w.alloc (.cells #[.int .i64 (a0 : Nat), .int .i64 (a1 : Nat), .int .i64 (a2 : Nat), .int .i64 (a3 : Nat), .int .i64 (a4 : Nat), .int .i64 (a5 : Nat), .int .i64 (a6 : Nat), .int .i64 (a7 : Nat), .int .i64 (a8 : Nat), .int .i64 (a9 : Nat), .int .i64 (a10 : Nat)] stT)).heap.size) := HB0.out.lt
  go_enter Try.func35, Try.ntmps35
  go_wp2_with fail
  go_region_with (first
    | (go_at_call 34; refine (hJ.out _ (by first | exact Below.refl _ _ | exact (Below.refl _ _).drew)).mono ?_; rintro e w5 ⟨rfl, z⟩
       have S5 := Lib.hid (HB0.out.below z)
       obtain ⟨q0, q1, q2⟩ := S5.out.facts
       have B5 := Lib.hid (hA.out.trans (z.mono hA.out.size))
       clear z))
  all_goals
    (try simp only [Exit.then, Exit.inBlock])
    go_wp2_with fail
    go_ret
    exact ⟨rfl, by first | exact B5.out | exact B5.out.drew⟩
end Go.Proofs.Ytgijnjdcpipfiaa
/- stats.shared of a tree and itself, of nobody. -/
namespace Go.Proofs.Ytgijnjdcpipfiaa
open Go.RowKit
theorem eqIn_ptr {P : Program} (w : World) {tp te : TypeId} {j : TypeInfo} (a : Addr) (hp : P.underlying tp = some (.pointer te)) (hte : P.info? te = some j) (d : Nat) : (Op.equalIn (d + 1) tp (.pointer (some a)) (.pointer (some a))).run P w = .ok true w := by
  simp [Op.equalIn, run_underlying hp, sizeOf, typeInfo, hte, run_sameAddr_same]
set_option maxHeartbeats 4000000 in
set_option maxRecDepth 100000 in
theorem shared_same (w : World) (v : Addr) (s : StN) (N : Nat) (hOf : ∀ X, Below w.heap.size w X → Calls Try.prog 31 #[.pointer (some v)] X (belowPost (stV s) X)) (hNo : ∀ X, Calls Try.prog 35 #[stV s] X (belowPost (.int .i64 (N : Nat)) X)) :
    Calls Try.prog 69 #[.agg #[.pointer (some v), .int .i64 0], .agg #[.pointer (some v), .int .i64 0]] w (belowPost (.int .i64 (N : Nat)) w) := by
  have HOf := Lib.hid hOf
  have HNo := Lib.hid hNo
  have hA := Lib.hid ((below_al w (.cells #[.pointer (some v), .int .i64 0] 106)).alloc (below_al w (.cells #[.pointer (some v), .int .i64 0] 106)).size (.cells #[.pointer (some v), .int .i64 0] 106))
  have hEq : ∀ X, (Op.equalIn 9999 28 (.pointer (some v)) (.pointer (some v))).run Try.prog X = .ok true X := fun X => by
    obtain ⟨j, hj⟩ := ptr_info
    exact eqIn_ptr X v ptr_under hj 9998
  clear hOf hNo
  go_enter Try.func69, Try.ntmps69
  go_wp2_with (first
    | (go_at_call 35; refine (HNo.out _).mono ?_; rintro e w6 ⟨rfl, z⟩
       have B6 := Lib.hid (B5.out.trans (z.mono B5.out.size))
       clear z)
    | (go_at_call 31; refine (HOf.out _ hA.out).mono ?_; rintro e w5 ⟨rfl, z⟩
       have B5 := Lib.hid (hA.out.trans (z.mono hA.out.size))
       clear z))
  go_ret
  exact ⟨rfl, B6.out⟩
theorem shared_nil1 (w : World) (v : Option Addr) : Calls Try.prog 69 #[.agg #[.pointer none, .int .i64 0], .agg #[.pointer v, .int .i64 0]] w (belowPost (.int .i64 (0 : Nat)) w) := by
  have hA := Lib.hid ((below_al w (.cells #[.pointer none, .int .i64 0] 106)).alloc (below_al w (.cells #[.pointer none, .int .i64 0] 106)).size (.cells #[.pointer v, .int .i64 0] 106))
  go_enter Try.func69, Try.ntmps69
  go_wp2_with fail
  go_ret
  exact ⟨rfl, hA.out⟩
theorem shared_nil2 (w : World) (v : Addr) : Calls Try.prog 69 #[.agg #[.pointer (some v), .int .i64 0], .agg #[.pointer none, .int .i64 0]] w (belowPost (.int .i64 (0 : Nat)) w) := by
  have hA := Lib.hid ((below_al w (.cells #[.pointer (some v), .int .i64 0] 106)).alloc (below_al w (.cells #[.pointer (some v), .int .i64 0] 106)).size (.cells #[.pointer none, .int .i64 0] 106))
  go_enter Try.func69, Try.ntmps69
  go_wp2_with fail
  go_ret
  exact ⟨rfl, hA.out⟩
/-- stats.Shared is stats.shared of two whole ends -/
theorem shared_top (w : World) (a b : Option Addr) (N : Nat) (h : Calls Try.prog 69 #[.agg #[.pointer a, .int .i64 0], .agg #[.pointer b, .int .i64 0]] w (belowPost (.int .i64 (N : Nat)) w)) :
    Calls Try.prog 36 #[.pointer a, .pointer b] w (belowPost (.int .i64 (N : Nat)) w) := by
  have H := Lib.hid h
  clear h
  go_enter Try.func36, Try.ntmps36
  go_wp2_with (first
    | (go_at_call 69; refine H.out.mono ?_; rintro e w5 ⟨rfl, z⟩
       have B5 := Lib.hid z
       clear z))
  go_ret
  exact ⟨rfl, B5.out⟩
end Go.Proofs.Ytgijnjdcpipfiaa
/- stats.Of of any tree. -/
namespace Go.Proofs.Ytgijnjdcpipfiaa
open Go.RowKit
set_option maxHeartbeats 4000000 in
set_option maxRecDepth 100000 in
theorem st_of_nil (w : World) (n : Nat) (hSz : ∀ X, Below w.heap.size w X → Calls Try.prog 62 #[.pointer none] X (belowPost (.int .i64 (n : Nat)) X)) : Calls Try.prog 31 #[.pointer none] w (belowPost (stV (stZ n)) w) := by
  have HSz := Lib.hid hSz
  have hA := Lib.hid (below_al w (.cells #[.int .i64 0, .int .i64 0, .int .i64 0, .int .i64 0, .int .i64 0, .int .i64 0, .int .i64 0, .int .i64 0, .int .i64 0, .int .i64 0, .int .i64 0] stT))
  have hN := Lib.hid (st_new w 0)
  clear hSz
  go_enter Try.func31, Try.ntmps31
  go_wp2_with (first
    | (go_at_call 62; refine (HSz.out _ hA.out).mono ?_; rintro e w5 ⟨rfl, z⟩
       have B5 := Lib.hid (hA.out.trans (z.mono hA.out.size))
       have S5 := Lib.hid (hN.out.below z)
       have N6 := Lib.hid (S5.out.below (below_al w5 (.cells #[.int .i64 0, .int .i64 0, .int .i64 0, .int .i64 0, .int .i64 0, .int .i64 0, .int .i64 0, .int .i64 0, .int .i64 0, .int .i64 0, .int .i64 (n : Nat)] stT)))
       have B6 := Lib.hid (B5.out.trans ((below_al w5 (.cells #[.int .i64 0, .int .i64 0, .int .i64 0, .int .i64 0, .int .i64 0, .int .i64 0, .int .i64 0, .int .i64 0, .int .i64 0, .int .i64 0, .int .i64 (n : Nat)] stT)).mono B5.out.size))
       obtain ⟨c0, c1, c2, c3, c4, c5, c6, c7, c8, c9, c10⟩ := (show StIs stT (w5.alloc (.cells #[.int .i64 0, .int .i64 0, .int .i64 0, .int .i64 0, .int .i64 0, .int .i64 0, .int .i64 0, .int .i64 0, .int .i64 0, .int .i64 0, .int .i64 (n : Nat)] stT)) w5.heap.size ⟨0, 0, 0, 0, 0, 0, 0, 0, 0, 0, n⟩ from st_new w5 n).all
       obtain ⟨f0, f1, f2, f3, f4, f5, f6, f7, f8, f9, f10⟩ := N6.out.allF
       obtain ⟨d0, d1, d2, d3, d4, d5, d6, d7, d8, d9, d10⟩ := (show StIs stT (w5.alloc (.cells #[.int .i64 0, .int .i64 0, .int .i64 0, .int .i64 0, .int .i64 0, .int .i64 0, .int .i64 0, .int .i64 0, .int .i64 0, .int .i64 0, .int .i64 (n : Nat)] stT)) w.heap.size ⟨0, 0, 0, 0, 0, 0, 0, 0, 0, 0, 0⟩ from N6.out).all
       clear z))
  have NF := ((((((((((((show StIs stT (w5.alloc (.cells #[.int .i64 0, .int .i64 0, .int .i64 0, .int .i64 0, .int .i64 0, .int .i64 0, .int .i64 0, .int .i64 0, .int .i64 0, .int .i64 0, .int .i64 (n : Nat)] stT)) w.heap.size ⟨0, 0, 0, 0, 0, 0, 0, 0, 0, 0, 0⟩ from N6.out).set (s' := ⟨0, 0, 0, 0, 0, 0, 0, 0, 0, 0, 0⟩) 0 (.int .i64 0) rfl).set (s' := ⟨0, 0, 0, 0, 0, 0, 0, 0, 0, 0, 0⟩) 1 (.int .i64 0) rfl).set (s' := ⟨0, 0, 0, 0, 0, 0, 0, 0, 0, 0, 0⟩) 2 (.int .i64 0) rfl).set (s' := ⟨0, 0, 0, 0, 0, 0, 0, 0, 0, 0, 0⟩) 3 (.int .i64 0) rfl).set (s' := ⟨0, 0, 0, 0, 0, 0, 0, 0, 0, 0, 0⟩) 4 (.int .i64 0) rfl).set (s' := ⟨0, 0, 0, 0, 0, 0, 0, 0, 0, 0, 0⟩) 5 (.int .i64 0) rfl).set (s' := ⟨0, 0, 0, 0, 0, 0, 0, 0, 0, 0, 0⟩) 6 (.int .i64 0) rfl).set (s' := ⟨0, 0, 0, 0, 0, 0, 0, 0, 0, 0, 0⟩) 7 (.int .i64 0) rfl).set (s' := ⟨0, 0, 0, 0, 0, 0, 0, 0, 0, 0, 0⟩) 8 (.int .i64 0) rfl).set (s' := ⟨0, 0, 0, 0, 0, 0, 0, 0, 0, 0, 0⟩) 9 (.int .i64 0) rfl).set (s' := ⟨0, 0, 0, 0, 0, 0, 0, 0, 0, 0, n⟩) 10 (.int .i64 (n : Nat)) rfl)
  have BF := (((((((((((B6.out.setCell (p := ⟨w.heap.size, 0, none⟩) (Nat.le_refl _) (.int .i64 0)).setCell (p := ⟨w.heap.size, 1, none⟩) (Nat.le_refl _) (.int .i64 0)).setCell (p := ⟨w.heap.size, 2, none⟩) (Nat.le_refl _) (.int .i64 0)).setCell (p := ⟨w.heap.size, 3, none⟩) (Nat.le_refl _) (.int .i64 0)).setCell (p := ⟨w.heap.size, 4, none⟩) (Nat.le_refl _) (.int .i64 0)).setCell (p := ⟨w.heap.size, 5, none⟩) (Nat.le_refl _) (.int .i64 0)).setCell (p := ⟨w.heap.size, 6, none⟩) (Nat.le_refl _) (.int .i64 0)).setCell (p := ⟨w.heap.size, 7, none⟩) (Nat.le_refl _) (.int .i64 0)).setCell (p := ⟨w.heap.size, 8, none⟩) (Nat.le_refl _) (.int .i64 0)).setCell (p := ⟨w.heap.size, 9, none⟩) (Nat.le_refl _) (.int .i64 0)).setCell (p := ⟨w.heap.size, 10, none⟩) (Nat.le_refl _) (.int .i64 (n : Nat)))
  have hinf : (Try.prog.info? stT).map (·.size) = some 11 := by kernel_rfl
  first
  | exact bodyPost_ret (v := stV (stZ n)) (results_cell_row Try.results31 _ _ w.heap.size stT _ (0, 0) _ rfl NF.blk Try.underlying58 rfl hinf) rfl ⟨rfl, BF⟩
  | done
/-- stats.Of of any tree -/
theorem of_tree {w0 w : World} {Q : List NP} {t : Tr} {v : Option Addr} (hQ : StoreP NoB w0 w Q) (hT : TreeV Q t (.pointer v)) (hO : TOk t) (hw : tw t ≤ 1000000000000000000) (n : Nat) (hSz : ∀ X, Below w.heap.size w X → Calls Try.prog 62 #[.pointer v] X (belowPost (.int .i64 (n : Nat)) X)) :
    Calls Try.prog 31 #[.pointer v] w (belowPost (stV (stAdd t 0 0 (stZ n))) w) := by
  rcases treeV_nz hT with h | h
  · subst h
    obtain rfl : v = none := by
      rcases hT with ⟨_, h⟩ | ⟨h, _⟩
      · simpa using h
      · exact h.elim
    exact st_of_nil w n hSz
  · cases v with
    | none =>
      exfalso
      rcases hT with ⟨e, _⟩ | ⟨_, hT⟩
      · rw [e] at h; exact h
      · cases t with
        | nil => exact h
        | kid => exact h
        | node =>
          obtain ⟨i, p, h0, h1, h2, _⟩ := hT
          simp at h2
    | some v =>
      refine st_of w v n _ hSz fun X hb => ?_
      exact stcount_any (hQ.below hb) (Nat.le_refl _) (tdep t) t _ (some v) (stZ n) 0 0 0 (Nat.le_refl _) h hT hO (below_al X _) (st_new X n) ⟨Nat.le_refl _, Nat.le_refl _, Nat.le_refl _, Nat.le_refl _, Nat.le_refl _, Nat.le_refl _, Nat.le_refl _, Nat.le_refl _, Nat.le_refl _, Nat.le_refl _⟩ (Nat.le_refl _) (by omega)
end Go.Proofs.Ytgijnjdcpipfiaa
/- What count adds, number for number. No program. -/
namespace Go.Proofs.Ytgijnjdcpipfiaa
/-- leaves; nodes of a kind; slots; bytes of parts -/
def nlv : Tr → Nat
  | .nil => 0
  | .kid _ t r => nlv t + nlv r
  | .node _ _ _ leaf ks => (if leaf then 1 else 0) + nlv ks
def kcl (m : Nat) : Nat := if m ≤ 4 then 0 else if m ≤ 16 then 1 else if m ≤ 48 then 2 else 3
def nkd (c : Nat) : Tr → Nat
  | .nil => 0
  | .kid _ t r => nkd c t + nkd c r
  | .node _ _ _ leaf ks => (if leaf = false ∧ kcl (krow ks) = c then 1 else 0) + nkd c ks
def nsl : Tr → Nat
  | .nil => 0
  | .kid _ t r => nsl t + nsl r
  | .node _ _ has leaf ks => (if has = true ∧ leaf = false then 1 else 0) + nsl ks
def npt : Tr → Nat
  | .nil => 0
  | .kid _ t r => npt t + npt r
  | .node bs _ _ _ ks => bs.length + npt ks
structure SumOf (t : Tr) (s s' : StN) : Prop where
  leaves : s'.leaves = s.leaves + nlv t
  k0 : s'.k0 = s.k0 + nkd 0 t
  k1 : s'.k1 = s.k1 + nkd 1 t
  k2 : s'.k2 = s.k2 + nkd 2 t
  k3 : s'.k3 = s.k3 + nkd 3 t
  slots : s'.slots = s.slots + nsl t
  parts : s'.parts = s.parts + npt t
  size : s'.size = s.size
theorem stNode_sum (bs : List Nat) (has leaf : Bool) (m way deep : Nat) (s : StN) :
    (stNode bs has leaf m way deep s).leaves = s.leaves + (if leaf then 1 else 0) ∧ (stNode bs has leaf m way deep s).k0 = s.k0 + (if leaf = false ∧ kcl m = 0 then 1 else 0) ∧ (stNode bs has leaf m way deep s).k1 = s.k1 + (if leaf = false ∧ kcl m = 1 then 1 else 0) ∧ (stNode bs has leaf m way deep s).k2 = s.k2 + (if leaf = false ∧ kcl m = 2 then 1 else 0) ∧ (stNode bs has leaf m way deep s).k3 = s.k3 + (if leaf = false ∧ kcl m = 3 then 1 else 0) ∧
    (stNode bs has leaf m way deep s).slots = s.slots + (if has = true ∧ leaf = false then 1 else 0) ∧ (stNode bs has leaf m way deep s).parts = s.parts + bs.length ∧ (stNode bs has leaf m way deep s).size = s.size ∧ (stNode bs has leaf m way deep s).dep = max s.dep (deep + 1) ∧ (stNode bs has leaf m way deep s).keys = s.keys + (if has then 1 else 0) := by
  by_cases m4 : m ≤ 4
  · cases has <;> cases leaf <;> simp [stNode, StN.bump, kcl, m4]
  · by_cases m16 : m ≤ 16
    · cases has <;> cases leaf <;> simp [stNode, StN.bump, kcl, m4, m16]
    · by_cases m48 : m ≤ 48
      · cases has <;> cases leaf <;> simp [stNode, StN.bump, kcl, m4, m16, m48]
      · cases has <;> cases leaf <;> simp [stNode, StN.bump, kcl, m4, m16, m48]
theorem sum_node (bs : List Nat) (v : Int) (has leaf : Bool) (ks : Tr) (way deep : Nat) (s s' : StN) (h : SumOf ks (stNode bs has leaf (krow ks) way deep s) s') : SumOf (.node bs v has leaf ks) s s' := by
  obtain ⟨h1, h2, h3, h4, h5, h6, h7, h8⟩ := h
  obtain ⟨q1, q2, q3, q4, q5, q6, q7, q8, _, _⟩ := stNode_sum bs has leaf (krow ks) way deep s
  exact ⟨by simp only [nlv]; omega, by simp only [nkd]; omega, by simp only [nkd]; omega, by simp only [nkd]; omega, by simp only [nkd]; omega, by simp only [nsl]; omega, by simp only [npt]; omega, by omega⟩
theorem stAdd_sum : ∀ (t : Tr) (way deep : Nat) (s : StN), SumOf t s (stAdd t way deep s)
  | .nil, _, _, s => ⟨rfl, rfl, rfl, rfl, rfl, rfl, rfl, rfl⟩
  | .kid b t r, way, deep, s => by
    obtain ⟨a1, a2, a3, a4, a5, a6, a7, a8⟩ := stAdd_sum t way deep s
    obtain ⟨b1, b2, b3, b4, b5, b6, b7, b8⟩ := stAdd_sum r way deep (stAdd t way deep s)
    constructor <;> simp only [stAdd, nlv, nkd, nsl, npt] <;> omega
  | .node bs v has leaf ks, way, deep, s => sum_node bs v has leaf ks way deep s _ (stAdd_sum ks _ _ _)
/-- how many pairs, and how deep -/
theorem stAdd_keys : ∀ (t : Tr) (way deep : Nat) (s : StN), TOk t → (stAdd t way deep s).keys = s.keys + (tl t).length
  | .nil, _, _, s, _ => rfl
  | .kid b t r, way, deep, s, ⟨h1, h2, h3, h4, h5, h6⟩ => by
    simp only [stAdd, tl, List.length_append]
    rw [stAdd_keys r _ _ _ h5, stAdd_keys t _ _ _ h3]
    simp [pre]; omega
  | .node bs v has leaf ks, way, deep, s, ⟨_, _, _, _, h5, _, h7⟩ => by
    simp only [stAdd, tl, List.length_append]
    rw [stAdd_keys ks _ _ _ h7, (stNode_sum bs has leaf (krow ks) way deep s).2.2.2.2.2.2.2.2.2]
    cases has <;> simp [pre] <;> omega
theorem stAdd_dep : ∀ (t : Tr) (way deep : Nat) (s : StN), deep ≤ s.dep → (stAdd t way deep s).dep = max s.dep (deep + tdep t)
  | .nil, _, deep, s, h => by simp only [stAdd, tdep]; omega
  | .kid b t r, way, deep, s, h => by
    simp only [stAdd, tdep]
    have h1 := stAdd_dep t way deep s h
    rw [stAdd_dep r _ _ _ (by omega), h1]
    omega
  | .node bs v has leaf ks, way, deep, s, h => by
    simp only [stAdd, tdep]
    have h1 := (stNode_sum bs has leaf (krow ks) way deep s).2.2.2.2.2.2.2.2.1
    rw [stAdd_dep ks _ _ _ (by omega), h1]
    omega
/-- the longest key, so many bytes ahead -/
def lng (W : Nat) (l : PL) : Nat := l.foldr (fun p m => max (W + p.1.length) m) 0
theorem lng_app (W : Nat) (a b : PL) : lng W (a ++ b) = max (lng W a) (lng W b) := by
  induction a with
  | nil => simp [lng]
  | cons p a ih =>
    have h : lng W (p :: a ++ b) = max (W + p.1.length) (lng W (a ++ b)) := rfl
    have h' : lng W (p :: a) = max (W + p.1.length) (lng W a) := rfl
    rw [h, h', ih]; omega
theorem lng_pre (W : Nat) (bs : List Nat) (l : PL) : lng W (pre bs l) = lng (W + bs.length) l := by
  induction l with
  | nil => rfl
  | cons p l ih =>
    have h : lng W (pre bs (p :: l)) = max (W + (bs ++ p.1).length) (lng W (pre bs l)) := rfl
    have h' : lng (W + bs.length) (p :: l) = max (W + bs.length + p.1.length) (lng (W + bs.length) l) := rfl
    rw [h, h', ih, List.length_append]; omega
theorem stNode_long (bs : List Nat) (has leaf : Bool) (m way deep : Nat) (s : StN) : (stNode bs has leaf m way deep s).long = if has then max s.long (way + bs.length) else s.long := by
  by_cases m4 : m ≤ 4
  · cases has <;> cases leaf <;> simp [stNode, StN.bump, m4]
  · by_cases m16 : m ≤ 16
    · cases has <;> cases leaf <;> simp [stNode, StN.bump, m4, m16]
    · by_cases m48 : m ≤ 48
      · cases has <;> cases leaf <;> simp [stNode, StN.bump, m4, m16, m48]
      · cases has <;> cases leaf <;> simp [stNode, StN.bump, m4, m16, m48]
theorem stAdd_long : ∀ (t : Tr), TOk t → (IsN t → ∀ (way deep : Nat) (s : StN), (stAdd t way deep s).long = max s.long (lng way (tl t))) ∧ (IsK t → ∀ (W deep : Nat) (s : StN), (stAdd t (W + 1) deep s).long = max s.long (lng W (tl t)))
  | .nil, _ => ⟨fun h => h.elim, fun _ W deep s => by simp [stAdd, tl, lng]⟩
  | .kid b t r, ⟨h1, h2, h3, h4, h5, h6⟩ => ⟨fun h => h.elim, fun _ W deep s => by
    simp only [stAdd, tl]
    rw [(stAdd_long r h5).2 h4, (stAdd_long t h3).1 h2, lng_app, lng_pre]
    rw [show W + [b].length = W + 1 from rfl]
    omega⟩
  | .node bs v has leaf ks, ⟨_, _, _, _, _, h6, h7⟩ => ⟨fun _ way deep s => by
    simp only [stAdd, tl]
    rw [(stAdd_long ks h7).2 h6, stNode_long, lng_app, lng_pre]
    cases has <;> simp [lng] <;> omega, fun h => h.elim⟩
/-- the numbers of a whole tree -/
theorem stAdd_all {t : Tr} (hO : TOk t) (hz : t = .nil ∨ IsN t) (n : Nat) : ∃ z : StN, stAdd t 0 0 ⟨0, 0, 0, 0, 0, 0, 0, 0, 0, 0, n⟩ = z ∧ z.keys = (tl t).length ∧ z.leaves = nlv t ∧ z.k0 = nkd 0 t ∧ z.k1 = nkd 1 t ∧ z.k2 = nkd 2 t ∧ z.k3 = nkd 3 t ∧ z.slots = nsl t ∧ z.dep = tdep t ∧ z.long = lng 0 (tl t) ∧ z.parts = npt t ∧ z.size = n := by
  refine ⟨_, rfl, ?_⟩
  obtain ⟨h1, h2, h3, h4, h5, h6, h7, h8⟩ := stAdd_sum t 0 0 ⟨0, 0, 0, 0, 0, 0, 0, 0, 0, 0, n⟩
  have h9 := stAdd_keys t 0 0 ⟨0, 0, 0, 0, 0, 0, 0, 0, 0, 0, n⟩ hO
  have h10 := stAdd_dep t 0 0 ⟨0, 0, 0, 0, 0, 0, 0, 0, 0, 0, n⟩ (Nat.le_refl _)
  have h11 : (stAdd t 0 0 ⟨0, 0, 0, 0, 0, 0, 0, 0, 0, 0, n⟩).long = lng 0 (tl t) := by
    rcases hz with rfl | h
    · rfl
    · rw [(stAdd_long t hO).1 h]; simp
  simp only [Nat.zero_add] at *
  exact ⟨h9, h1, h2, h3, h4, h5, h6, by rw [h10]; omega, h11, h7, h8⟩
end Go.Proofs.Ytgijnjdcpipfiaa
/- How many bytes a canonical tree is at most. No program. -/
namespace Go.Proofs.Ytgijnjdcpipfiaa
def wL (l : PL) : Nat := (l.map fun p => p.1.length + 46).sum
theorem wL_append (l m : PL) : wL (l ++ m) = wL l + wL m := by simp [wL]
theorem wL_pre (p : List Nat) (l : PL) : wL (pre p l) = wL l + p.length * l.length := by
  induction l with
  | nil => simp [wL]
  | cons x l ih =>
    have e : wL (pre p (x :: l)) = (p.length + x.1.length + 46) + wL (pre p l) := by simp [wL, pre]
    have e2 : wL (x :: l) = (x.1.length + 46) + wL l := by simp [wL]
    rw [e, e2, ih, List.length_cons, Nat.mul_succ]
    omega
theorem wL_le : ∀ {l : PL} {m : Nat}, (∀ p ∈ l, p.1.length ≤ m) → wL l ≤ l.length * (m + 46)
  | [], m, _ => by simp [wL]
  | x :: l, m, h => by
    have e2 : wL (x :: l) = (x.1.length + 46) + wL l := by simp [wL]
    have h1 := h x (by simp)
    have h2 := wL_le (l := l) (m := m) fun p hp => h p (by simp [hp])
    rw [e2, List.length_cons, Nat.succ_mul]
    omega
theorem layT_le : ∀ (t : Tr), TOk t → Can t → (∀ p ∈ tl t, p.1.length ≤ 65535) → (IsN t → (layT t).length + 23 ≤ wL (tl t)) ∧ (IsK t → (layT t).length + 23 * (chain t).length ≤ wL (tl t))
  | .nil, _, _, _ => ⟨fun h => h.elim, fun _ => by simp [layT, chain, wL, tl]⟩
  | .kid b t r, ⟨h1, h2, h3, h4, h5, h6⟩, ⟨c1, c2⟩, h => ⟨fun h => h.elim, fun _ => by
    have a1 := (layT_le t h3 c1 fun p hp => by
      have := h (b :: p.1, p.2) (List.mem_append.2 (Or.inl (List.mem_map.2 ⟨p, hp, rfl⟩)))
      rw [List.length_cons] at this; omega).1 h2
    have a2 := (layT_le r h5 c2 fun p hp => h p (List.mem_append.2 (Or.inr hp))).2 h4
    have hp : 0 < (tl t).length := List.length_pos_iff.2 (tl_ne t h2 h3 c1)
    have e : (layT (.kid b t r)).length = 1 + (layT t).length + (layT r).length := by simp [layT]; omega
    have e2 : wL (tl (.kid b t r)) = wL (tl t) + (tl t).length + wL (tl r) := by
      simp only [tl]
      rw [wL_append, wL_pre]
      simp
    have e3 : (chain (.kid b t r)).length = (chain r).length + 1 := by simp [chain]
    rw [e, e2, e3]
    omega⟩
  | .node bs v has leaf ks, ⟨h1, h2, h3, h4, h5, h6, h7⟩, ⟨c1, c2⟩, h => ⟨fun _ => by
    have hbs : bs.length ≤ 65535 := by
      obtain ⟨x, hx⟩ := List.exists_mem_of_ne_nil _ (tl_ne (.node bs v has leaf ks) trivial ⟨h1, h2, h3, h4, h5, h6, h7⟩ ⟨c1, c2⟩)
      have := h x hx
      have hp := tl_begins x hx
      have := hp.length_le
      omega
    have a := (layT_le ks h7 c1 fun p hp => by
      have := h (bs ++ p.1, p.2) (List.mem_append.2 (Or.inr (List.mem_map.2 ⟨p, hp, rfl⟩)))
      rw [List.length_append] at this
      omega).2 h6
    have n1 : (numL bs.length).length ≤ 10 := numL_ten (by omega)
    have n2 : (numL v.toNat).length ≤ 10 := numL_ten (by omega)
    have e2 : wL (tl (.node bs v has leaf ks)) = (if has then bs.length + 46 else 0) + (wL (tl ks) + bs.length * (tl ks).length) := by
      simp only [tl]
      rw [wL_append, wL_pre]
      cases has <;> simp [wL]
    cases leaf with
    | true =>
      obtain ⟨e, e'⟩ := h5 rfl
      subst e; subst e'
      have e : (layT (.node bs v true true .nil)).length = 1 + (numL bs.length).length + bs.length + (numL v.toNat).length := by simp [layT]; omega
      rw [e, e2]
      simp only [if_true]
      omega
    | false =>
      have hc := c2 rfl
      have e : (layT (.node bs v has false ks)).length = 1 + (numL bs.length).length + bs.length + (if has then (numL v.toNat).length else 0) + 1 + (layT ks).length := by
        cases has <;> simp [layT] <;> omega
      have hpos : 0 < (tl ks).length := by
        refine List.length_pos_iff.2 ?_
        cases ks with
        | nil => cases has <;> simp [chain] at hc
        | node => exact h6.elim
        | kid b x r =>
          have := tl_ne x h7.2.1 h7.2.2.1 c1.1
          simp only [tl]
          intro e
          obtain ⟨e1, _⟩ := List.append_eq_nil_iff.1 e
          exact this (List.map_eq_nil_iff.1 e1)
      have hm : bs.length ≤ bs.length * (tl ks).length := Nat.le_mul_of_pos_right _ hpos
      rw [e, e2]
      generalize bs.length * (tl ks).length = B at *
      cases has
      · simp only [Bool.false_eq_true, if_false] at *
        omega
      · simp only [if_true] at *
        omega, fun h => h.elim⟩
theorem layT_bound {t : Tr} (hN : t = .nil ∨ IsN t) (hO : TOk t) (hC : Can t) {m n : Nat} (hk : ∀ p ∈ tl t, p.1.length ≤ m) (hm : m ≤ 65535) (hn : (tl t).length ≤ n) : (layT t).length ≤ n * (m + 46) := by
  rcases hN with rfl | hN
  · simp [layT]
  · have h1 := (layT_le t hO hC fun p hp => Nat.le_trans (hk p hp) hm).1 hN
    have h2 := wL_le hk
    have h3 := Nat.mul_le_mul_right (m + 46) hn
    omega
end Go.Proofs.Ytgijnjdcpipfiaa
/- What a tree weighs, by its bytes. No program. -/
namespace Go.Proofs.Ytgijnjdcpipfiaa
theorem tw_lay : ∀ t : Tr, TOk t → tw t ≤ 2 * (layT t).length
  | .nil, _ => Nat.le_refl _
  | .kid b t r, ⟨h1, h2, h3, h4, h5, h6⟩ => by
    have h1 := tw_lay t h3
    have h2 := tw_lay r h5
    simp only [tw, layT, List.length_cons, List.length_append]
    omega
  | .node bs v has leaf ks, ⟨h1, h2, h3, h4, h5, h6, h7⟩ => by
    have q := tw_lay ks h7
    simp only [tw, layT, List.length_cons, List.length_append]
    cases leaf with
    | true =>
      rw [(h5 rfl).2]
      simp only [tw]
      omega
    | false =>
      simp only [Bool.false_eq_true, if_false, List.length_cons]
      omega
theorem tw_bound {t : Tr} (hN : t = .nil ∨ IsN t) (hO : TOk t) (hC : Can t) {m n : Nat} (hk : ∀ p ∈ tl t, p.1.length ≤ m) (hm : m ≤ 65535) (hn : (tl t).length ≤ n) (h : n * (m + 46) ≤ 500000000000000000) : tw t ≤ 1000000000000000000 := by
  have h1 := tw_lay t hO
  have h2 := layT_bound hN hO hC hk hm hn
  omega
end Go.Proofs.Ytgijnjdcpipfiaa
/- canon.List and canon.Count. -/
namespace Go.Proofs.Ytgijnjdcpipfiaa
open Go.RowKit
/-! Count. -/
def SCnt (lo m : Nat) (F : Nat → Prop) (L : PL) (w : World) : Prop := w.heap[m]? = some (.cells [.int .i64 (L.length : Nat)].toArray 3 (0, 0)) ∧ (F = fun j => j = m) ∧ lo ≤ m
theorem scn_cb (lo m : Nat) : CbT (SCnt lo m) lo := by
  refine ⟨fun F L w w' ⟨h1, h2, h3⟩ hk => ⟨(hk m (by rw [h2])).trans h1, h2, h3⟩, fun F L w ⟨h1, h2, h3⟩ j hj => ?_, fun F L w ⟨h1, h2, h3⟩ j hj => ?_⟩
  · subst h2; have hj : j = m := hj; rw [hj]; exact h3
  · subst h2; have hj : j = m := hj; rw [hj]; exact (Array.getElem?_eq_some_iff.1 h1).1
theorem count_cbt (w : World) (m : Nat) : CbTree (SCnt w.heap.size m) w (148) m := fun F L X n bs val has leaf mm kk a nn c key ⟨h1, h2, h3⟩ hN hK hn hv0 hv1 hb hL => by
  have hV := Lib.hid (hN.val X (Below.refl _ _))
  have hc : X.cell? ⟨m, 0, none⟩ = some (.int .i64 (L.length : Nat)) := by rw [cell_of_blk h1]; rfl
  have hf := frozen_of_blk h1 0
  have hw : IntKind.i64.wrap ((L.length : Int) + 1) = (L.length : Int) + 1 := IntWalk.i64_in _ (by omega)
  have hE : Hid (∃ F', SCnt w.heap.size m F' (L ++ [(key, val)]) (X.setCell ⟨m, 0, none⟩ (.int .i64 ((L.length : Int) + 1))) ∧ Mod F X (X.setCell ⟨m, 0, none⟩ (.int .i64 ((L.length : Int) + 1))) ∧ ∀ j, F' j → F j ∨ X.heap.size ≤ j) := by
    refine ⟨F, ⟨?_, h2, h3⟩, (Mod.refl _ X).setCell ⟨m, 0, none⟩ _ (fun _ => by rw [h2]), fun j hj => Or.inl hj⟩
    rw [setCell_list _ _ _ _ _ _ h1, setRow_heap _ _ _ _ _ _ h1]
    simp
  have hE0 : Hid (∃ F', SCnt w.heap.size m F' L X ∧ Mod F X X ∧ ∀ j, F' j → F j ∨ X.heap.size ≤ j) := ⟨F, ⟨h1, h2, h3⟩, Mod.refl _ _, fun j hj => Or.inl hj⟩
  generalize L.length = ll at *
  clear h1 h2 h3 hN hK hb
  cases has
  · go_enter Try.func148, Try.ntmps148
    go_wp2_with (go_at_call 10; refine hV.out.mono ?_; rintro e w' ⟨rfl, rfl⟩)
    go_end0
    exact ⟨rfl, hE0.out⟩
  · go_enter Try.func148, Try.ntmps148
    go_wp2_with (go_at_call 10; refine hV.out.mono ?_; rintro e w' ⟨rfl, rfl⟩)
    go_end0
    exact ⟨rfl, hE.out⟩
set_option maxHeartbeats 1000000 in
theorem count_any {w0 w : World} {Q : List NP} {t : Tr} {p : Option Addr} (hQ : StoreP NoB w0 w Q) (hT : TreeV Q t (.pointer p)) (hO : TOk t) (hway : tway t ≤ 900000) (htot : (tl t).length ≤ 2000) : Calls Try.prog 134 #[.pointer p] w (belowPost (.int .i64 ((tl t).length : Nat)) w) := by
  have hA : Below w.heap.size w (w.alloc (.cells #[.int .i64 0] 3)) := (Below.refl _ w).alloc (Nat.le_refl _) _
  have hE := Lib.hid (eachTop_cn (scn_cb w.heap.size w.heap.size) (count_cbt w w.heap.size) hQ hT hO hA (F := fun j => j = w.heap.size) ⟨heap_alloc_new w _, rfl, Nat.le_refl _⟩ hway htot)
  have HA := Lib.hid hA
  generalize tl t = T at *
  clear hQ hT hO hA
  go_enter Try.func134, Try.ntmps134
  go_wp2_with (go_at_call 147; refine hE.out.mono ?_; rintro e w2 ⟨rfl, F2, ⟨z1, z2, z3⟩, m2, _⟩
               have c2 : w2.cell? ⟨w.heap.size, 0, none⟩ = some (.int .i64 (T.length : Nat)) := (by rw [cell_of_blk z1]; rfl)
               have B2 := Lib.hid (HA.out.trans (m2.belowLo (fun j hj => (by have hj : j = w.heap.size := hj; rw [hj]; exact Nat.le_refl _)) HA.out.size))
               clear z1 z2 z3 m2)
  go_ret
  exact ⟨rfl, B2.out⟩
/-! List. -/
/-- what List's callback holds -/
structure SLs (lo bl : Nat) (F : Nat → Prop) (L : PL) (w : World) (v : Value) (es : EL) (bo : Option Nat) : Prop where
  var : w.heap[bl]? = some (.cells [v].toArray 93 (0, 0))
  own : OwnS 2 apT w v L.length (flat es) bo
  ents : Ents w es L
  fl : F bl
  fo : ∀ g, bo = some g → F g ∧ g ≠ bl
  fe : ∀ i (h : i < es.length) (p : Addr) n c, (es[i]).1 = .slice (some p) n c → F p.block ∧ p.block ≠ bl ∧ bo ≠ some p.block
  low : ∀ j, F j → lo ≤ j
  high : ∀ j, F j → j < w.heap.size
def SLst (lo bl : Nat) (F : Nat → Prop) (L : PL) (w : World) : Prop := ∃ v es bo, SLs lo bl F L w v es bo
theorem sls_cb (lo bl : Nat) : CbT (SLst lo bl) lo := by
  refine ⟨fun F L w w' ⟨v, es, bo, h⟩ hk => ?_, fun F L w ⟨v, es, bo, h⟩ j hj => h.low j hj, fun F L w ⟨v, es, bo, h⟩ j hj => h.high j hj⟩
  refine ⟨v, es, bo, (hk bl h.fl).trans h.var, h.own.keep fun g e => hk g (h.fo g e).1, ⟨h.ents.1, fun i h1 h2 => ?_⟩, h.fl, h.fo, h.fe, h.low, fun j hj => ?_⟩
  · obtain ⟨⟨a, n, c, e, q⟩, r⟩ := h.ents.2 i h1 h2
    refine ⟨⟨a, n, c, e, q.len, ⟨q.at_.1, fun j hj => ?_⟩, q.cap, q.capm, q.nil⟩, r⟩
    obtain ⟨p, ep, z1, z2⟩ := q.at_.2 j hj
    subst ep
    have hF := (h.fe i h1 p n c e).1
    have e1 := hk p.block hF
    refine ⟨p, rfl, ?_, ?_⟩
    · rw [add_block] at z1 ⊢
      have : w'.heap[p.block]? = some _ := e1.trans (Array.getElem?_eq_getElem z1)
      exact (Array.getElem?_eq_some_iff.1 this).1
    · rw [← z2]
      unfold World.cell?
      rw [add_block, e1]
  · have e1 := hk j hj
    have : w'.heap[j]? = some _ := e1.trans (Array.getElem?_eq_getElem (h.high j hj))
    exact (Array.getElem?_eq_some_iff.1 this).1
/-- one more -/
theorem SLs.step {lo bl : Nat} {F : Nat → Prop} {L : PL} {w wc w1 w2 w3 : World} {v v2 : Value} {es : EL} {bo bo2 : Option Nat} (h : SLs lo bl F L w v es bo) (hlo : lo ≤ w.heap.size) {x : List Nat} {y : Int} {a6 : Option Addr} {n6 c6 : Nat}
    (hb1 : Below w.heap.size w wc) (hs : Sl wc a6 n6 c6 x) (hn : ∀ p : Addr, a6 = some p → w.heap.size ≤ p.block ∧ p.block < wc.heap.size) (hy : 0 ≤ y ∧ y < 18446744073709551616) (hb2 : Below wc.heap.size wc w1)
    (ho : OwnS 2 apT w2 v2 (L.length + 1) (flat es ++ [.slice a6 n6 c6, .int .u64 y]) bo2) (hm : Mod (fun j => bo = some j) w1 w2) (hn2 : NewOr w1 bo bo2) (h3 : w3 = w2.setCell ⟨bl, 0, none⟩ v2) :
    ∃ F', SLst lo bl F' (L ++ [(x, y)]) w3 ∧ Mod F w w3 ∧ ∀ j, F' j → F j ∨ w.heap.size ≤ j := by
  have s1 := hb1.size
  have s2 := hb2.size
  have s3 := hm.size
  have hbl := h.high bl h.fl
  have hB : Below w.heap.size w w1 := hb1.trans (hb2.mono s1)
  have hv : w2.heap[bl]? = some (.cells [v].toArray 93 (0, 0)) := (hm.same bl (by omega) (fun e => (h.fo bl e).2 rfl)).trans ((hB.block bl hbl).trans h.var)
  have hM2 : Mod F w w2 := (Mod.of_below hB).trans (hm.mono fun j _ e => (h.fo j e).1)
  have hM3 : Mod F w w3 := by rw [h3]; exact hM2.setCell ⟨bl, 0, none⟩ _ (fun _ => h.fl)
  have s4 : w3.heap.size = w2.heap.size := by rw [h3]; simp [World.setCell]
  have hbo2 : ∀ g, bo2 = some g → (F g ∨ w.heap.size ≤ g) ∧ g ≠ bl ∧ g < w2.heap.size := fun g e => by
    subst e
    refine ⟨?_, ?_, ho.lt⟩
    · rcases hn2 with e | ⟨g', e, hg⟩
      · exact Or.inl (h.fo g e.symm).1
      · cases e; exact Or.inr (by omega)
    · rcases hn2 with e | ⟨g', e, hg⟩
      · exact (h.fo g e.symm).2
      · cases e; omega
  have hneq : ∀ p : Addr, a6 = some p → bo2 ≠ some p.block := fun p e e2 => by
    have h1 := hn p e
    rcases hn2 with e3 | ⟨g', e3, hg⟩
    · rw [e3] at e2
      have := h.high _ (h.fo _ e2).1
      omega
    · rw [e3] at e2
      cases e2
      omega
  have hold : ∀ i (hi : i < es.length) (p : Addr) n c, (es[i]).1 = .slice (some p) n c → bo2 ≠ some p.block := fun i hi p n c e e2 => by
    have h1 := h.fe i hi p n c e
    rcases hn2 with e3 | ⟨g', e3, hg⟩
    · exact h1.2.2 (e3 ▸ e2)
    · rw [e3] at e2
      cases e2
      have := h.high _ h1.1
      omega
  refine ⟨fun j => F j ∨ (w.heap.size ≤ j ∧ j < w3.heap.size), ⟨v2, es ++ [(.slice a6 n6 c6, y)], bo2, ?_, ?_, ?_, Or.inl h.fl, ?_, ?_, ?_, ?_⟩, hM3, fun j hj => by rcases hj with e | e; exact Or.inl e; exact Or.inr e.1⟩
  · rw [h3, setCell_list _ _ _ _ _ _ hv, setRow_heap _ _ _ _ _ _ hv]; rfl
  · rw [flat_append, List.length_append]
    rw [h3]
    refine OwnS.keep ho fun g e => Below.heap_setCell _ _ _ _ (hbo2 g e).2.1
  · have hm3 : Mod (fun j => bo = some j ∨ j = bl) w1 w3 := by rw [h3]; exact (hm.mono (fun j _ e => Or.inl e)).setCell ⟨bl, 0, none⟩ _ (fun _ => Or.inr rfl)
    have hE : Ents w3 es L := ents_keep (h.ents.below hB) hm3 (fun i hi p n c e t => by
      have q := h.fe i hi p n c e
      rcases t with t | t
      · exact q.2.2 t
      · exact q.2.1 t)
    have hs1 := hs.below hb2
    refine hE.snoc ⟨⟨_, _, _, rfl, hs1.len, bytes_keep hs1.at_ hm3 (fun p e t => ?_), hs1.cap, hs1.capm, hs1.nil⟩, rfl, hy⟩
    have q := hn p e
    rcases t with t | t
    · have := h.high _ (h.fo _ t).1; omega
    · omega
  · intro g e
    have q := hbo2 g e
    exact ⟨by rcases q.1 with r | r; exact Or.inl r; exact Or.inr ⟨r, by omega⟩, q.2.1⟩
  · intro i hi p n c e
    by_cases hi2 : i < es.length
    · rw [List.getElem_append_left hi2] at e
      have q := h.fe i hi2 p n c e
      exact ⟨Or.inl q.1, q.2.1, hold i hi2 p n c e⟩
    · have ei : i = es.length := by simp at hi; omega
      subst ei
      have e' : (Value.slice a6 n6 c6) = .slice (some p) n c := by simpa using e
      injection e' with e'
      have q := hn p e'
      exact ⟨Or.inr ⟨q.1, by omega⟩, by omega, hneq p e'⟩
  · intro j hj
    rcases hj with e | e
    · exact h.low j e
    · omega
  · intro j hj
    rcases hj with e | e
    · have := h.high j e; omega
    · exact e.2
end Go.Proofs.Ytgijnjdcpipfiaa
/- Any canonical tree's node laid. -/
namespace Go.Proofs.Ytgijnjdcpipfiaa
open Go.RowKit
/-- bytes that are under way -/
structure LayI (bo0 : Option Nat) (X : World) (zs : List Nat) (v : Value) (M : Nat) (bo : Option Nat) (wr : World) : Prop where
  own : OwnS 1 u8T wr v M (bV zs) bo
  len : M = zs.length
  mod : Mod (fun j => bo0 = some j) X wr
  new : NewOr X bo0 bo
theorem own_m {w : World} {v : Value} {M : Nat} {zs : List Nat} {bo : Option Nat} (h : OwnS 1 u8T w v M (bV zs) bo) : M = zs.length := by
  have e : (bV zs).length = zs.length := by simp [bV]
  rcases h with ⟨_, h0, h1, _⟩ | ⟨g, cap, cur, _, _, _, _, _, _, _, h1⟩
  · rw [h0, ← e, h1]; rfl
  · omega
theorem newOr_lo {X : World} {bo bo' : Option Nat} {lo : Nat} (n : NewOr X bo bo') (hb : ∀ g, bo = some g → lo ≤ g) (hs : lo ≤ X.heap.size) : ∀ g, bo' = some g → lo ≤ g := fun g e => by
  rcases n with e2 | ⟨g', e2, hg⟩
  · rw [e2] at e; exact hb g e
  · rw [e2] at e; cases e; omega
section
variable {bo0 bo bo' : Option Nat} {X wr X2 w5 : World} {zs ys : List Nat} {v v' : Value} {M m : Nat}
theorem LayI.start (h : OwnS 1 u8T X v zs.length (bV zs) bo) : LayI bo X zs v zs.length bo X := ⟨h, rfl, Mod.refl _ _, Or.inl rfl⟩
theorem LayI.app (h : LayI bo0 X zs v M bo wr) (hb : Below wr.heap.size wr X2) (hO : OwnS 1 u8T w5 v' (M + m) (bV zs ++ bV ys) bo') (hM : Mod (fun j => bo = some j) X2 w5) (hN : NewOr X2 bo bo') : LayI bo0 X (zs ++ ys) v' (M + m) bo' w5 := by
  obtain ⟨q1, q2⟩ := mod_step h.mod h.new hb hM hN
  rw [← bV_app] at hO
  exact ⟨hO, own_m hO, q1, q2⟩
theorem LayI.put (h : LayI bo0 X zs v M bo wr) (hb : Below wr.heap.size wr X2) {n : Nat} {e : Ending} (q : numPost bo X2 zs n e w5) : ∃ v' M' bo', e = .returned v' ∧ LayI bo0 X (zs ++ numL n) v' M' bo' w5 := by
  obtain ⟨v', M', bo', rfl, e1, o, hM, hN⟩ := q
  obtain ⟨q1, q2⟩ := mod_step h.mod h.new hb hM hN
  exact ⟨v', M', bo', rfl, o, own_m o, q1, q2⟩
theorem LayI.lay (h : LayI bo0 X zs v M bo wr) (hb : Below wr.heap.size wr X2) {e : Ending} (q : layPost bo X2 (zs ++ ys) e w5) : ∃ v' M' bo', e = .returned v' ∧ LayI bo0 X (zs ++ ys) v' M' bo' w5 := by
  obtain ⟨v', M', bo', rfl, o, hM, hN⟩ := q
  obtain ⟨q1, q2⟩ := mod_step h.mod h.new hb hM hN
  exact ⟨v', M', bo', rfl, o, own_m o, q1, q2⟩
theorem LayI.below (h : LayI bo0 X zs v M bo wr) (hb : Below wr.heap.size wr X2) : LayI bo0 X zs v M bo X2 :=
  ⟨h.own.below hb, h.len, ⟨hb.os.trans h.mod.os, hb.tape.trans h.mod.tape, hb.output.trans h.mod.output, Nat.le_trans h.mod.size hb.size, fun j hj hne => by rw [hb.block j (Nat.lt_of_lt_of_le hj h.mod.size)]; exact h.mod.same j hj hne⟩, h.new⟩
theorem LayI.len' (h : LayI bo0 X zs v M bo wr) : OwnS 1 u8T wr v zs.length (bV zs) bo := by rw [← h.len]; exact h.own
theorem LayI.lo (h : LayI bo0 X zs v M bo wr) {w : World} (hb : Below w.heap.size w X) (hbo : ∀ g, bo0 = some g → w.heap.size ≤ g) : Below w.heap.size w wr ∧ ∀ g, bo = some g → w.heap.size ≤ g :=
  ⟨hb.trans (mod_lo h.mod hbo hb.size), newOr_lo h.new hbo hb.size⟩
theorem LayI.done (h : LayI bo0 X zs v M bo wr) : layPost bo0 X zs (.returned v) wr := ⟨v, M, bo, rfl, h.own, h.mod, h.new⟩
end
def LayAsk (N : Nat) : Prop := ∀ (t : Tr) {w0 w X : World} {Q : List NP} {v : Option Addr}, tdep t ≤ N → StoreP NoB w0 w Q → TreeIn Q 0 t (.pointer v) [] → IsN t → TOk t → Can t → Below w.heap.size w X → ∀ {s : Value} {xs : List Nat} {bo : Option Nat}, OwnS 1 u8T X s xs.length (bV xs) bo → (∀ g, bo = some g → w.heap.size ≤ g) → xs.length + (layT t).length ≤ 800000 → Calls Try.prog 135 #[s, .pointer v] X (layPost bo X (xs ++ layT t))
set_option maxHeartbeats 4000000 in
set_option maxRecDepth 100000 in
theorem lay_leafy (N : Nat) (IH : LayAsk N) {w0 w X : World} {Q : List NP} (hQ : StoreP NoB w0 w Q) {n : Nat} {bs : List Nat} {y m : Nat} {kk : KV} {ks : Tr} (h : NodeW w n bs (y : Nat) true true m kk) (hKs : Kids Q kk ks ks [] kk) (hk0 : knxt kk 0 = kk.head?) (hdp : tdep ks ≤ N) (hcn : Can ks) (hm1 : true = false → 1 ≤ m) (hm2 : m ≤ 256) (hb : Below w.heap.size w X) (hy : y < 18446744073709551616) {v : Value} {xs : List Nat} {bo : Option Nat} (hO : OwnS 1 u8T X v xs.length (bV xs) bo) (hbo : ∀ g, bo = some g → w.heap.size ≤ g) {T : List Nat}
    (hT : T = xs ++ [headN true true m] ++ numL bs.length ++ bs ++ (if true then numL y else []) ++ (if true then [] else (m - 1) :: layT ks)) (htot : T.length ≤ 800000) :
    Calls Try.prog 135 #[v, .pointer (some ⟨n, 0, none⟩)] X (layPost bo X T) := by
  have hPart := Lib.hid (h.part X hb)
  have hH := Lib.hid (fun X hb => head_any (X := X) h hb)
  have hVl := Lib.hid h.val
  have hKd := Lib.hid h.kind
  have hLn := Lib.hid h.len
  have hNx := Lib.hid h.next
  have hI0 := Lib.hid (LayI.start hO)
  have Hb := Lib.hid hb
  have Hbo := Lib.hid hbo
  have HQ := Lib.hid hQ
  have hlt : Hid (∀ g, bo = some g → g < X.heap.size) := fun g e => by rw [e] at hO; exact hO.lt
  have htl : Hid (xs.length + 1 + (numL bs.length).length + bs.length + (if true then numL y else []).length + (if true then [] else (m - 1) :: layT ks).length ≤ 800000) := by
    have := congrArg List.length hT
    simp only [List.length_append, List.length_cons, List.length_nil] at this
    show _ ≤ _
    (try simp only [List.length_append, List.length_cons, List.length_nil])
    omega
  obtain ⟨hd, hhd⟩ : ∃ hd, hd = headN true true m := ⟨_, rfl⟩
  rw [← hhd] at hT hH
  have hone : Hid (∀ b : Nat, ∀ u ∈ (bV [b]), u.oneCell' = true) := fun b => bV_one [b]
  have hxl : Hid (xs.length ≤ 1000000) := by show _ ≤ _; have := htl.out; omega
  have h1m : Hid (1 ≤ 1000000) := by show _ ≤ _; omega
  have hlm : Hid (bs.length ≤ 1000000) := by show _ ≤ _; have := htl.out; omega
  have hbone := Lib.hid (bV_one bs)
  have hbl : Hid ((bV bs).length = bs.length) := by show _ = _; simp [bV]
  have hw : IntKind.u64.wrap ((bs.length : Nat) : Int) = (bs.length : Nat) := wrap_u64 (by have := htl.out; omega)
  have hT2 : Hid (xs ++ [hd] ++ numL bs.length ++ bs ++ numL y = T) := by show _ = _; rw [hT]; simp
  clear h hb hO hbo hT hhd hQ htot hm1
  go_enter Try.func135, Try.ntmps135
  go_wp2_with (first
    | (go_at_call 133; have hg := hNum2; refine hNum2.out.mono ?_; rintro e w5 q
       obtain ⟨v5, M5, bo5, rfl, i5⟩ := I4.out.put (Below.refl _ _) q
       have I5 := Lib.hid i5
       have B5 := Lib.hid (i5.lo Hb.out Hbo.out).1
       obtain ⟨a5, c5, hv5, _⟩ := i5.own.len
       subst hv5
       clear q i5)
    | (at_builtin; have hg := hnews3; go_loud (refine append_b1 rfl (.tmp 20) (.tmp 21) rfl _ rfl M3 _ bo3 I3.out.own ⟨X.heap.size, 0, none⟩ bs.length bs.length (bV bs) rfl hbl.out hnews3.out hbone.out hM3.out hlm.out ?_); intro v4 w4 bo4 HO HM HN
       have i4 := I3.out.app (Below.refl _ w3) HO.out HM.out HN.out
       obtain ⟨a4, c4, hv4, _⟩ := i4.own.len
       subst hv4
       have I4 := Lib.hid i4
       have B4 := Lib.hid (i4.lo Hb.out Hbo.out).1
       have hVal := Lib.hid (hVl.out w4 B4.out)
       have hNum2 := Lib.hid (ser_num i4.len' (by have := htl.out; simp only [List.length_append, List.length_cons, List.length_nil] at *; omega) y hy)
       clear HO HM HN i4)
    | (at_builtin; go_loud (refine append_b1 rfl (.tmp 12) (.tmp 15) rfl v rfl xs.length (bV xs) bo hob1.out ⟨w1.heap.size, 0, none⟩ 1 1 (bV [hd]) rfl rfl hnews1.out (hone.out _) hxl.out h1m.out ?_); intro v2 w2 bo2 HO HM HN
       have i2 := hI0.out.app A1.out HO.out HM.out HN.out
       have I2 := Lib.hid i2
       have S2 := Lib.hid (sl_mod SA.out HM.out (fun p e q => by cases e; exact absurd (hlt.out _ q) (Nat.lt_irrefl _)))
       have hne2 : Hid (bo2 ≠ some X.heap.size) := newOr_lt HN.out hlt.out SA1.out
       have hNum := Lib.hid (ser_num i2.len' (by have := htl.out; simp only [List.length_append, List.length_cons, List.length_nil] at *; omega) bs.length (by have := htl.out; omega))
       obtain ⟨a2, c2, hv2, _⟩ := HO.out.len
       subst hv2
       clear HO HM HN i2)
    | (go_at_call 133; refine hNum.out.mono ?_; rintro e w3 q
       have q2 := q
       obtain ⟨v3, M3, bo3, rfl, i3⟩ := I2.out.put (Below.refl _ _) q
       obtain ⟨_, _, _, e3, _, o3, m3, _⟩ := q2
       have S3 := sl_mod S2.out m3 (fun p e q => by cases e; exact hne2.out q)
       have hnews3 := Lib.hid (sl_news S3 (Below.refl _ w3))
       have I3 := Lib.hid i3
       have hM3 : Hid (M3 ≤ 1000000) := (by show _ ≤ _; have := i3.len; have := htl.out; simp only [List.length_append, List.length_cons, List.length_nil] at *; omega)
       obtain ⟨a3, c3, hv3, _⟩ := i3.own.len
       subst hv3
       clear e3 o3 m3 q S3 i3)
    | (go_at_call 25; refine hPart.out.mono ?_; rintro e w1 ⟨rfl, s1, b1⟩
       have A1 : Hid (Below X.heap.size X (w1.alloc (.cells #[.int .u8 (hd : Nat)] 5))) := b1.trans (((Below.refl _ w1).alloc (Nat.le_refl _) _).mono b1.size)
       have hob1 := Lib.hid (hI0.out.own.below A1.out)
       have hnews1 := Lib.hid (news_alloc w1 [.int .u8 (hd : Nat)] 5)
       have SA := Lib.hid (s1.below ((Below.refl _ w1).alloc (Nat.le_refl _) (.cells #[.int .u8 (hd : Nat)] 5)))
       have SA1 : Hid (X.heap.size < (w1.alloc (.cells #[.int .u8 (hd : Nat)] 5)).heap.size) := by show _ < _; rw [World.size_alloc]; have := b1.size; omega
       have hHead := Lib.hid (hH.out w1 (Hb.out.trans (b1.mono Hb.out.size)))
       clear s1 b1)
    | (go_at_call 149; refine hHead.out.mono ?_; rintro e w' ⟨rfl, rfl⟩)
    | (go_at_call 10; refine hVal.out.mono ?_; rintro e w' ⟨rfl, rfl⟩)
    | (go_at_call 22; refine (hKd.out w5 B5.out).mono ?_; rintro e w' ⟨rfl, rfl⟩))
  go_ret
  have := I5.out.done
  rw [hT2.out] at this
  exact this

set_option maxHeartbeats 4000000 in
set_option maxRecDepth 100000 in
theorem lay_val (N : Nat) (IH : LayAsk N) {w0 w X : World} {Q : List NP} (hQ : StoreP NoB w0 w Q) {n : Nat} {bs : List Nat} {y m : Nat} {kk : KV} {ks : Tr} (h : NodeW w n bs (y : Nat) true false m kk) (hKs : Kids Q kk ks ks [] kk) (hk0 : knxt kk 0 = kk.head?) (hdp : tdep ks ≤ N) (hcn : Can ks) (hm1 : false = false → 1 ≤ m) (hm2 : m ≤ 256) (hb : Below w.heap.size w X) (hy : y < 18446744073709551616) {v : Value} {xs : List Nat} {bo : Option Nat} (hO : OwnS 1 u8T X v xs.length (bV xs) bo) (hbo : ∀ g, bo = some g → w.heap.size ≤ g) {T : List Nat}
    (hT : T = xs ++ [headN true false m] ++ numL bs.length ++ bs ++ (if true then numL y else []) ++ (if false then [] else (m - 1) :: layT ks)) (htot : T.length ≤ 800000) :
    Calls Try.prog 135 #[v, .pointer (some ⟨n, 0, none⟩)] X (layPost bo X T) := by
  have hPart := Lib.hid (h.part X hb)
  have hH := Lib.hid (fun X hb => head_any (X := X) h hb)
  have hVl := Lib.hid h.val
  have hKd := Lib.hid h.kind
  have hLn := Lib.hid h.len
  have hNx := Lib.hid h.next
  have hI0 := Lib.hid (LayI.start hO)
  have Hb := Lib.hid hb
  have Hbo := Lib.hid hbo
  have HQ := Lib.hid hQ
  have hlt : Hid (∀ g, bo = some g → g < X.heap.size) := fun g e => by rw [e] at hO; exact hO.lt
  have htl : Hid (xs.length + 1 + (numL bs.length).length + bs.length + (if true then numL y else []).length + (if false then [] else (m - 1) :: layT ks).length ≤ 800000) := by
    have := congrArg List.length hT
    simp only [List.length_append, List.length_cons, List.length_nil] at this
    show _ ≤ _
    (try simp only [List.length_append, List.length_cons, List.length_nil])
    omega
  obtain ⟨hd, hhd⟩ : ∃ hd, hd = headN true false m := ⟨_, rfl⟩
  rw [← hhd] at hT hH
  have hone : Hid (∀ b : Nat, ∀ u ∈ (bV [b]), u.oneCell' = true) := fun b => bV_one [b]
  have hxl : Hid (xs.length ≤ 1000000) := by show _ ≤ _; have := htl.out; omega
  have h1m : Hid (1 ≤ 1000000) := by show _ ≤ _; omega
  have hlm : Hid (bs.length ≤ 1000000) := by show _ ≤ _; have := htl.out; omega
  have hbone := Lib.hid (bV_one bs)
  have hbl : Hid ((bV bs).length = bs.length) := by show _ = _; simp [bV]
  have hw : IntKind.u64.wrap ((bs.length : Nat) : Int) = (bs.length : Nat) := wrap_u64 (by have := htl.out; omega)
  have hmm := hm1 rfl
  obtain ⟨kd, hkd⟩ : ∃ kd, kd = kindOf m := ⟨_, rfl⟩
  have hkne : ¬ ((kd : Nat) : Int) = 1 := by have := kindOf_cases m; omega
  rw [if_neg (by simp : ¬ (false = true)), ← hkd] at hKd
  obtain ⟨m1, hme⟩ : ∃ m1, m1 = m - 1 := ⟨_, rfl⟩
  have hw1 : IntKind.i64.wrap ((m : Int) - 1) = (m1 : Nat) := by rw [show (m : Int) - 1 = ((m1 : Nat) : Int) by omega]; exact IntWalk.i64_in _ (by omega)
  have hw2 : IntKind.u8.wrap (m1 : Int) = (m1 : Nat) := wrap_u8 (by omega)
  have hn0 : Hid (∀ X, Below w.heap.size w X → Calls Try.prog 11 #[.pointer (some ⟨n, 0, none⟩), .int .i64 0] X fun e w' => e = .returned (.tuple #[.int .u8 (hdB kk : Nat), hdK kk]) ∧ Below X.heap.size X w') := fun X hX => by
    have := h.next X 0 hX (by omega) (by omega)
    rw [hk0, stepV_head] at this
    exact this
  have hT2 : Hid (xs ++ [hd] ++ numL bs.length ++ bs ++ (if true then numL y else []) ++ [m1] ++ layT ks = T) := by show _ = _; rw [hT, hme]; simp
  have hKs0 := Lib.hid hKs
  have hcn0 := Lib.hid hcn
  have HT := Lib.hid htot
  clear hkd hme hKs hcn hk0
  clear h hb hO hbo hT hhd hQ htot hm1
  go_enter Try.func135, Try.ntmps135
  go_wp2_with (first
    | (go_at_call 11; refine (hn0.out _ B6.out).mono ?_; rintro e w7 ⟨rfl, z1⟩; have I7 := Lib.hid (I6.out.below z1); clear z1)
    | (at_builtin; have hg := hLenD
       have hob := Lib.hid (I5.out.own.below ((Below.refl _ w5).alloc (Nat.le_refl _) (.cells #[.int .u8 (m1 : Nat)] 5)))
       have hnews := Lib.hid (news_alloc w5 [.int .u8 (m1 : Nat)] 5)
       have hM : Hid (M5 ≤ 1000000) := (by show _ ≤ _; have := I5.out.len; have := htl.out; simp only [List.length_append, List.length_cons, List.length_nil, if_true, if_false, Bool.false_eq_true] at *; omega)
       go_loud (refine append_b1 rfl (.tmp 36) (.tmp 41) rfl _ rfl M5 _ bo5 hob.out ⟨w5.heap.size, 0, none⟩ 1 1 (bV [m1]) rfl rfl hnews.out (hone.out _) hM.out h1m.out ?_); intro v6 w6 bo6 HO HM HN
       have I6 := Lib.hid (I5.out.app ((Below.refl _ w5).alloc (Nat.le_refl _) _) HO.out HM.out HN.out)
       have B6 := Lib.hid (I6.out.lo Hb.out Hbo.out).1
       clear HO HM HN hob hnews hM)
    | (go_at_call 23; refine (hLn.out w5 B5.out).mono ?_; rintro e w' ⟨rfl, rfl⟩; have hLenD : Hid True := trivial)
    | (go_at_call 133; have hg := hNum2; refine hNum2.out.mono ?_; rintro e w5 q
       obtain ⟨v5, M5, bo5, rfl, i5⟩ := I4.out.put (Below.refl _ _) q
       have I5 := Lib.hid i5
       have B5 := Lib.hid (i5.lo Hb.out Hbo.out).1
       obtain ⟨a5, c5, hv5, _⟩ := i5.own.len
       subst hv5
       clear q i5)
    | (at_builtin; have hg := hnews3; go_loud (refine append_b1 rfl (.tmp 20) (.tmp 21) rfl _ rfl M3 _ bo3 I3.out.own ⟨X.heap.size, 0, none⟩ bs.length bs.length (bV bs) rfl hbl.out hnews3.out hbone.out hM3.out hlm.out ?_); intro v4 w4 bo4 HO HM HN
       have i4 := I3.out.app (Below.refl _ w3) HO.out HM.out HN.out
       obtain ⟨a4, c4, hv4, _⟩ := i4.own.len
       subst hv4
       have I4 := Lib.hid i4
       have B4 := Lib.hid (i4.lo Hb.out Hbo.out).1
       have hVal := Lib.hid (hVl.out w4 B4.out)
       have hNum2 := Lib.hid (ser_num i4.len' (by have := htl.out; simp only [List.length_append, List.length_cons, List.length_nil] at *; omega) y hy)
       clear HO HM HN i4)
    | (at_builtin; go_loud (refine append_b1 rfl (.tmp 12) (.tmp 15) rfl v rfl xs.length (bV xs) bo hob1.out ⟨w1.heap.size, 0, none⟩ 1 1 (bV [hd]) rfl rfl hnews1.out (hone.out _) hxl.out h1m.out ?_); intro v2 w2 bo2 HO HM HN
       have i2 := hI0.out.app A1.out HO.out HM.out HN.out
       have I2 := Lib.hid i2
       have S2 := Lib.hid (sl_mod SA.out HM.out (fun p e q => by cases e; exact absurd (hlt.out _ q) (Nat.lt_irrefl _)))
       have hne2 : Hid (bo2 ≠ some X.heap.size) := newOr_lt HN.out hlt.out SA1.out
       have hNum := Lib.hid (ser_num i2.len' (by have := htl.out; simp only [List.length_append, List.length_cons, List.length_nil] at *; omega) bs.length (by have := htl.out; omega))
       obtain ⟨a2, c2, hv2, _⟩ := HO.out.len
       subst hv2
       clear HO HM HN i2)
    | (go_at_call 133; refine hNum.out.mono ?_; rintro e w3 q
       have q2 := q
       obtain ⟨v3, M3, bo3, rfl, i3⟩ := I2.out.put (Below.refl _ _) q
       obtain ⟨_, _, _, e3, _, o3, m3, _⟩ := q2
       have S3 := sl_mod S2.out m3 (fun p e q => by cases e; exact hne2.out q)
       have hnews3 := Lib.hid (sl_news S3 (Below.refl _ w3))
       have I3 := Lib.hid i3
       have hM3 : Hid (M3 ≤ 1000000) := (by show _ ≤ _; have := i3.len; have := htl.out; simp only [List.length_append, List.length_cons, List.length_nil] at *; omega)
       obtain ⟨a3, c3, hv3, _⟩ := i3.own.len
       subst hv3
       clear e3 o3 m3 q S3 i3)
    | (go_at_call 25; refine hPart.out.mono ?_; rintro e w1 ⟨rfl, s1, b1⟩
       have A1 : Hid (Below X.heap.size X (w1.alloc (.cells #[.int .u8 (hd : Nat)] 5))) := b1.trans (((Below.refl _ w1).alloc (Nat.le_refl _) _).mono b1.size)
       have hob1 := Lib.hid (hI0.out.own.below A1.out)
       have hnews1 := Lib.hid (news_alloc w1 [.int .u8 (hd : Nat)] 5)
       have SA := Lib.hid (s1.below ((Below.refl _ w1).alloc (Nat.le_refl _) (.cells #[.int .u8 (hd : Nat)] 5)))
       have SA1 : Hid (X.heap.size < (w1.alloc (.cells #[.int .u8 (hd : Nat)] 5)).heap.size) := by show _ < _; rw [World.size_alloc]; have := b1.size; omega
       have hHead := Lib.hid (hH.out w1 (Hb.out.trans (b1.mono Hb.out.size)))
       clear s1 b1)
    | (go_at_call 149; refine hHead.out.mono ?_; rintro e w' ⟨rfl, rfl⟩)
    | (go_at_call 10; refine hVal.out.mono ?_; rintro e w' ⟨rfl, rfl⟩)
    | (go_at_call 22; refine (hKd.out w5 B5.out).mono ?_; rintro e w' ⟨rfl, rfl⟩))
  have I7' : Hid (LayI bo X (xs ++ [hd] ++ numL bs.length ++ bs ++ (if true then numL y else []) ++ [m1]) v6 (M5 + 1) bo6 w7) := I7.out
  clear I7 I6 B6 hob1 hnews1 A1 SA SA1 S2 hne2 hnews3 hNum hVal hHead I2 I3 I5 B5
  go_loopw [0, 8, 9] (fun v0 v8 v9 wr => ∃ (zs : List Nat) (M : Nat) (bo' : Option Nat) (r : Tr) (A lr : KV), v8 = .int .u8 (hdB lr : Nat) ∧ v9 = hdK lr ∧ Hid (LayI bo X zs v0 M bo' wr) ∧ Hid (Kids Q kk ks r A lr) ∧ Hid (zs ++ layT r = T) ∧ Hid (Can r) ∧ Hid (tdep r ≤ N)) (fun _ v8 v9 _ => match v9 with | .pointer none => 0 | _ => 256 - (intOf v8).toNat)
  case atStart => exact ⟨_, _, _, ks, [], kk, rfl, rfl, I7', hKs0, hT2, hcn0, hdp⟩
  case round =>
    clear I7' hKs0 hT2 hcn0 hn0
    obtain ⟨zs, M, bo', r, A, lr, rfl, rfl, hI, hKd, hzs, hcr, hdr⟩ := hrel
    by_cases hl : lr = []
    · subst hl
      obtain rfl := hKd.out.done
      rw [show hdK ([] : KV) = .pointer none from rfl]
      go_wp2_with fail
      go_ret
      have := hI.out.done
      rw [← hzs.out, show layT .nil = [] from rfl, List.append_nil]
      exact this
    · obtain ⟨b, t, r', x, lr', rfl, rfl, hb1, hx1, hb256, ⟨k, rfl⟩, hTV, hIN, hOk, hnext, hkn⟩ := hKd.out.next hl
      rw [hb1, hx1]
      have hzs2 : Hid (zs ++ [b] ++ layT t ++ layT r' = T) := by show _ = _; rw [← hzs.out]; simp [layT]
      have hzl : Hid (zs.length + 1 + (layT t).length ≤ 800000) := by
        have := congrArg List.length hzs2.out
        have := HT.out
        simp only [List.length_append, List.length_cons, List.length_nil] at *
        show _ ≤ _
        omega
      have hM : Hid (M ≤ 1000000) := by show _ ≤ _; have := hzl.out; have := hI.out.len; omega
      have hcr' := hcr.out
      have hdr' := hdr.out
      simp only [Can] at hcr'
      simp only [tdep] at hdr'
      have hTI : TreeIn Q 0 t (.pointer (some ⟨k, 0, none⟩)) [] := by
        rcases hTV with ⟨_, e⟩ | ⟨_, e⟩
        · cases e
        · exact e
      have hLayC : Hid (∀ w8 v8 M8 bo8, LayI bo X (zs ++ [b]) v8 M8 bo8 w8 → Calls Try.prog 135 #[v8, .pointer (some ⟨k, 0, none⟩)] w8 (layPost bo8 w8 (zs ++ [b] ++ layT t))) := fun w8 v8 M8 bo8 i8 => by
        have lo := i8.lo Hb.out Hbo.out
        exact IH t (by omega) HQ.out hTI hIN hOk hcr'.1 lo.1 i8.len' lo.2 (by have := hzl.out; simp only [List.length_append, List.length_cons, List.length_nil]; omega)
      have hN2 : Hid (∀ wr', Below w.heap.size w wr' → Calls Try.prog 11 #[.pointer (some ⟨n, 0, none⟩), .int .i64 ((b + 1 : Nat) : Int)] wr' fun e w' => e = .returned (.tuple #[.int .u8 (hdB lr' : Nat), hdK lr']) ∧ Below wr'.heap.size wr' w') := fun wr' hb' => by
        have := hNx.out wr' ((b + 1 : Nat) : Int) hb' (by omega) (by omega)
        rw [show (((b + 1 : Nat) : Int)) = (b : Int) + 1 by omega, hkn, stepV_head] at this
        exact this
      have hK2 := Lib.hid hnext
      have hwb : IntKind.i64.wrap ((b : Int) + 1) = ((b + 1 : Nat) : Int) := by rw [show (b : Int) + 1 = ((b + 1 : Nat) : Int) by omega]; exact IntWalk.i64_in _ (by omega)
      have hwc : IntKind.i64.wrap (b : Int) = (b : Int) := IntWalk.i64_in _ (by omega)
      have hms : Hid (∀ p ∈ lr', b < p.1 ∧ p.1 < 256) := kids_rest hnext
      have hob := Lib.hid (hI.out.own.below ((Below.refl _ wr).alloc (Nat.le_refl _) (.cells #[.int .u8 (b : Nat)] 5)))
      have hnews := Lib.hid (news_alloc wr [.int .u8 (b : Nat)] 5)
      have hcr2 := Lib.hid hcr'.2
      have hdr2 : Hid (tdep r' ≤ N) := by show _ ≤ _; omega
      clear hTV hTI hIN hOk hnext hkn hKd hl hb1 hx1 hcr' hdr' hcr hdr hzs
      go_wp2_with (first
        | (at_builtin; go_loud (refine append_b1 rfl (.tmp 58) (.tmp 60) rfl _ rfl M _ bo' hob.out ⟨wr.heap.size, 0, none⟩ 1 1 (bV [b]) rfl rfl hnews.out (hone.out _) hM.out h1m.out ?_); intro v8 w8 bo8 HO HM HN
           have I8 := Lib.hid (hI.out.app ((Below.refl _ wr).alloc (Nat.le_refl _) _) HO.out HM.out HN.out)
           clear HO HM HN)
        | (go_at_call 135; refine (hLayC.out _ _ _ _ I8.out).mono ?_; rintro e w9 q
           obtain ⟨v9, M9, bo9, rfl, i9⟩ := I8.out.lay (Below.refl _ _) q
           have I9 := Lib.hid i9
           have B9 := Lib.hid (i9.lo Hb.out Hbo.out).1
           clear q i9)
        | (go_at_call 11; refine (hN2.out _ B9.out).mono ?_; rintro e w3 ⟨rfl, z1⟩; have I10 := Lib.hid (I9.out.below z1); clear z1))
      go_roundw
      case rel => exact ⟨_, _, _, r', A ++ [(b, .pointer (some ⟨k, 0, none⟩))], lr', rfl, rfl, I10, hK2, hzs2, hcr2, hdr2⟩
      case measure =>
        cases lr' with
        | nil => simp [hdK, hdB, intOf]; omega
        | cons y l => have := hms.out y (by simp); simp [hdK, hdB, intOf]; split <;> omega

set_option maxHeartbeats 4000000 in
set_option maxRecDepth 100000 in
theorem lay_no (N : Nat) (IH : LayAsk N) {w0 w X : World} {Q : List NP} (hQ : StoreP NoB w0 w Q) {n : Nat} {bs : List Nat} {y m : Nat} {kk : KV} {ks : Tr} (h : NodeW w n bs (y : Nat) false false m kk) (hKs : Kids Q kk ks ks [] kk) (hk0 : knxt kk 0 = kk.head?) (hdp : tdep ks ≤ N) (hcn : Can ks) (hm1 : false = false → 1 ≤ m) (hm2 : m ≤ 256) (hb : Below w.heap.size w X) (hy : y < 18446744073709551616) {v : Value} {xs : List Nat} {bo : Option Nat} (hO : OwnS 1 u8T X v xs.length (bV xs) bo) (hbo : ∀ g, bo = some g → w.heap.size ≤ g) {T : List Nat}
    (hT : T = xs ++ [headN false false m] ++ numL bs.length ++ bs ++ (if false then numL y else []) ++ (if false then [] else (m - 1) :: layT ks)) (htot : T.length ≤ 800000) :
    Calls Try.prog 135 #[v, .pointer (some ⟨n, 0, none⟩)] X (layPost bo X T) := by
  have hPart := Lib.hid (h.part X hb)
  have hH := Lib.hid (fun X hb => head_any (X := X) h hb)
  have hVl := Lib.hid h.val
  have hKd := Lib.hid h.kind
  have hLn := Lib.hid h.len
  have hNx := Lib.hid h.next
  have hI0 := Lib.hid (LayI.start hO)
  have Hb := Lib.hid hb
  have Hbo := Lib.hid hbo
  have HQ := Lib.hid hQ
  have hlt : Hid (∀ g, bo = some g → g < X.heap.size) := fun g e => by rw [e] at hO; exact hO.lt
  have htl : Hid (xs.length + 1 + (numL bs.length).length + bs.length + (if false then numL y else []).length + (if false then [] else (m - 1) :: layT ks).length ≤ 800000) := by
    have := congrArg List.length hT
    simp only [List.length_append, List.length_cons, List.length_nil] at this
    show _ ≤ _
    (try simp only [List.length_append, List.length_cons, List.length_nil])
    omega
  obtain ⟨hd, hhd⟩ : ∃ hd, hd = headN false false m := ⟨_, rfl⟩
  rw [← hhd] at hT hH
  have hone : Hid (∀ b : Nat, ∀ u ∈ (bV [b]), u.oneCell' = true) := fun b => bV_one [b]
  have hxl : Hid (xs.length ≤ 1000000) := by show _ ≤ _; have := htl.out; omega
  have h1m : Hid (1 ≤ 1000000) := by show _ ≤ _; omega
  have hlm : Hid (bs.length ≤ 1000000) := by show _ ≤ _; have := htl.out; omega
  have hbone := Lib.hid (bV_one bs)
  have hbl : Hid ((bV bs).length = bs.length) := by show _ = _; simp [bV]
  have hw : IntKind.u64.wrap ((bs.length : Nat) : Int) = (bs.length : Nat) := wrap_u64 (by have := htl.out; omega)
  have hmm := hm1 rfl
  obtain ⟨kd, hkd⟩ : ∃ kd, kd = kindOf m := ⟨_, rfl⟩
  have hkne : ¬ ((kd : Nat) : Int) = 1 := by have := kindOf_cases m; omega
  rw [if_neg (by simp : ¬ (false = true)), ← hkd] at hKd
  obtain ⟨m1, hme⟩ : ∃ m1, m1 = m - 1 := ⟨_, rfl⟩
  have hw1 : IntKind.i64.wrap ((m : Int) - 1) = (m1 : Nat) := by rw [show (m : Int) - 1 = ((m1 : Nat) : Int) by omega]; exact IntWalk.i64_in _ (by omega)
  have hw2 : IntKind.u8.wrap (m1 : Int) = (m1 : Nat) := wrap_u8 (by omega)
  have hn0 : Hid (∀ X, Below w.heap.size w X → Calls Try.prog 11 #[.pointer (some ⟨n, 0, none⟩), .int .i64 0] X fun e w' => e = .returned (.tuple #[.int .u8 (hdB kk : Nat), hdK kk]) ∧ Below X.heap.size X w') := fun X hX => by
    have := h.next X 0 hX (by omega) (by omega)
    rw [hk0, stepV_head] at this
    exact this
  have hT2 : Hid (xs ++ [hd] ++ numL bs.length ++ bs ++ (if false then numL y else []) ++ [m1] ++ layT ks = T) := by show _ = _; rw [hT, hme]; simp
  have hKs0 := Lib.hid hKs
  have hcn0 := Lib.hid hcn
  have HT := Lib.hid htot
  clear hkd hme hKs hcn hk0
  clear h hb hO hbo hT hhd hQ htot hm1
  go_enter Try.func135, Try.ntmps135
  go_wp2_with (first
    | (go_at_call 11; refine (hn0.out _ B6.out).mono ?_; rintro e w7 ⟨rfl, z1⟩; have I7 := Lib.hid (I6.out.below z1); clear z1)
    | (at_builtin; have hg := hLenD
       have hob := Lib.hid (I5.out.own.below ((Below.refl _ w5).alloc (Nat.le_refl _) (.cells #[.int .u8 (m1 : Nat)] 5)))
       have hnews := Lib.hid (news_alloc w5 [.int .u8 (m1 : Nat)] 5)
       have hM : Hid (M5 ≤ 1000000) := (by show _ ≤ _; have := I5.out.len; have := htl.out; simp only [List.length_append, List.length_cons, List.length_nil, if_true, if_false, Bool.false_eq_true] at *; omega)
       go_loud (refine append_b1 rfl (.tmp 36) (.tmp 41) rfl _ rfl M5 _ bo5 hob.out ⟨w5.heap.size, 0, none⟩ 1 1 (bV [m1]) rfl rfl hnews.out (hone.out _) hM.out h1m.out ?_); intro v6 w6 bo6 HO HM HN
       have I6 := Lib.hid (I5.out.app ((Below.refl _ w5).alloc (Nat.le_refl _) _) HO.out HM.out HN.out)
       have B6 := Lib.hid (I6.out.lo Hb.out Hbo.out).1
       clear HO HM HN hob hnews hM)
    | (go_at_call 23; refine (hLn.out w5 B5.out).mono ?_; rintro e w' ⟨rfl, rfl⟩; have hLenD : Hid True := trivial)
    | (at_builtin; have hg := hnews3; go_loud (refine append_b1 rfl (.tmp 20) (.tmp 21) rfl _ rfl M3 _ bo3 I3.out.own ⟨X.heap.size, 0, none⟩ bs.length bs.length (bV bs) rfl hbl.out hnews3.out hbone.out hM3.out hlm.out ?_); intro v4 w4 bo4 HO HM HN
       have i4 := I3.out.app (Below.refl _ w3) HO.out HM.out HN.out
       obtain ⟨a4, c4, hv4, _⟩ := i4.own.len
       subst hv4
       have w5e : ∃ w5, w5 = w4 := ⟨_, rfl⟩
       obtain ⟨w5, hw5⟩ := w5e
       have M5e : ∃ M5, M5 = M3 + bs.length := ⟨_, rfl⟩
       obtain ⟨M5, hM5⟩ := M5e
       obtain ⟨bo5, hbo5⟩ : ∃ bo5, bo5 = bo4 := ⟨_, rfl⟩
       rw [← hM5, ← hbo5, ← hw5] at i4
       rw [← hM5, ← hw5]
       have i5 : LayI bo X (xs ++ [hd] ++ numL bs.length ++ bs ++ []) (.slice a4 M5 c4) M5 bo5 w5 := (by rw [List.append_nil]; exact i4)
       have I5 := Lib.hid i5
       have B5 := Lib.hid (i5.lo Hb.out Hbo.out).1
       have hVal := Lib.hid (hVl.out w5 B5.out)
       clear hw5 hM5 hbo5 i5
       clear HO HM HN i4)
    | (at_builtin; go_loud (refine append_b1 rfl (.tmp 12) (.tmp 15) rfl v rfl xs.length (bV xs) bo hob1.out ⟨w1.heap.size, 0, none⟩ 1 1 (bV [hd]) rfl rfl hnews1.out (hone.out _) hxl.out h1m.out ?_); intro v2 w2 bo2 HO HM HN
       have i2 := hI0.out.app A1.out HO.out HM.out HN.out
       have I2 := Lib.hid i2
       have S2 := Lib.hid (sl_mod SA.out HM.out (fun p e q => by cases e; exact absurd (hlt.out _ q) (Nat.lt_irrefl _)))
       have hne2 : Hid (bo2 ≠ some X.heap.size) := newOr_lt HN.out hlt.out SA1.out
       have hNum := Lib.hid (ser_num i2.len' (by have := htl.out; simp only [List.length_append, List.length_cons, List.length_nil] at *; omega) bs.length (by have := htl.out; omega))
       obtain ⟨a2, c2, hv2, _⟩ := HO.out.len
       subst hv2
       clear HO HM HN i2)
    | (go_at_call 133; refine hNum.out.mono ?_; rintro e w3 q
       have q2 := q
       obtain ⟨v3, M3, bo3, rfl, i3⟩ := I2.out.put (Below.refl _ _) q
       obtain ⟨_, _, _, e3, _, o3, m3, _⟩ := q2
       have S3 := sl_mod S2.out m3 (fun p e q => by cases e; exact hne2.out q)
       have hnews3 := Lib.hid (sl_news S3 (Below.refl _ w3))
       have I3 := Lib.hid i3
       have hM3 : Hid (M3 ≤ 1000000) := (by show _ ≤ _; have := i3.len; have := htl.out; simp only [List.length_append, List.length_cons, List.length_nil] at *; omega)
       obtain ⟨a3, c3, hv3, _⟩ := i3.own.len
       subst hv3
       clear e3 o3 m3 q S3 i3)
    | (go_at_call 25; refine hPart.out.mono ?_; rintro e w1 ⟨rfl, s1, b1⟩
       have A1 : Hid (Below X.heap.size X (w1.alloc (.cells #[.int .u8 (hd : Nat)] 5))) := b1.trans (((Below.refl _ w1).alloc (Nat.le_refl _) _).mono b1.size)
       have hob1 := Lib.hid (hI0.out.own.below A1.out)
       have hnews1 := Lib.hid (news_alloc w1 [.int .u8 (hd : Nat)] 5)
       have SA := Lib.hid (s1.below ((Below.refl _ w1).alloc (Nat.le_refl _) (.cells #[.int .u8 (hd : Nat)] 5)))
       have SA1 : Hid (X.heap.size < (w1.alloc (.cells #[.int .u8 (hd : Nat)] 5)).heap.size) := by show _ < _; rw [World.size_alloc]; have := b1.size; omega
       have hHead := Lib.hid (hH.out w1 (Hb.out.trans (b1.mono Hb.out.size)))
       clear s1 b1)
    | (go_at_call 149; refine hHead.out.mono ?_; rintro e w' ⟨rfl, rfl⟩)
    | (go_at_call 10; refine hVal.out.mono ?_; rintro e w' ⟨rfl, rfl⟩)
    | (go_at_call 22; refine (hKd.out w5 B5.out).mono ?_; rintro e w' ⟨rfl, rfl⟩))
  have I7' : Hid (LayI bo X (xs ++ [hd] ++ numL bs.length ++ bs ++ (if false then numL y else []) ++ [m1]) v6 (M5 + 1) bo6 w7) := I7.out
  clear I7 I6 B6 hob1 hnews1 A1 SA SA1 S2 hne2 hnews3 hNum hVal hHead I2 I3 I5 B5
  go_loopw [0, 8, 9] (fun v0 v8 v9 wr => ∃ (zs : List Nat) (M : Nat) (bo' : Option Nat) (r : Tr) (A lr : KV), v8 = .int .u8 (hdB lr : Nat) ∧ v9 = hdK lr ∧ Hid (LayI bo X zs v0 M bo' wr) ∧ Hid (Kids Q kk ks r A lr) ∧ Hid (zs ++ layT r = T) ∧ Hid (Can r) ∧ Hid (tdep r ≤ N)) (fun _ v8 v9 _ => match v9 with | .pointer none => 0 | _ => 256 - (intOf v8).toNat)
  case atStart => exact ⟨_, _, _, ks, [], kk, rfl, rfl, I7', hKs0, hT2, hcn0, hdp⟩
  case round =>
    clear I7' hKs0 hT2 hcn0 hn0
    obtain ⟨zs, M, bo', r, A, lr, rfl, rfl, hI, hKd, hzs, hcr, hdr⟩ := hrel
    by_cases hl : lr = []
    · subst hl
      obtain rfl := hKd.out.done
      rw [show hdK ([] : KV) = .pointer none from rfl]
      go_wp2_with fail
      go_ret
      have := hI.out.done
      rw [← hzs.out, show layT .nil = [] from rfl, List.append_nil]
      exact this
    · obtain ⟨b, t, r', x, lr', rfl, rfl, hb1, hx1, hb256, ⟨k, rfl⟩, hTV, hIN, hOk, hnext, hkn⟩ := hKd.out.next hl
      rw [hb1, hx1]
      have hzs2 : Hid (zs ++ [b] ++ layT t ++ layT r' = T) := by show _ = _; rw [← hzs.out]; simp [layT]
      have hzl : Hid (zs.length + 1 + (layT t).length ≤ 800000) := by
        have := congrArg List.length hzs2.out
        have := HT.out
        simp only [List.length_append, List.length_cons, List.length_nil] at *
        show _ ≤ _
        omega
      have hM : Hid (M ≤ 1000000) := by show _ ≤ _; have := hzl.out; have := hI.out.len; omega
      have hcr' := hcr.out
      have hdr' := hdr.out
      simp only [Can] at hcr'
      simp only [tdep] at hdr'
      have hTI : TreeIn Q 0 t (.pointer (some ⟨k, 0, none⟩)) [] := by
        rcases hTV with ⟨_, e⟩ | ⟨_, e⟩
        · cases e
        · exact e
      have hLayC : Hid (∀ w8 v8 M8 bo8, LayI bo X (zs ++ [b]) v8 M8 bo8 w8 → Calls Try.prog 135 #[v8, .pointer (some ⟨k, 0, none⟩)] w8 (layPost bo8 w8 (zs ++ [b] ++ layT t))) := fun w8 v8 M8 bo8 i8 => by
        have lo := i8.lo Hb.out Hbo.out
        exact IH t (by omega) HQ.out hTI hIN hOk hcr'.1 lo.1 i8.len' lo.2 (by have := hzl.out; simp only [List.length_append, List.length_cons, List.length_nil]; omega)
      have hN2 : Hid (∀ wr', Below w.heap.size w wr' → Calls Try.prog 11 #[.pointer (some ⟨n, 0, none⟩), .int .i64 ((b + 1 : Nat) : Int)] wr' fun e w' => e = .returned (.tuple #[.int .u8 (hdB lr' : Nat), hdK lr']) ∧ Below wr'.heap.size wr' w') := fun wr' hb' => by
        have := hNx.out wr' ((b + 1 : Nat) : Int) hb' (by omega) (by omega)
        rw [show (((b + 1 : Nat) : Int)) = (b : Int) + 1 by omega, hkn, stepV_head] at this
        exact this
      have hK2 := Lib.hid hnext
      have hwb : IntKind.i64.wrap ((b : Int) + 1) = ((b + 1 : Nat) : Int) := by rw [show (b : Int) + 1 = ((b + 1 : Nat) : Int) by omega]; exact IntWalk.i64_in _ (by omega)
      have hwc : IntKind.i64.wrap (b : Int) = (b : Int) := IntWalk.i64_in _ (by omega)
      have hms : Hid (∀ p ∈ lr', b < p.1 ∧ p.1 < 256) := kids_rest hnext
      have hob := Lib.hid (hI.out.own.below ((Below.refl _ wr).alloc (Nat.le_refl _) (.cells #[.int .u8 (b : Nat)] 5)))
      have hnews := Lib.hid (news_alloc wr [.int .u8 (b : Nat)] 5)
      have hcr2 := Lib.hid hcr'.2
      have hdr2 : Hid (tdep r' ≤ N) := by show _ ≤ _; omega
      clear hTV hTI hIN hOk hnext hkn hKd hl hb1 hx1 hcr' hdr' hcr hdr hzs
      go_wp2_with (first
        | (at_builtin; go_loud (refine append_b1 rfl (.tmp 58) (.tmp 60) rfl _ rfl M _ bo' hob.out ⟨wr.heap.size, 0, none⟩ 1 1 (bV [b]) rfl rfl hnews.out (hone.out _) hM.out h1m.out ?_); intro v8 w8 bo8 HO HM HN
           have I8 := Lib.hid (hI.out.app ((Below.refl _ wr).alloc (Nat.le_refl _) _) HO.out HM.out HN.out)
           clear HO HM HN)
        | (go_at_call 135; refine (hLayC.out _ _ _ _ I8.out).mono ?_; rintro e w9 q
           obtain ⟨v9, M9, bo9, rfl, i9⟩ := I8.out.lay (Below.refl _ _) q
           have I9 := Lib.hid i9
           have B9 := Lib.hid (i9.lo Hb.out Hbo.out).1
           clear q i9)
        | (go_at_call 11; refine (hN2.out _ B9.out).mono ?_; rintro e w3 ⟨rfl, z1⟩; have I10 := Lib.hid (I9.out.below z1); clear z1))
      go_roundw
      case rel => exact ⟨_, _, _, r', A ++ [(b, .pointer (some ⟨k, 0, none⟩))], lr', rfl, rfl, I10, hK2, hzs2, hcr2, hdr2⟩
      case measure =>
        cases lr' with
        | nil => simp [hdK, hdB, intOf]; omega
        | cons y l => have := hms.out y (by simp); simp [hdK, hdB, intOf]; split <;> omega
end Go.Proofs.Ytgijnjdcpipfiaa
/- Any canonical tree encoded; how many bytes that is. -/
namespace Go.Proofs.Ytgijnjdcpipfiaa
open Go.RowKit
theorem lay_any : ∀ N, LayAsk N
  | 0 => fun t w0 w X Q p hd hQ hT hN hO hC hb s xs bo hs hbo htot => by
    cases t with
    | nil => exact hN.elim
    | kid => exact hN.elim
    | node => simp only [tdep] at hd; omega
  | N + 1 => fun t w0 w X Q p hd hQ hT hN hO hC hb s xs bo hs hbo htot => by
    cases t with
    | nil => exact hN.elim
    | kid => exact hN.elim
    | node bs val has leaf ks =>
      simp only [tdep] at hd
      obtain ⟨n, kk, rfl, h1, h2, h3, _⟩ := nodew_of hQ hT hO
      obtain ⟨o1, o2, o3, o4, o5, o6, o7⟩ := hO
      obtain ⟨y, rfl⟩ : ∃ y : Nat, val = (y : Nat) := ⟨val.toNat, by omega⟩
      have hm2 := chain256 o6 o7
      have hc1 : leaf = false → 1 ≤ (chain ks).length := fun e => by
        have := hC.2 e
        cases has <;> simp at this <;> omega
      have hT : xs ++ layT (.node bs (y : Nat) has leaf ks) = xs ++ [headN has leaf (chain ks).length] ++ numL bs.length ++ bs ++ (if has then numL y else []) ++ (if leaf then [] else ((chain ks).length - 1) :: layT ks) := by
        simp [layT]
      have htot' : (xs ++ layT (.node bs (y : Nat) has leaf ks)).length ≤ 800000 := by rw [List.length_append]; exact htot
      cases leaf with
      | true =>
        have e := (o5 rfl).1
        subst e
        exact lay_leafy N (lay_any N) hQ h1 h2 h3 (by omega) hC.1 hc1 hm2 hb (by omega) hs hbo hT htot'
      | false =>
        cases has with
        | true => exact lay_val N (lay_any N) hQ h1 h2 h3 (by omega) hC.1 hc1 hm2 hb (by omega) hs hbo hT htot'
        | false => exact lay_no N (lay_any N) hQ h1 h2 h3 (by omega) hC.1 hc1 hm2 hb (by omega) hs hbo hT htot'
/-- a tree's bytes, with how many pairs it has -/
def encL (t : Tr) : List Nat := [1] ++ numL (tl t).length ++ layT t
set_option maxHeartbeats 1000000 in
set_option maxRecDepth 100000 in
theorem encode_any {w0 w : World} {Q : List NP} {t : Tr} {p : Option Addr} (hQ : StoreP NoB w0 w Q) (hT : TreeV Q t (.pointer p)) (hO : TOk t) (hC : Can t) (hlay : (layT t).length ≤ 700000) (htot : (tl t).length ≤ 2000) :
    Calls Try.prog 105 #[.pointer p] w (encPost w (encL t)) := by
  obtain ⟨X1, hX1⟩ : ∃ X1, X1 = w.alloc (.cells #[.int .u8 1] 5) := ⟨_, rfl⟩
  have hO1 : OwnS 1 u8T X1 (.slice (some ⟨w.heap.size, 0, none⟩) 1 1) 1 (bV [1]) (some w.heap.size) := by rw [hX1]; exact own_one w 1
  have hA : Below w.heap.size w X1 := by rw [hX1]; exact (Below.refl _ w).alloc (Nat.le_refl _) _
  have HA := Lib.hid hA
  have HO1 := Lib.hid hO1
  have hCt := Lib.hid (count_any (hQ.below hA) hT hO (Nat.le_trans (tway_lay t hO) (by omega)) htot)
  have hz1 : ∀ g, some w.heap.size = some g → w.heap.size ≤ g := fun g e => by cases e; exact Nat.le_refl _
  have hfin : ∀ X2 w3 v3 M3 bo3, Below X1.heap.size X1 X2 → OwnS 1 u8T w3 v3 M3 (bV ([1] ++ numL (tl t).length)) bo3 → Mod (fun j => some w.heap.size = some j) X2 w3 → NewOr X2 (some w.heap.size) bo3 → Below w.heap.size w w3 ∧ ∀ g, bo3 = some g → w.heap.size ≤ g := fun X2 w3 v3 M3 bo3 b2 o3 m3 n3 =>
    ⟨(hA.trans (b2.mono hA.size)).trans (mod_lo m3 hz1 (Nat.le_trans hA.size b2.size)), newOr_lo n3 hz1 (Nat.le_trans hA.size b2.size)⟩
  have hlt : ∀ x ∈ encL t, x < 256 := fun x hx => by
    unfold encL at hx
    simp only [List.mem_append, List.mem_singleton] at hx
    rcases hx with (rfl | hx) | hx
    · omega
    · exact numL_byte _ x hx
    · exact layT_byte t hO x hx
  have hnl : (numL (tl t).length).length ≤ 10 := numL_ten (by omega)
  rcases hT with ⟨rfl, e⟩ | ⟨hn, hT⟩
  · obtain rfl : p = none := by simpa using e
    have hEnd : Hid (∀ X2 w3 v3 M3 bo3, Below X1.heap.size X1 X2 → OwnS 1 u8T w3 v3 M3 (bV ([1] ++ numL (tl .nil).length)) bo3 → Mod (fun j => some w.heap.size = some j) X2 w3 → NewOr X2 (some w.heap.size) bo3 → encPost w (encL .nil) (.returned v3) w3) := fun X2 w3 v3 M3 bo3 b2 o3 m3 n3 => by
      obtain ⟨q1, q2⟩ := hfin X2 w3 v3 M3 bo3 b2 o3 m3 n3
      have e : encL .nil = [1] ++ numL (tl .nil).length := by unfold encL; rw [show layT .nil = [] from rfl, List.append_nil]
      rw [e] at hlt ⊢
      obtain ⟨a, c, rfl, hs⟩ := sl_of_own o3 hlt
      exact ⟨a, M3, c, rfl, hs, q1⟩
    subst hX1
    generalize encL .nil = E at *
    simp only [tl, List.length_nil] at *
    clear hA hO1 hfin hlt hQ hO hC hlay htot
    go_enter Try.func105, Try.ntmps105
    go_wp2_with (first
      | (go_at_call 134; go_loud (refine hCt.out.mono ?_); rintro e X2 ⟨rfl, b2⟩; have B2 := Lib.hid b2; have hNum := Lib.hid (ser_num (xs := [1]) (HO1.out.below b2) (by simp) 0 (by omega)); clear b2)
      | (go_at_call 133; refine hNum.out.mono ?_; rintro e w3 ⟨v3, M3, bo3, rfl, e3, o3, m3, n3⟩; have hL2 := Lib.hid (hEnd.out X2 w3 v3 M3 bo3 B2.out o3 m3 n3); obtain ⟨a3, c3, hv3, _⟩ := o3.len; subst hv3; clear e3 o3 m3 n3))
    go_ret
    exact hL2.out
  · obtain ⟨n, rfl⟩ : ∃ n, p = some ⟨n, 0, none⟩ := by
      obtain ⟨k, e⟩ := hT.isN hn
      exact ⟨k, by simpa using e⟩
    have hLay : Hid (∀ X2 w3 v3 M3 bo3, Below X1.heap.size X1 X2 → OwnS 1 u8T w3 v3 M3 (bV ([1] ++ numL (tl t).length)) bo3 → Mod (fun j => some w.heap.size = some j) X2 w3 → NewOr X2 (some w.heap.size) bo3 → Calls Try.prog 135 #[v3, .pointer (some ⟨n, 0, none⟩)] w3 (encPost w (encL t))) := fun X2 w3 v3 M3 bo3 b2 o3 m3 n3 => by
      obtain ⟨q1, q2⟩ := hfin X2 w3 v3 M3 bo3 b2 o3 m3 n3
      refine (lay_any (tdep t) t (Nat.le_refl _) hQ hT hn hO hC q1 (by rw [← own_m o3]; exact o3) q2 (by simp only [List.length_append, List.length_cons, List.length_nil]; omega)).mono ?_
      rintro e w4 ⟨v4, M4, bo4, rfl, o4, m4, n4⟩
      obtain ⟨a, c, rfl, hs⟩ := sl_of_own o4 hlt
      exact ⟨a, M4, c, rfl, hs, q1.trans (mod_lo m4 q2 q1.size)⟩
    have hT2000 : (tl t).length ≤ 2000 := htot
    subst hX1
    generalize (tl t).length = T at *
    generalize encL t = E at *
    clear hA hO1 hfin hlt hQ hO hC hlay htot hT
    go_enter Try.func105, Try.ntmps105
    have hwT : IntKind.u64.wrap (T : Int) = (T : Int) := wrap_u64 (by omega)
    go_wp2_with (first
      | (go_at_call 134; go_loud (refine hCt.out.mono ?_); rintro e X2 ⟨rfl, b2⟩; have B2 := Lib.hid b2; have hNum := Lib.hid (ser_num (xs := [1]) (HO1.out.below b2) (by simp) T (by omega)); clear b2)
      | (go_at_call 133; refine hNum.out.mono ?_; rintro e w3 ⟨v3, M3, bo3, rfl, e3, o3, m3, n3⟩; have hL2 := Lib.hid (hLay.out X2 w3 v3 M3 bo3 B2.out o3 m3 n3); obtain ⟨a3, c3, hv3, _⟩ := o3.len; subst hv3; clear e3 o3 m3 n3)
      | (go_at_call 135; refine hL2.out.mono ?_; rintro e w4 ⟨a, m, c, rfl, q1, q2⟩; have Q1 := Lib.hid q1; have Q2 := Lib.hid q2; clear q1 q2))
    go_ret
    exact ⟨a, m, c, rfl, Q1.out, Q2.out⟩
theorem size_any {w0 w : World} {Q : List NP} {t : Tr} {p : Option Addr} (hQ : StoreP NoB w0 w Q) (hT : TreeV Q t (.pointer p)) (hO : TOk t) (hC : Can t) (hlay : (layT t).length ≤ 700000) (htot : (tl t).length ≤ 2000) :
    Calls Try.prog 62 #[.pointer p] w (belowPost (.int .i64 ((encL t).length : Nat)) w) := by
  have hE := Lib.hid (encode_any hQ hT hO hC hlay htot)
  generalize encL t = E at *
  clear hQ hT hO hC hlay htot
  go_enter Try.func62, Try.ntmps62
  go_wp2_with (go_at_call 105; refine hE.out.mono ?_; rintro e w2 ⟨a, m, c, rfl, s, b⟩; have B := Lib.hid b; have hm := Lib.hid s.len; clear b s)
  go_ret
  exact ⟨by rw [hm.out]; rfl, B.out⟩
end Go.Proofs.Ytgijnjdcpipfiaa
/- stats.Of, Nodes of a canonical tree. -/
namespace Go.Proofs.Ytgijnjdcpipfiaa
open Go.RowKit
theorem of_can {w0 w : World} {Q : List NP} {t : Tr} {v : Option Addr} (hQ : StoreP NoB w0 w Q) (hT : TreeV Q t (.pointer v)) (hO : TOk t) (hC : Can t) (hk : ∀ p ∈ tl t, p.1.length ≤ 300) (hn : (tl t).length ≤ 250) :
    Calls Try.prog 31 #[.pointer v] w (belowPost (stV (stAdd t 0 0 (stZ (encL t).length))) w) := by
  have hz := treeV_nz hT
  have hl := layT_bound hz hO hC hk (by omega) hn
  exact of_tree hQ hT hO (tw_bound hz hO hC hk (by omega) hn (by omega)) _ fun X hb => size_any (hQ.below hb) hT hO hC (by omega) (by omega)
/-- stats.Nodes of any numbers that are not too great -/
theorem st_nodes (w : World) (s : StN) {M : Nat} (h : s.le M) (hM : M ≤ 1000000000000000000) : Calls Try.prog 35 #[stV s] w (belowPost (.int .i64 ((s.inner + s.leaves : Nat) : Int)) w) := by
  obtain ⟨a0, a1, a2, a3, a4, a5, a6, a7, a8, a9, a10⟩ := s
  exact st_nodesC w a0 a1 a2 a3 a4 a5 a6 a7 a8 a9 a10 (Nat.le_trans h.leaves hM) (Nat.le_trans h.k0 hM) (Nat.le_trans h.k1 hM) (Nat.le_trans h.k2 hM) (Nat.le_trans h.k3 hM)
theorem st_inner' (w : World) (s : StN) {M : Nat} (h : s.le M) (hM : M ≤ 1000000000000000000) : Calls Try.prog 34 #[stV s] w (belowPost (.int .i64 ((s.inner : Nat) : Int)) w) := by
  obtain ⟨a0, a1, a2, a3, a4, a5, a6, a7, a8, a9, a10⟩ := s
  exact st_innerC w a0 a1 a2 a3 a4 a5 a6 a7 a8 a9 a10 (Nat.le_trans h.k0 hM) (Nat.le_trans h.k1 hM) (Nat.le_trans h.k2 hM) (Nat.le_trans h.k3 hM)
end Go.Proofs.Ytgijnjdcpipfiaa
/- stats.shared of two ends: the way down. -/
namespace Go.Proofs.Ytgijnjdcpipfiaa
open Go.RowKit
abbrev endT : TypeId := 106
/-- a box of an end -/
structure EnIs (w : World) (g : Nat) (v k : Value) : Prop where
  blk : w.heap[g]? = some (.cells [v, k].toArray endT (0, 0))
section
variable {w w' : World} {g : Nat} {v k : Value}
theorem EnIs.lt (h : EnIs w g v k) : g < w.heap.size := (Array.getElem?_eq_some_iff.1 h.blk).1
theorem EnIs.below (h : EnIs w g v k) (hb : Below w.heap.size w w') : EnIs w' g v k := ⟨(hb.block g h.lt).trans h.blk⟩
theorem EnIs.set0 (h : EnIs w g v k) (x : Value) : EnIs (w.setCell ⟨g, 0, none⟩ x) g x k := by
  refine ⟨?_⟩
  rw [setCell_list _ _ _ _ _ _ h.blk, setRow_heap _ _ _ _ _ _ h.blk]; rfl
theorem EnIs.set1 (h : EnIs w g v k) (x : Value) : EnIs (w.setCell ⟨g, 1, none⟩ x) g v x := by
  refine ⟨?_⟩
  rw [setCell_list _ _ _ _ _ _ h.blk, setRow_heap _ _ _ _ _ _ h.blk]; rfl
theorem EnIs.facts (h : EnIs w g v k) : w.cell? ⟨g, 0, none⟩ = some v ∧ w.cell? ⟨g, 1, none⟩ = some k ∧ w.frozen? ⟨g, 0, none⟩ = false ∧ w.frozen? ⟨g, 1, none⟩ = false :=
  ⟨by rw [cell_of_blk h.blk]; rfl, by rw [cell_of_blk h.blk]; rfl, frozen_of_blk h.blk 0, frozen_of_blk h.blk 1⟩
end
theorem two_box (w : World) (v k v' k' : Value) : EnIs ((w.alloc (.cells #[v, k] endT)).alloc (.cells #[v', k'] endT)) w.heap.size v k ∧ EnIs ((w.alloc (.cells #[v, k] endT)).alloc (.cells #[v', k'] endT)) (w.heap.size + 1) v' k' ∧ Below w.heap.size w ((w.alloc (.cells #[v, k] endT)).alloc (.cells #[v', k'] endT)) := by
  have h1 : (w.alloc (.cells #[v, k] endT)).heap.size = w.heap.size + 1 := by simp
  refine ⟨⟨?_⟩, ⟨?_⟩, (below_al w _).alloc (below_al w _).size _⟩
  · rw [heap_alloc_old (h := by omega), heap_alloc_new]
  · rw [← h1, heap_alloc_new]
set_option maxHeartbeats 4000000 in
set_option maxRecDepth 100000 in
theorem down_stay (w : World) (p : Addr) (g s b : Nat) (bs : List Nat) (hPart : ∀ X, Below w.heap.size w X → Calls Try.prog 25 #[.pointer (some p)] X (partAt bs X)) (h : g + s < bs.length) (hl : bs.length ≤ 140737488355328) :
    Calls Try.prog 113 #[.agg #[.pointer (some p), .int .i64 (g : Nat)], .int .i64 (s : Nat), .int .u8 (b : Nat)] w (belowPost (.agg #[.pointer (some p), .int .i64 ((g + s + 1 : Nat) : Int)]) w) := by
  obtain ⟨t0, t1, t2⟩ := two_box w (.pointer (some p)) (.int .i64 (g : Nat)) (.pointer none) (.int .i64 0)
  obtain ⟨z, hz⟩ : ∃ z, z = g + s := ⟨_, rfl⟩
  obtain ⟨y, hy⟩ : ∃ y, y = z + 1 := ⟨_, rfl⟩
  obtain ⟨n, hn⟩ : ∃ n, n = bs.length := ⟨_, rfl⟩
  have w1 : IntKind.i64.wrap ((g : Int) + (s : Nat)) = (z : Int) := by rw [show (g : Int) + (s : Nat) = ((z : Nat) : Int) by omega]; exact IntWalk.i64_in _ (by omega)
  have w2 : IntKind.i64.wrap ((z : Int) + 1) = (y : Int) := by rw [show (z : Int) + 1 = ((y : Nat) : Int) by omega]; exact IntWalk.i64_in _ (by omega)
  have j : (z : Int) < (n : Int) := by omega
  have HP : Hid (∀ X, Below w.heap.size w X → Calls Try.prog 25 #[.pointer (some p)] X fun e w' => e = .returned (.slice (some ⟨X.heap.size, 0, none⟩) n n) ∧ Below X.heap.size X w') := fun X hb => (hPart X hb).mono fun e w' ⟨e1, _, e2⟩ => ⟨by rw [e1, hn], e2⟩
  rw [show g + s + 1 = y by omega]
  clear hPart h hl hz hy hn
  have T0 := Lib.hid t0
  have T1 := Lib.hid t1
  have T2 := Lib.hid t2
  obtain ⟨x0, x1, _, _⟩ := t0.facts
  clear t0 t1 t2
  go_enter Try.func113, Try.ntmps113
  go_wp2_with fail
  go_region_with (first
    | (go_at_call 25; refine (HP.out _ (by first | exact T2.out | exact T2.out.drew)).mono ?_; rintro e w5 ⟨rfl, z5⟩
       (first
         | (have E0 := Lib.hid (T0.out.below z5); have E1 := Lib.hid (T1.out.below z5); have B5 := Lib.hid (T2.out.trans (z5.mono T2.out.size)))
         | (have E0 := Lib.hid ((show EnIs (World.drew _) _ _ _ from ⟨T0.out.blk⟩).below z5); have E1 := Lib.hid ((show EnIs (World.drew _) _ _ _ from ⟨T1.out.blk⟩).below z5); have B5 := Lib.hid (T2.out.drew.trans (z5.mono T2.out.drew.size))))
       obtain ⟨c0, c1, _, _⟩ := E0.out.facts
       obtain ⟨_, _, f0, f1⟩ := E1.out.facts
       clear z5))
  all_goals
    (try simp only [Exit.then, Exit.inBlock])
    go_wp2_with fail
  all_goals
    have NF := (E1.out.set0 (.pointer (some p))).set1 (.int .i64 (y : Nat))
    have BF := (B5.out.setCell (p := ⟨w.heap.size + 1, 0, none⟩) (Nat.le_succ _) (.pointer (some p))).setCell (p := ⟨w.heap.size + 1, 1, none⟩) (Nat.le_succ _) (.int .i64 (y : Nat))
    have hinf : (Try.prog.info? endT).map (·.size) = some 2 := by kernel_rfl
    first
    | exact bodyPost_ret (v := .agg #[.pointer (some p), .int .i64 (y : Nat)]) (results_cell_row Try.results113 _ _ (w.heap.size + 1) endT _ (0, 0) _ rfl NF.blk Try.underlying106 rfl hinf) rfl ⟨rfl, BF⟩
    | exact bodyPost_ret (v := .agg #[.pointer (some p), .int .i64 (y : Nat)]) (results_cell_row Try.results113 _ _ (w.heap.size + 1) endT _ (0, 0) _ rfl (show EnIs (World.drew _) _ _ _ from ⟨NF.blk⟩).blk Try.underlying106 rfl hinf) rfl ⟨rfl, BF.drew⟩
set_option maxHeartbeats 4000000 in
set_option maxRecDepth 100000 in
theorem down_kid (w : World) (p : Addr) (g s b : Nat) (bs : List Nat) (kv : Option Addr) (hPart : ∀ X, Below w.heap.size w X → Calls Try.prog 25 #[.pointer (some p)] X (partAt bs X))
    (hKid : ∀ X, Below w.heap.size w X → Calls Try.prog 13 #[.pointer (some p), .int .u8 (b : Nat)] X fun e w' => e = .returned (.pointer kv) ∧ Below X.heap.size X w') (h : bs.length ≤ g + s) (hl : g + s ≤ 1407374883553280) :
    Calls Try.prog 113 #[.agg #[.pointer (some p), .int .i64 (g : Nat)], .int .i64 (s : Nat), .int .u8 (b : Nat)] w (belowPost (.agg #[.pointer kv, .int .i64 ((0 : Nat) : Int)]) w) := by
  obtain ⟨t0, t1, t2⟩ := two_box w (.pointer (some p)) (.int .i64 (g : Nat)) (.pointer none) (.int .i64 0)
  obtain ⟨z, hz⟩ : ∃ z, z = g + s := ⟨_, rfl⟩
  obtain ⟨n, hn⟩ : ∃ n, n = bs.length := ⟨_, rfl⟩
  have w1 : IntKind.i64.wrap ((g : Int) + (s : Nat)) = (z : Int) := by rw [show (g : Int) + (s : Nat) = ((z : Nat) : Int) by omega]; exact IntWalk.i64_in _ (by omega)
  have j : ¬ (z : Int) < (n : Int) := by omega
  have HP : Hid (∀ X, Below w.heap.size w X → Calls Try.prog 25 #[.pointer (some p)] X fun e w' => e = .returned (.slice (some ⟨X.heap.size, 0, none⟩) n n) ∧ Below X.heap.size X w') := fun X hb => (hPart X hb).mono fun e w' ⟨e1, _, e2⟩ => ⟨by rw [e1, hn], e2⟩
  have HK := Lib.hid hKid
  clear hPart hKid h hl hz hn
  have T0 := Lib.hid t0
  have T1 := Lib.hid t1
  have T2 := Lib.hid t2
  obtain ⟨x0, x1, _, _⟩ := t0.facts
  clear t0 t1 t2
  go_enter Try.func113, Try.ntmps113
  go_wp2_with fail
  go_region_with (first
    | (go_at_call 25; refine (HP.out _ (by first | exact T2.out | exact T2.out.drew)).mono ?_; rintro e w5 ⟨rfl, z5⟩
       (first
         | (have E0 := Lib.hid (T0.out.below z5); have E1 := Lib.hid (T1.out.below z5); have B5 := Lib.hid (T2.out.trans (z5.mono T2.out.size)))
         | (have E0 := Lib.hid ((show EnIs (World.drew _) _ _ _ from ⟨T0.out.blk⟩).below z5); have E1 := Lib.hid ((show EnIs (World.drew _) _ _ _ from ⟨T1.out.blk⟩).below z5); have B5 := Lib.hid (T2.out.drew.trans (z5.mono T2.out.drew.size))))
       obtain ⟨c0, c1, _, _⟩ := E0.out.facts
       clear z5))
  all_goals
    (try simp only [Exit.then, Exit.inBlock])
    go_wp2_with (first
      | (go_at_call 13; refine (HK.out _ (by first | exact B5.out | exact B5.out.drew)).mono ?_; rintro e w6 ⟨rfl, z6⟩
         (first
           | (have E6 := Lib.hid (E1.out.below z6); have B6 := Lib.hid (B5.out.trans (z6.mono B5.out.size)))
           | (have E6 := Lib.hid ((show EnIs (World.drew _) _ _ _ from ⟨E1.out.blk⟩).below z6); have B6 := Lib.hid (B5.out.drew.trans (z6.mono B5.out.drew.size))))
         obtain ⟨_, _, f0, f1⟩ := E6.out.facts
         clear z6))
  all_goals
    have NF := (E6.out.set0 (.pointer kv)).set1 (.int .i64 ((0 : Nat) : Int))
    have BF := (B6.out.setCell (p := ⟨w.heap.size + 1, 0, none⟩) (Nat.le_succ _) (.pointer kv)).setCell (p := ⟨w.heap.size + 1, 1, none⟩) (Nat.le_succ _) (.int .i64 ((0 : Nat) : Int))
    have hinf : (Try.prog.info? endT).map (·.size) = some 2 := by kernel_rfl
    exact bodyPost_ret (v := .agg #[.pointer kv, .int .i64 ((0 : Nat) : Int)]) (results_cell_row Try.results113 _ _ (w.heap.size + 1) endT _ (0, 0) _ rfl NF.blk Try.underlying106 rfl hinf) rfl ⟨rfl, BF⟩
end Go.Proofs.Ytgijnjdcpipfiaa
/- stats.shared of trees that were made apart: none. -/
namespace Go.Proofs.Ytgijnjdcpipfiaa
open Go.RowKit
theorem eqIn_ptr_other {P : Program} {tp te : TypeId} {j : TypeInfo} {a b : Addr} {ca cb : Array Value} {ta tb : TypeId} (w : World) (hp : P.underlying tp = some (.pointer te)) (hte : P.info? te = some j) (hsz : j.size ≠ 0) (hne : a ≠ b) (ha : w.heap[a.block]? = some (.cells ca ta (0, 0))) (hb : w.heap[b.block]? = some (.cells cb tb (0, 0))) (d : Nat) :
    (Op.equalIn (d + 1) tp (.pointer (some a)) (.pointer (some b))).run P w = .ok false w := by
  simp [Op.equalIn, run_underlying hp, sizeOf, typeInfo, hte, hsz, run_sameAddr_other w hne ha hb]
theorem ptr_info5 : ∃ j, Try.prog.info? ndT = some j ∧ j.size ≠ 0 := by
  have h : ∃ j, Try.prog.info? ndT = some j ∧ j.size ≠ 0 := by
    have h1 : ((Try.prog.info? ndT).map fun j => decide (j.size ≠ 0)) = some true := by kernel_rfl
    cases e : Try.prog.info? ndT with
    | none => rw [e] at h1; cases h1
    | some j => rw [e] at h1; exact ⟨j, rfl, by simpa using h1⟩
  exact h
theorem kid_ap {Q : List NP} : ∀ {ks : Tr} {v : Value} {l : KV}, TreeIn Q 0 ks v l → TOk ks → IsK ks → ∀ c, (kget l c).getD (.pointer none) = .pointer none ∨ ∃ t k, (kget l c).getD (.pointer none) = .pointer (some ⟨k, 0, none⟩) ∧ IsN t ∧ TreeV Q t (.pointer (some ⟨k, 0, none⟩)) ∧ TOk t ∧ tdep t ≤ tdep ks
  | .nil, v, l, h, _, _, c => by
    have h : l = [] := h
    subst h
    exact Or.inl rfl
  | .node .., _, _, _, _, h, _ => h.elim
  | .kid b t r, v, l, ⟨x, l', h1, h2, h3⟩, ⟨k1, k2, k3, k4, k5, k6⟩, _, c => by
    subst h1
    by_cases e : b = c
    · subst e
      obtain ⟨q, rfl⟩ := h2.isN k2
      exact Or.inr ⟨t, q, by simp [kget], k2, Or.inr ⟨k2, h2⟩, k3, by simp only [tdep]; omega⟩
    · have : kget ((b, x) :: l') c = kget l' c := by simp [kget, List.find?_cons, e]
      rw [this]
      rcases kid_ap h3 k5 k4 c with q | ⟨t', k, q1, q2, q3, q4, q5⟩
      · exact Or.inl q
      · exact Or.inr ⟨t', k, q1, q2, q3, q4, by simp only [tdep]; omega⟩
def partOf : Tr → List Nat
  | .node bs _ _ _ _ => bs
  | _ => []
def ShAsk (wb : World) (Q1 Q2 : List NP) (N : Nat) : Prop := ∀ (t1 t2 : Tr) (a b : Addr) (g1 g2 : Nat) (w : World), tdep t1 + tdep t2 ≤ N → IsN t1 → IsN t2 → TreeV Q1 t1 (.pointer (some a)) → TreeV Q2 t2 (.pointer (some b)) → TOk t1 → TOk t2 → g1 ≤ (partOf t1).length → g2 ≤ (partOf t2).length → Below wb.heap.size wb w →
  Calls Try.prog 69 #[.agg #[.pointer (some a), .int .i64 (g1 : Nat)], .agg #[.pointer (some b), .int .i64 (g2 : Nat)]] w (belowPost (.int .i64 ((0 : Nat) : Int)) w)
theorem sh_nilR (w : World) (v : Addr) (g : Nat) : Calls Try.prog 69 #[.agg #[.pointer (some v), .int .i64 (g : Nat)], .agg #[.pointer none, .int .i64 ((0 : Nat) : Int)]] w (belowPost (.int .i64 ((0 : Nat) : Int)) w) := by
  have hA := Lib.hid ((below_al w (.cells #[.pointer (some v), .int .i64 (g : Nat)] 106)).alloc (below_al w (.cells #[.pointer (some v), .int .i64 (g : Nat)] 106)).size (.cells #[.pointer none, .int .i64 ((0 : Nat) : Int)] 106))
  go_enter Try.func69, Try.ntmps69
  go_wp2_with fail
  go_ret
  exact ⟨rfl, hA.out⟩
theorem sh_nilL (w : World) (v : Addr) (g : Nat) : Calls Try.prog 69 #[.agg #[.pointer none, .int .i64 ((0 : Nat) : Int)], .agg #[.pointer (some v), .int .i64 (g : Nat)]] w (belowPost (.int .i64 ((0 : Nat) : Int)) w) := by
  have hA := Lib.hid ((below_al w (.cells #[.pointer none, .int .i64 ((0 : Nat) : Int)] 106)).alloc (below_al w (.cells #[.pointer none, .int .i64 ((0 : Nat) : Int)] 106)).size (.cells #[.pointer (some v), .int .i64 (g : Nat)] 106))
  go_enter Try.func69, Try.ntmps69
  go_wp2_with fail
  go_ret
  exact ⟨rfl, hA.out⟩
/-- a part, wherever it is laid -/
def somePart (bs : List Nat) (n : Nat) (w : World) (e : Ending) (w' : World) : Prop := ∃ a, e = .returned (.slice (some a) n n) ∧ Sl w' (some a) n n bs ∧ Below w.heap.size w w'
set_option maxHeartbeats 8000000 in
set_option maxRecDepth 100000 in
/-- two ends at nodes that are not the same -/
theorem sh_node (wb w : World) (n1 n2 : Nat) (bs1 bs2 : List Nat) (g1 g2 : Nat) (Q : List NP) (kk ks : KV × Tr) (hB : Below wb.heap.size wb w) (hg1 : g1 ≤ bs1.length) (hg2 : g2 ≤ bs2.length) (hl1 : bs1.length ≤ 140737488355328) (hl2 : bs2.length ≤ 140737488355328)
    (hP1 : ∀ X, Below wb.heap.size wb X → Calls Try.prog 25 #[.pointer (some ⟨n1, 0, none⟩)] X (partAt bs1 X))
    (hP2 : ∀ X, Below wb.heap.size wb X → Calls Try.prog 25 #[.pointer (some ⟨n2, 0, none⟩)] X (partAt bs2 X))
    (hEq : ∀ X, Below wb.heap.size wb X → (Op.equalIn 9999 28 (.pointer (some ⟨n1, 0, none⟩)) (.pointer (some ⟨n2, 0, none⟩))).run Try.prog X = .ok false X)
    (hNx : ∀ X f, Below wb.heap.size wb X → (0 : Int) ≤ f → f ≤ 256 → Calls Try.prog 11 #[.pointer (some ⟨n1, 0, none⟩), .int .i64 f] X fun e w' => e = .returned (stepV (knxt kk.1 f)) ∧ Below X.heap.size X w')
    (hks : Kids Q kk.1 kk.2 kk.2 [] kk.1) (hx0 : knxt kk.1 0 = kk.1.head?)
    (hR : ∀ c, c < 256 → ∃ kv, (∀ X, Below wb.heap.size wb X → Calls Try.prog 13 #[.pointer (some ⟨n2, 0, none⟩), .int .u8 (c : Nat)] X fun e w' => e = .returned (.pointer kv) ∧ Below X.heap.size X w') ∧
      (∀ X g, Below wb.heap.size wb X → g ≤ bs1.length → Calls Try.prog 69 #[.agg #[.pointer (some ⟨n1, 0, none⟩), .int .i64 (g : Nat)], .agg #[.pointer kv, .int .i64 ((0 : Nat) : Int)]] X (belowPost (.int .i64 ((0 : Nat) : Int)) X)) ∧
      (∀ X t k, Below wb.heap.size wb X → IsN t → TreeV Q t (.pointer (some ⟨k, 0, none⟩)) → TOk t → tdep t ≤ tdep kk.2 → Calls Try.prog 69 #[.agg #[.pointer (some ⟨k, 0, none⟩), .int .i64 ((0 : Nat) : Int)], .agg #[.pointer kv, .int .i64 ((0 : Nat) : Int)]] X (belowPost (.int .i64 ((0 : Nat) : Int)) X)))
    (hL : ∀ c, c < 256 → ∃ kv, (∀ X, Below wb.heap.size wb X → Calls Try.prog 13 #[.pointer (some ⟨n1, 0, none⟩), .int .u8 (c : Nat)] X fun e w' => e = .returned (.pointer kv) ∧ Below X.heap.size X w') ∧
      (∀ X g, Below wb.heap.size wb X → g ≤ bs2.length → Calls Try.prog 69 #[.agg #[.pointer kv, .int .i64 ((0 : Nat) : Int)], .agg #[.pointer (some ⟨n2, 0, none⟩), .int .i64 (g : Nat)]] X (belowPost (.int .i64 ((0 : Nat) : Int)) X))) :
    Calls Try.prog 69 #[.agg #[.pointer (some ⟨n1, 0, none⟩), .int .i64 (g1 : Nat)], .agg #[.pointer (some ⟨n2, 0, none⟩), .int .i64 (g2 : Nat)]] w (belowPost (.int .i64 ((0 : Nat) : Int)) w) := by
  obtain ⟨t0, t1, t2⟩ := two_box w (.pointer (some ⟨n1, 0, none⟩)) (.int .i64 (g1 : Nat)) (.pointer (some ⟨n2, 0, none⟩)) (.int .i64 (g2 : Nat))
  obtain ⟨W2, hW2⟩ : ∃ W2, W2 = (w.alloc (.cells #[.pointer (some ⟨n1, 0, none⟩), .int .i64 (g1 : Nat)] endT)).alloc (.cells #[.pointer (some ⟨n2, 0, none⟩), .int .i64 (g2 : Nat)] endT) := ⟨_, rfl⟩
  rw [← hW2] at t0 t1 t2
  have BW : Hid (Below wb.heap.size wb W2) := hB.trans (t2.mono hB.size)
  have hall : Hid (∀ X, Below W2.heap.size W2 X → X.cell? ⟨w.heap.size, 0, none⟩ = some (.pointer (some ⟨n1, 0, none⟩)) ∧ X.cell? ⟨w.heap.size, 1, none⟩ = some (.int .i64 (g1 : Nat)) ∧ X.cell? ⟨w.heap.size + 1, 0, none⟩ = some (.pointer (some ⟨n2, 0, none⟩)) ∧ X.cell? ⟨w.heap.size + 1, 1, none⟩ = some (.int .i64 (g2 : Nat))) := fun X hb =>
    ⟨(t0.below hb).facts.1, (t0.below hb).facts.2.1, (t1.below hb).facts.1, (t1.below hb).facts.2.1⟩
  obtain ⟨x0, x1, y0, y1⟩ := hall.out W2 (Below.refl _ _)
  have hE0 := hEq W2 BW.out
  obtain ⟨k1, hk1⟩ : ∃ k, k = bs1.length := ⟨_, rfl⟩
  obtain ⟨k2, hk2⟩ : ∃ k, k = bs2.length := ⟨_, rfl⟩
  obtain ⟨m1, hm1⟩ : ∃ m, m = k1 - g1 := ⟨_, rfl⟩
  obtain ⟨m2, hm2⟩ : ∃ m, m = k2 - g2 := ⟨_, rfl⟩
  have hQ1 : Hid (∀ X, Below W2.heap.size W2 X → Calls Try.prog 25 #[.pointer (some ⟨n1, 0, none⟩)] X (somePart bs1 k1 X)) := fun X hb => (hP1 X (BW.out.trans (hb.mono BW.out.size))).mono fun e w' ⟨e1, e2, e3⟩ => ⟨⟨X.heap.size, 0, none⟩, by rw [hk1]; exact e1, by rw [hk1]; exact e2, e3⟩
  have hQ2 : Hid (∀ X, Below W2.heap.size W2 X → Calls Try.prog 25 #[.pointer (some ⟨n2, 0, none⟩)] X (somePart bs2 k2 X)) := fun X hb => (hP2 X (BW.out.trans (hb.mono BW.out.size))).mono fun e w' ⟨e1, e2, e3⟩ => ⟨⟨X.heap.size, 0, none⟩, by rw [hk2]; exact e1, by rw [hk2]; exact e2, e3⟩
  have hc1 : ∀ (a : Addr) (w : World), (Instr.slice 27 (.slice (some a) k1 k1) (some (.int .i64 (g1 : Nat))) none none).run Try.prog w = .ok (.slice (cutA (some a) k1 g1 1) m1 m1) w := fun a w => by rw [hm1]; exact run_from8 w (some a) k1 k1 g1 (by omega)
  have hc2 : ∀ (a : Addr) (w : World), (Instr.slice 27 (.slice (some a) k2 k2) (some (.int .i64 (g2 : Nat))) none none).run Try.prog w = .ok (.slice (cutA (some a) k2 g2 1) m2 m2) w := fun a w => by rw [hm2]; exact run_from8 w (some a) k2 k2 g2 (by omega)
  have hF1 : Hid (∀ X a, Sl X (some a) k1 k1 bs1 → Sl X (cutA (some a) k1 g1 1) m1 m1 (bs1.drop g1)) := fun X a h => by rw [hm1]; exact h.from_ (by omega)
  have hF2 : Hid (∀ X a, Sl X (some a) k2 k2 bs2 → Sl X (cutA (some a) k2 g2 1) m2 m2 (bs2.drop g2)) := fun X a h => by rw [hm2]; exact h.from_ (by omega)
  obtain ⟨V, hV⟩ : ∃ V, V = lcp (bs1.drop g1) (bs2.drop g2) := ⟨_, rfl⟩
  have hlc := lcp_le (bs1.drop g1) (bs2.drop g2)
  rw [← hV, List.length_drop, List.length_drop, ← hk1, ← hk2, ← hm1, ← hm2] at hlc
  obtain ⟨hV1, hV2⟩ := hlc
  have hCm : Hid (∀ X a b, Sl X a m1 m1 (bs1.drop g1) → Sl X b m2 m2 (bs2.drop g2) → Calls Try.prog 112 #[.slice a m1 m1, .slice b m2 m2] X fun e w' => e = .returned (.int .i64 (V : Nat)) ∧ Below X.heap.size X w') := fun X a b h k => by
    have := keys_common X a b m1 m1 m2 m2 _ _ h.at_ k.at_ h.len k.len (Nat.le_trans h.cap h.capm) (Nat.le_trans k.cap k.capm)
    rw [← hV] at this
    exact this.mono fun e w' ⟨q1, n, q2⟩ => ⟨q1, by rw [q2]; exact below_drewN (Below.refl _ _) n⟩
  have hln1 : Hid (m1 = (bs1.drop g1).length) := by show _ = _; rw [List.length_drop, hm1, hk1]
  have hln2 : Hid (m2 = (bs2.drop g2).length) := by show _ = _; rw [List.length_drop, hm2, hk2]
  have hd1 : Hid (∀ (c : Nat) (V' : Nat), V' = V → V < m1 → ∀ X, Below wb.heap.size wb X → Calls Try.prog 113 #[.agg #[.pointer (some ⟨n1, 0, none⟩), .int .i64 (g1 : Nat)], .int .i64 (V : Nat), .int .u8 (c : Nat)] X (belowPost (.agg #[.pointer (some ⟨n1, 0, none⟩), .int .i64 ((g1 + V + 1 : Nat) : Int)]) X)) := fun c V' _ h X hb => down_stay X _ g1 V c bs1 (fun Y hy => hP1 Y (hb.trans (hy.mono hb.size))) (by omega) hl1
  have hd2 : Hid (∀ (c : Nat) (V' : Nat), V' = V → V < m2 → ∀ X, Below wb.heap.size wb X → Calls Try.prog 113 #[.agg #[.pointer (some ⟨n2, 0, none⟩), .int .i64 (g2 : Nat)], .int .i64 (V : Nat), .int .u8 (c : Nat)] X (belowPost (.agg #[.pointer (some ⟨n2, 0, none⟩), .int .i64 ((g2 + V + 1 : Nat) : Int)]) X)) := fun c V' _ h X hb => down_stay X _ g2 V c bs2 (fun Y hy => hP2 Y (hb.trans (hy.mono hb.size))) (by omega) hl2
  have hK1 : Hid (∀ (c : Nat) kv, V = m1 → (∀ X, Below wb.heap.size wb X → Calls Try.prog 13 #[.pointer (some ⟨n1, 0, none⟩), .int .u8 (c : Nat)] X fun e w' => e = .returned (.pointer kv) ∧ Below X.heap.size X w') → ∀ X, Below wb.heap.size wb X → Calls Try.prog 113 #[.agg #[.pointer (some ⟨n1, 0, none⟩), .int .i64 (g1 : Nat)], .int .i64 (V : Nat), .int .u8 (c : Nat)] X (belowPost (.agg #[.pointer kv, .int .i64 ((0 : Nat) : Int)]) X)) := fun c kv h hk X hb => down_kid X _ g1 V c bs1 kv (fun Y hy => hP1 Y (hb.trans (hy.mono hb.size))) (fun Y hy => hk Y (hb.trans (hy.mono hb.size))) (by omega) (by omega)
  have hK2 : Hid (∀ (c : Nat) kv, V = m2 → (∀ X, Below wb.heap.size wb X → Calls Try.prog 13 #[.pointer (some ⟨n2, 0, none⟩), .int .u8 (c : Nat)] X fun e w' => e = .returned (.pointer kv) ∧ Below X.heap.size X w') → ∀ X, Below wb.heap.size wb X → Calls Try.prog 113 #[.agg #[.pointer (some ⟨n2, 0, none⟩), .int .i64 (g2 : Nat)], .int .i64 (V : Nat), .int .u8 (c : Nat)] X (belowPost (.agg #[.pointer kv, .int .i64 ((0 : Nat) : Int)]) X)) := fun c kv h hk X hb => down_kid X _ g2 V c bs2 kv (fun Y hy => hP2 Y (hb.trans (hy.mono hb.size))) (fun Y hy => hk Y (hb.trans (hy.mono hb.size))) (by omega) (by omega)
  have hgv1 : Hid (V < m1 → g1 + V + 1 ≤ bs1.length) := by intro h; omega
  have hgv2 : Hid (V < m2 → g2 + V + 1 ≤ bs2.length) := by intro h; omega
  have T2 := Lib.hid t2
  have HR := Lib.hid hR
  have HL := Lib.hid hL
  have HNx := Lib.hid hNx
  have hstart := Lib.hid hks
  have HX0 := Lib.hid hx0
  have hW0 : Hid (Below W2.heap.size W2 W2) := Below.refl _ _
  clear hB hg1 hg2 hl1 hl2 hP1 hP2 hEq hNx hks hR hL t0 t1 t2 hk1 hk2 hm1 hm2 hV hx0
  go_enter Try.func69, Try.ntmps69
  go_upto_block 0 with fail
  rw [← hW2]
  clear hW2
  go_upto_region 5 with fail
  go_cut [5, 6] from 33 to 44 (fun s5 s6 w' => ∃ a b, s5 = .slice a m1 m1 ∧ s6 = .slice b m2 m2 ∧ Hid (Sl w' a m1 m1 (bs1.drop g1)) ∧ Hid (Sl w' b m2 m2 (bs2.drop g2)) ∧ Hid (Below W2.heap.size W2 w'))
  case first =>
    go_region_held3 (fun w' => w'.cell? ⟨w.heap.size, 0, none⟩ = some (.pointer (some ⟨n1, 0, none⟩)) ∧ w'.cell? ⟨w.heap.size, 1, none⟩ = some (.int .i64 (g1 : Nat)) ∧ w'.cell? ⟨w.heap.size + 1, 0, none⟩ = some (.pointer (some ⟨n2, 0, none⟩)) ∧ w'.cell? ⟨w.heap.size + 1, 1, none⟩ = some (.int .i64 (g2 : Nat)))
      (first | exact hall.out _ B6.out | exact hall.out _ B5.out | exact hall.out _ hW0.out.drew)
      (first
        | (have g0 := B5; go_at_call 25; refine (hQ2.out _ B5.out).mono ?_; rintro e w6 ⟨b, rfl, s6, z6⟩; have B6 := Lib.hid (B5.out.trans (z6.mono B5.out.size)); have S6 := Lib.hid (hF2.out _ _ s6); have S5' := Lib.hid (S5.out.below z6); clear s6 z6)
        | (go_at_call 25; refine (hQ1.out _ hW0.out.drew).mono ?_; rintro e w5 ⟨a, rfl, s5, z5⟩; have B5 := Lib.hid (hW0.out.drew.trans (z5.mono hW0.out.drew.size)); have S5 := Lib.hid (hF1.out _ _ s5); clear s5 z5))
    all_goals
      (try simp only [Exit.then, Exit.inBlock])
      go_wp2_with fail
      go_meet
      case rel => exact ⟨_, _, rfl, rfl, S5'.out, S6.out, B6.out⟩
  case rest =>
    clear x0 x1 y0 y1 hE0 hc1 hc2 hF1 hF2 hQ1 hQ2
    obtain ⟨a, b, rfl, rfl, D5, D6, B5⟩ := hcut
    go_upto_block 1 with (go_at_call 112; refine (hCm.out _ _ _ D5.out D6.out).mono ?_; rintro e w7 ⟨rfl, z7⟩; have E5 := Lib.hid (D5.out.below z7); have E6 := Lib.hid (D6.out.below z7); have B7 := Lib.hid (B5.out.trans (z7.mono B5.out.size)); clear z7)
    have BW7 := Lib.hid (BW.out.trans (B7.out.mono BW.out.size))
    clear D5 D6 B5 hCm
    by_cases h1 : V < m1
    · have j1 : (V : Int) < (m1 : Int) := by omega
      by_cases h2 : V < m2
      · have j2 : (V : Int) < (m2 : Int) := by omega
        clear h1 h2
        go_wp2_with fail
        go_ret
        exact ⟨rfl, T2.out.trans (B7.out.mono T2.out.size)⟩
      · have j2 : ¬ (V : Int) < (m2 : Int) := by omega
        have he2 : V = m2 := by omega
        have he1 : True := trivial
        have hVl : V < (bs1.drop g1).length := by rw [← hln1.out]; exact h1
        obtain ⟨pk, rfl, r1, r2⟩ := E5.out.at_.2 V hVl
        have hc : (bs1.drop g1).getD V 0 < 256 := by
          rw [List.getD_eq_getElem?_getD, List.getElem?_eq_getElem hVl]
          exact E5.out.at_.1 _ (List.getElem_mem _)
        obtain ⟨c, ec⟩ : ∃ c, c = (bs1.drop g1).getD V 0 := ⟨_, rfl⟩
        rw [← ec] at r2 hc
        obtain ⟨kv, k1, k2, _⟩ := HR.out c hc
        have hDa := hd1.out c V rfl h1
        have hDb := Lib.hid (hK2.out c kv he2 k1)
        have hSh := fun X hb => k2 X (g1 + V + 1) hb (hgv1.out h1)
        obtain ⟨y, ey⟩ : ∃ z, z = g1 + V + 1 := ⟨_, rfl⟩
        rw [← ey] at hDa hSh
        have HDa := Lib.hid hDa
        have HSh := Lib.hid hSh
        have hK : Hid (∀ X, Below w7.heap.size w7 X → X.cell? ⟨w.heap.size, 0, none⟩ = some (.pointer (some ⟨n1, 0, none⟩)) ∧ X.cell? ⟨w.heap.size, 1, none⟩ = some (.int .i64 (g1 : Nat)) ∧ X.cell? ⟨w.heap.size + 1, 0, none⟩ = some (.pointer (some ⟨n2, 0, none⟩)) ∧ X.cell? ⟨w.heap.size + 1, 1, none⟩ = some (.int .i64 (g2 : Nat)) ∧ X.cell? (pk.add V) = some (.int .u8 (c : Nat))) := fun X hb => by
          obtain ⟨p0, p1, p2, p3⟩ := hall.out X (B7.out.trans (hb.mono B7.out.size))
          exact ⟨p0, p1, p2, p3, (hb.cell r1).trans r2⟩
        have hB0 : Hid (Below w7.heap.size w7 w7) := Below.refl _ _
        obtain ⟨p0, p1, p2, p3, p4⟩ := hK.out w7 hB0.out
        have l0 : (0 : Int) ≤ (V : Int) := by omega
        clear hDa hSh k1 k2 hc ec ey r1 r2 hVl he1 he2
        go_wp2_with fail
        go_region_held3 (fun w' => w'.cell? ⟨w.heap.size, 0, none⟩ = some (.pointer (some ⟨n1, 0, none⟩)) ∧ w'.cell? ⟨w.heap.size, 1, none⟩ = some (.int .i64 (g1 : Nat)) ∧ w'.cell? ⟨w.heap.size + 1, 0, none⟩ = some (.pointer (some ⟨n2, 0, none⟩)) ∧ w'.cell? ⟨w.heap.size + 1, 1, none⟩ = some (.int .i64 (g2 : Nat)) ∧ w'.cell? (pk.add V) = some (.int .u8 (c : Nat)))
          (first | exact hK.out _ B10.out | exact hK.out _ B9.out | exact hK.out _ B8.out | exact hK.out _ hB0.out.drew)
          (first
            | (have g0 := B9; go_at_call 69; refine (HSh.out _ (BW7.out.trans (B9.out.mono BW7.out.size))).mono ?_; rintro e w10 ⟨rfl, z10⟩; have B10 := Lib.hid (B9.out.trans (z10.mono B9.out.size)); clear z10)
            | (have g0 := B8; go_at_call 113; refine (hDb.out _ (BW7.out.trans (B8.out.mono BW7.out.size))).mono ?_; rintro e w9 ⟨rfl, z9⟩; have B9 := Lib.hid (B8.out.trans (z9.mono B8.out.size)); clear z9)
            | (go_at_call 113; refine (HDa.out _ (BW7.out.trans (hB0.out.drew.mono BW7.out.size))).mono ?_; rintro e w8 ⟨rfl, z8⟩; have B8 := Lib.hid (hB0.out.drew.trans (z8.mono hB0.out.drew.size)); clear z8))
        all_goals
          (try simp only [Exit.then, Exit.inBlock])
          go_wp2_with fail
          go_ret
          exact ⟨rfl, T2.out.trans ((B7.out.trans (B10.out.mono B7.out.size)).mono T2.out.size)⟩

    · have j1 : ¬ (V : Int) < (m1 : Int) := by omega
      have he1 : V = m1 := by omega
      by_cases h2 : V < m2
      · have j2 : (V : Int) < (m2 : Int) := by omega
        have he2 : True := trivial
        have hVl : V < (bs2.drop g2).length := by rw [← hln2.out]; exact h2
        obtain ⟨pk, rfl, r1, r2⟩ := E6.out.at_.2 V hVl
        have hc : (bs2.drop g2).getD V 0 < 256 := by
          rw [List.getD_eq_getElem?_getD, List.getElem?_eq_getElem hVl]
          exact E6.out.at_.1 _ (List.getElem_mem _)
        obtain ⟨c, ec⟩ : ∃ c, c = (bs2.drop g2).getD V 0 := ⟨_, rfl⟩
        rw [← ec] at r2 hc
        obtain ⟨kv, k1, k2⟩ := HL.out c hc
        have hDa := hK1.out c kv he1 k1
        have hDb' := hd2.out c V rfl h2
        have hSh := fun X hb => k2 X (g2 + V + 1) hb (hgv2.out h2)
        obtain ⟨y, ey⟩ : ∃ z, z = g2 + V + 1 := ⟨_, rfl⟩
        rw [← ey] at hDb' hSh
        have hDb := Lib.hid hDb'
        clear hDb'
        have HDa := Lib.hid hDa
        have HSh := Lib.hid hSh
        have hK : Hid (∀ X, Below w7.heap.size w7 X → X.cell? ⟨w.heap.size, 0, none⟩ = some (.pointer (some ⟨n1, 0, none⟩)) ∧ X.cell? ⟨w.heap.size, 1, none⟩ = some (.int .i64 (g1 : Nat)) ∧ X.cell? ⟨w.heap.size + 1, 0, none⟩ = some (.pointer (some ⟨n2, 0, none⟩)) ∧ X.cell? ⟨w.heap.size + 1, 1, none⟩ = some (.int .i64 (g2 : Nat)) ∧ X.cell? (pk.add V) = some (.int .u8 (c : Nat))) := fun X hb => by
          obtain ⟨p0, p1, p2, p3⟩ := hall.out X (B7.out.trans (hb.mono B7.out.size))
          exact ⟨p0, p1, p2, p3, (hb.cell r1).trans r2⟩
        have hB0 : Hid (Below w7.heap.size w7 w7) := Below.refl _ _
        obtain ⟨p0, p1, p2, p3, p4⟩ := hK.out w7 hB0.out
        have l0 : (0 : Int) ≤ (V : Int) := by omega
        clear hDa hSh k1 k2 hc ec ey r1 r2 hVl he1 he2
        go_wp2_with fail
        go_region_held3 (fun w' => w'.cell? ⟨w.heap.size, 0, none⟩ = some (.pointer (some ⟨n1, 0, none⟩)) ∧ w'.cell? ⟨w.heap.size, 1, none⟩ = some (.int .i64 (g1 : Nat)) ∧ w'.cell? ⟨w.heap.size + 1, 0, none⟩ = some (.pointer (some ⟨n2, 0, none⟩)) ∧ w'.cell? ⟨w.heap.size + 1, 1, none⟩ = some (.int .i64 (g2 : Nat)) ∧ w'.cell? (pk.add V) = some (.int .u8 (c : Nat)))
          (first | exact hK.out _ B10.out | exact hK.out _ B9.out | exact hK.out _ B8.out | exact hK.out _ hB0.out.drew)
          (first
            | (have g0 := B9; go_at_call 69; refine (HSh.out _ (BW7.out.trans (B9.out.mono BW7.out.size))).mono ?_; rintro e w10 ⟨rfl, z10⟩; have B10 := Lib.hid (B9.out.trans (z10.mono B9.out.size)); clear z10)
            | (have g0 := B8; go_at_call 113; refine (hDb.out _ (BW7.out.trans (B8.out.mono BW7.out.size))).mono ?_; rintro e w9 ⟨rfl, z9⟩; have B9 := Lib.hid (B8.out.trans (z9.mono B8.out.size)); clear z9)
            | (go_at_call 113; refine (HDa.out _ (BW7.out.trans (hB0.out.drew.mono BW7.out.size))).mono ?_; rintro e w8 ⟨rfl, z8⟩; have B8 := Lib.hid (hB0.out.drew.trans (z8.mono hB0.out.drew.size)); clear z8))
        all_goals
          (try simp only [Exit.then, Exit.inBlock])
          go_wp2_with fail
          go_ret
          exact ⟨rfl, T2.out.trans ((B7.out.trans (B10.out.mono B7.out.size)).mono T2.out.size)⟩

      · have j2 : ¬ (V : Int) < (m2 : Int) := by omega
        clear he1 h1 h2 E5 E6 HL hd1 hd2 hK1 hK2 hgv1 hgv2
        obtain ⟨p0, p1, p2, p3⟩ := hall.out w7 B7.out
        have hN0 : Hid (∀ X, Below wb.heap.size wb X → Calls Try.prog 11 #[.pointer (some ⟨n1, 0, none⟩), .int .i64 0] X fun e w' => e = .returned (.tuple #[.int .u8 (hdB kk.1 : Nat), hdK kk.1]) ∧ Below X.heap.size X w') := fun X hb => by
          have := HNx.out X 0 hb (by omega) (by omega)
          rw [HX0.out, stepV_head] at this
          exact this
        go_wp2_with (first
          | (go_at_call 11; refine (hN0.out _ BW7.out).mono ?_; rintro e w8 ⟨rfl, z8⟩
             have B8 := Lib.hid (B7.out.trans (z8.mono B7.out.size))
             clear z8))
        go_loopw [8, 9, 10] (fun v8 v9 v10 wr => ∃ (r : Tr) (A lr : KV), v8 = .int .i64 0 ∧ v9 = .int .u8 (hdB lr : Nat) ∧ v10 = hdK lr ∧ Hid (tdep r ≤ tdep kk.2) ∧ Hid (Kids Q kk.1 kk.2 r A lr) ∧ Hid (Below W2.heap.size W2 wr)) (fun _ v9 v10 _ => match v10 with | .pointer none => 0 | _ => 256 - (intOf v9).toNat)
        case atStart => exact ⟨kk.2, [], kk.1, rfl, rfl, rfl, Nat.le_refl _, hstart, B8⟩
        case round =>
          clear p0 p1 p2 p3 hN0 B8 hstart B7 BW7 HX0
          obtain ⟨r, A, lr, rfl, rfl, rfl, hdr, hKd, hBr⟩ := hrel
          obtain ⟨p0, p1, p2, p3⟩ := hall.out wr hBr.out
          by_cases hl : lr = []
          · subst hl
            rw [show hdK ([] : KV) = .pointer none from rfl]
            go_wp2_with fail
            go_ret
            exact ⟨rfl, T2.out.trans (hBr.out.mono T2.out.size)⟩
          · obtain ⟨b', t, r', x, lr', rfl, rfl, hb1, hx1, hb256, ⟨k, rfl⟩, hTV, hIN, hOk, hnext, hkn⟩ := hKd.out.next hl
            rw [hb1, hx1]
            obtain ⟨kv, k1, _, k3⟩ := HR.out b' hb256
            have hdt : tdep t ≤ tdep kk.2 := by have h2 := hdr.out; simp only [tdep] at h2; omega
            have hSh : Hid (∀ X, Below wb.heap.size wb X → Calls Try.prog 69 #[.agg #[.pointer (some ⟨k, 0, none⟩), .int .i64 0], .agg #[.pointer kv, .int .i64 0]] X (belowPost (.int .i64 0) X)) := fun X hb => k3 X t k hb hIN hTV hOk hdt
            have hKd2 := Lib.hid k1
            have hd2 : Hid (tdep r' ≤ tdep kk.2) := by show _ ≤ _; have h2 := hdr.out; simp only [tdep] at h2; omega
            have hN2 : Hid (∀ X, Below wb.heap.size wb X → Calls Try.prog 11 #[.pointer (some ⟨n1, 0, none⟩), .int .i64 ((b' + 1 : Nat) : Int)] X fun e w' => e = .returned (.tuple #[.int .u8 (hdB lr' : Nat), hdK lr']) ∧ Below X.heap.size X w') := fun X hb' => by
              have := HNx.out X ((b' + 1 : Nat) : Int) hb' (by omega) (by omega)
              rw [show (((b' + 1 : Nat) : Int)) = (b' : Int) + 1 by omega, hkn, stepV_head] at this
              exact this
            have hK2 := Lib.hid hnext
            have hwb : IntKind.i64.wrap ((b' : Int) + 1) = ((b' + 1 : Nat) : Int) := by rw [show (b' : Int) + 1 = ((b' + 1 : Nat) : Int) by omega]; exact IntWalk.i64_in _ (by omega)
            have hwc : IntKind.i64.wrap (b' : Int) = (b' : Int) := IntWalk.i64_in _ (by omega)
            have hms := Lib.hid (kids_rise hnext hb256)
            have BWr := Lib.hid (BW.out.trans (hBr.out.mono BW.out.size))
            clear hTV hIN hOk hnext hkn hKd hl hb1 hx1 hdr k1 k3 hdt
            go_wp2_with (first
              | (have g0 := BW9; go_at_call 11; refine (hN2.out _ BW9.out).mono ?_; rintro e w10 ⟨rfl, z10⟩
                 have B10 := Lib.hid (B9.out.trans (z10.mono B9.out.size))
                 clear z10)
              | (have g0 := B8; go_at_call 69; refine (hSh.out _ (BW.out.trans (B8.out.mono BW.out.size))).mono ?_; rintro e w9 ⟨rfl, z9⟩
                 have B9 := Lib.hid (B8.out.trans (z9.mono B8.out.size))
                 have BW9 := Lib.hid (BW.out.trans (B9.out.mono BW.out.size))
                 obtain ⟨p0, p1, p2, p3⟩ := hall.out w9 B9.out
                 clear z9)
              | (go_at_call 13; refine (hKd2.out _ BWr.out).mono ?_; rintro e w8 ⟨rfl, z8⟩
                 have B8 := Lib.hid (hBr.out.trans (z8.mono hBr.out.size))
                 clear z8))
            go_roundw
            case rel => exact ⟨r', A ++ [(b', .pointer (some ⟨k, 0, none⟩))], lr', rfl, rfl, rfl, hd2, hK2, B10⟩
            case measure =>
              cases lr' with
              | nil => simp [hdK, hdB, intOf]; omega
              | cons y l => have := hms.out y (by simp); simp [hdK, hdB, intOf]; split <;> omega
end Go.Proofs.Ytgijnjdcpipfiaa
/- The statements KidsKind and KidsNobody: their walks. -/
namespace Go.Proofs.Ytgijnjdcpipfiaa
open Go.RowKit
theorem refKind_any (n : Int) (w : World) : Calls Try.prog 8 #[.int .i64 n] w fun e w' => e = .returned (.int .i64 (kindZ n)) ∧ w = w' := by
  obtain ⟨K, HK⟩ : ∃ K, Hid (kindZ n = K) := ⟨_, rfl⟩
  rw [HK.out]
  by_cases h0 : n < 0
  · have hR : Hid (K = 0) := by show _ = _; rw [← HK.out]; unfold kindZ; rw [if_pos h0]
    go_enter Try.func8, Try.ntmps8
    go_wp2_with fail
    go_ret
    exact ⟨by rw [hR.out]; rfl, rfl⟩
  · by_cases h5 : 256 < n
    · have hR : Hid (K = 0) := by show _ = _; rw [← HK.out]; unfold kindZ; rw [if_neg h0, if_neg (by omega), if_neg (by omega), if_neg (by omega), if_neg (by omega)]
      go_enter Try.func8, Try.ntmps8
      go_wp2_with fail
      go_ret
      exact ⟨by rw [hR.out]; rfl, rfl⟩
    · by_cases h1 : n ≤ 4
      · have hR : Hid (K = 4) := by show _ = _; rw [← HK.out]; unfold kindZ; rw [if_neg h0, if_pos h1]
        go_enter Try.func8, Try.ntmps8
        go_wp2_with fail
        go_ret
        exact ⟨by rw [hR.out]; rfl, rfl⟩
      · by_cases h2 : n ≤ 16
        · have hR : Hid (K = 16) := by show _ = _; rw [← HK.out]; unfold kindZ; rw [if_neg h0, if_neg h1, if_pos h2]
          go_enter Try.func8, Try.ntmps8
          go_wp2_with fail
          go_ret
          exact ⟨by rw [hR.out]; rfl, rfl⟩
        · by_cases h3 : n ≤ 48
          · have hR : Hid (K = 48) := by show _ = _; rw [← HK.out]; unfold kindZ; rw [if_neg h0, if_neg h1, if_neg h2, if_pos h3]
            go_enter Try.func8, Try.ntmps8
            go_wp2_with fail
            go_ret
            exact ⟨by rw [hR.out]; rfl, rfl⟩
          · have hR : Hid (K = 256) := by show _ = _; rw [← HK.out]; unfold kindZ; rw [if_neg h0, if_neg h1, if_neg h2, if_neg h3, if_pos (by omega)]
            go_enter Try.func8, Try.ntmps8
            go_wp2_with fail
            go_ret
            exact ⟨by rw [hR.out]; rfl, rfl⟩
theorem kindZ_facts (n : Int) : (kindZ n = 0 ∨ 4 ≤ kindZ n ∧ n ≤ kindZ n ∧ kindZ (kindZ n) = kindZ n) ∧ ∀ L : Int, L = 4 ∨ L = 16 ∨ L = 48 → n < 0 ∨ (0 ≤ n ∧ L < n) ∨ (0 ≤ n ∧ n ≤ L ∧ kindZ n ≤ L) := by
  have key : kindZ n = 0 ∧ (n < 0 ∨ 256 < n) ∨ 0 ≤ n ∧ (kindZ n = 4 ∧ n ≤ 4 ∨ kindZ n = 16 ∧ n ≤ 16 ∧ 4 < n ∨ kindZ n = 48 ∧ n ≤ 48 ∧ 16 < n ∨ kindZ n = 256 ∧ n ≤ 256 ∧ 48 < n) := by
    unfold kindZ
    by_cases h0 : n < 0
    · rw [if_pos h0]; omega
    · by_cases h1 : n ≤ 4
      · rw [if_neg h0, if_pos h1]; omega
      · by_cases h2 : n ≤ 16
        · rw [if_neg h0, if_neg h1, if_pos h2]; omega
        · by_cases h3 : n ≤ 48
          · rw [if_neg h0, if_neg h1, if_neg h2, if_pos h3]; omega
          · by_cases h4 : n ≤ 256
            · rw [if_neg h0, if_neg h1, if_neg h2, if_neg h3, if_pos h4]; omega
            · rw [if_neg h0, if_neg h1, if_neg h2, if_neg h3, if_neg h4]; omega
  constructor
  · rcases key with ⟨h, _⟩ | ⟨_, ⟨h, _⟩ | ⟨h, _⟩ | ⟨h, _⟩ | ⟨h, _⟩⟩ <;> rw [h]
    · exact Or.inl rfl
    all_goals exact Or.inr ⟨by omega, by omega, rfl⟩
  · rintro L (rfl | rfl | rfl) <;> omega
set_option maxHeartbeats 1000000 in
theorem KidsKind_any (n : Int) (w : World) : Calls Try.prog 3 #[.int .i64 n] w (LawPost w) := by
  have hk1 := fun n w => Lib.hid (kindOf_any n w)
  have hk2 := fun n w => Lib.hid (refKind_any n w)
  obtain ⟨f1, f2⟩ := kindZ_facts n
  have hk3 : ∀ w, Hid (Calls Try.prog 7 #[.int .i64 (kindZ n)] w fun e w' => e = .returned (.int .i64 (kindZ (kindZ n))) ∧ w = w') := fun w => kindOf_any _ w
  generalize hK : kindZ n = K at *
  have HK := Lib.hid hK
  clear hK
  have F1 := Lib.hid f1
  have F2 := Lib.hid f2
  have hal := Lib.hid (fun w => alive_any w)
  have f4 := F2.out 4 (Or.inl rfl)
  have f16 := F2.out 16 (Or.inr (Or.inl rfl))
  have f48 := F2.out 48 (Or.inr (Or.inr rfl))
  have G4 := Lib.hid f4
  have G16 := Lib.hid f16
  have G48 := Lib.hid f48
  clear f1 f2 f4 f16 f48
  have lawEnd : Hid (∀ w', Below (w.alloc (.cells #[.int .i64 4, .int .i64 16, .int .i64 48] 3)).heap.size (w.alloc (.cells #[.int .i64 4, .int .i64 16, .int .i64 48] 3)) w' → Below w.heap.size w w') := fun w' q => ((Below.refl _ w).alloc (Nat.le_refl _) _).trans (q.mono (by simp))
  go_enter Try.func3, Try.ntmps3
  go_wp2_with (first | (go_at_call 7; refine (hk1 _ _).out.mono ?_; rintro e w' ⟨rfl, rfl⟩; rw [HK.out]) | (go_at_call 8; refine (hk2 _ _).out.mono ?_; rintro e w' ⟨rfl, rfl⟩; rw [HK.out]))
  go_loop [14] (fun vi => ∃ j : Nat, vi = .int .i64 (j : Nat) ∧ j ≤ 3) (fun vi => (3 - intOf vi).toNat)
  case atStart => exact ⟨0, rfl, by omega⟩
  case round =>
    obtain ⟨j, rfl, hj⟩ := hrel
    have hj4 : j = 0 ∨ j = 1 ∨ j = 2 ∨ j = 3 := by omega
    clear hj
    rcases hj4 with rfl | rfl | rfl | rfl
    · have G := G4.out
      rcases G with G | ⟨G, G'⟩ | ⟨G, G', G''⟩
      all_goals
        go_wp2_with fail
        go_round
        case rel => exact ⟨1, rfl, by omega⟩
        case measure => simp [intOf]
    · have G := G16.out
      rcases G with G | ⟨G, G'⟩ | ⟨G, G', G''⟩
      all_goals
        go_wp2_with fail
        go_round
        case rel => exact ⟨2, rfl, by omega⟩
        case measure => simp [intOf]
    · have G := G48.out
      rcases G with G | ⟨G, G'⟩ | ⟨G, G', G''⟩
      all_goals
        go_wp2_with fail
        go_round
        case rel => exact ⟨3, rfl, by omega⟩
        case measure => simp [intOf]
    · have F := F1.out
      rcases F with rfl | ⟨g1, g2, g3⟩
      · go_wp2_with (first | (go_at_call 9; refine (hal.out _).mono ?_; rintro e w' ⟨rfl, q⟩; have q := Lib.hid q))
        go_ret
        exact ⟨rfl, lawEnd.out _ q.out⟩
      · have g3 := Lib.hid g3
        go_wp2_with (first | (go_at_call 7; refine (hk3 _).out.mono ?_; rintro e w' ⟨rfl, rfl⟩; rw [g3.out]) | (go_at_call 9; refine (hal.out _).mono ?_; rintro e w' ⟨rfl, q⟩; have q := Lib.hid q))
        go_ret
        exact ⟨rfl, lawEnd.out _ q.out⟩
end Go.Proofs.Ytgijnjdcpipfiaa
