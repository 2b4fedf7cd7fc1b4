/- Boards: the calls that make and write. -/
import Derived.Test.YtkonbldjmcccmaaKBoardR
import Derived.WalkSpells
set_option linter.unusedVariables false
set_option linter.unusedSimpArgs false
namespace Go.Proofs.Ytkonbldjmcccmaa
open Go.RowKit

theorem places_nil (rm : Nat) (h : rm = 48 ∨ rm = 256) : Places rm [] (fun _ => 0) [] [] :=
  ⟨fun b _ => by simp [has, pl, lb, KV.keys], fun b _ h => by simp at h, fun b c _ _ h => by simp at h, List.nodup_nil, by simp, rfl, by simp, by simp, h, Srt.nil, (by intro p hp; simp at hp), by simp⟩
theorem has_ins {l : KV} (hs : Srt l) (b : Nat) (x : Value) (c : Nat) : has (kins l b x) c = (decide (c = b) || has l c) := by
  rw [← get_has (hs.ins b x), ← get_has hs, get_ins hs]
  by_cases e : c = b <;> simp [e]
theorem has_del {l : KV} (hs : Srt l) (b : Nat) (c : Nat) : has (kdel l b) c = (!decide (c = b) && has l c) := by
  rw [← get_has (hs.del b), ← get_has hs, get_del hs]
  by_cases e : c = b <;> simp [e]
theorem ins_len {l : KV} (hs : Srt l) {b : Nat} (h : has l b = false) (x : Value) : (kins l b x).length = l.length + 1 := by
  rw [ins_no hs h]; have := pl_le l b; simp; omega
theorem ins_len' {l : KV} (hs : Srt l) {b : Nat} (h : has l b = true) (x : Value) : (kins l b x).length = l.length := by
  rw [ins_yes hs h]; have := (has_yes h).1; simp; omega
theorem del_len {l : KV} (hs : Srt l) {b : Nat} (h : has l b = true) : (kdel l b).length + 1 = l.length := by
  rw [del_yes hs h]; have := (has_yes h).1; simp; omega

section
variable {rm : Nat} {l : KV} {p : Nat → Nat} {xs : List Value} {fs : List Nat}
theorem Places.nz (h : Places rm l p xs fs) {b : Nat} (hb : b < 256) (hh : has l b = true) : p b ≠ 0 := fun e => by have := (h.zero b hb).1 e; rw [hh] at this; simp at this
/-- a thing takes another one's place at the same byte -/
theorem Places.same (h : Places rm l p xs fs) {b : Nat} (hb : b < 256) (hh : has l b = true) (x : Value) (hx : x.oneCell' = true) : Places rm (kins l b x) p (xs.set (p b - 1) x) fs := by
  have h0 := h.nz hb hh
  obtain ⟨h1, h2⟩ := h.at_ b hb h0
  refine ⟨fun c hc => ?_, fun c hc hz => ?_, h.inj, h.fnd, fun q hq => ?_, ?_, ?_, ?_, h.rm_, h.srt.ins b x, h.low.ins hb x, ?_⟩
  · rw [has_ins h.srt]
    by_cases e : c = b
    · subst e; simp [h0]
    · simp [e, h.zero c hc]
  · obtain ⟨k1, k2⟩ := h.at_ c hc hz
    refine ⟨by simpa using k1, ?_⟩
    rw [get_ins h.srt]
    by_cases e : c = b
    · rw [e, if_pos rfl, List.getElem?_set_self (by omega)]
    · have : p b ≠ p c := fun e2 => e (h.inj b c hb hc h0 e2).symm
      rw [List.getElem?_set_ne (by omega), if_neg e, k2]
  · simpa using h.fin q hq
  · rw [ins_len' h.srt hh]; simpa using h.cnt
  · rw [ins_len' h.srt hh]; exact h.le
  · simpa using h.leX
  · intro v hv
    rcases List.mem_or_eq_of_mem_set hv with hv | rfl
    · exact h.one v hv
    · exact hx
/-- a thing comes to a place that nothing stood at -/
theorem Places.fresh (h : Places rm l p xs fs) {b : Nat} (hb : b < 256) (hh : has l b = false) (x : Value) (hx : x.oneCell' = true) {xs' : List Value} {fs' : List Nat} {q : Nat} (hq : q < xs'.length)
    (hxs : ∀ j, j < xs.length → j ≠ q → xs'[j]? = xs[j]?) (hlen : xs'.length = l.length + 1 + fs'.length) (hle : xs.length ≤ xs'.length) (hrm : xs'.length ≤ rm) (hr : l.length < rm) (hnd : fs'.Nodup) (hfs : ∀ y ∈ fs', y ∈ fs ∧ y ≠ q + 1) (hno : ∀ c, c < 256 → p c ≠ q + 1) (hone : ∀ v ∈ xs', v.oneCell' = true) :
    Places rm (kins l b x) (upd p b (q + 1)) (xs'.set q x) fs' := by
  refine ⟨fun c hc => ?_, fun c hc hz => ?_, fun c d hc hd hz he => ?_, hnd, fun y hy => ?_, ?_, ?_, ?_, h.rm_, h.srt.ins b x, h.low.ins hb x, ?_⟩
  · rw [has_ins h.srt]
    unfold upd
    by_cases e : c = b
    · subst e; simp
    · simp [e, h.zero c hc]
  · unfold upd at hz ⊢
    rw [get_ins h.srt]
    by_cases e : c = b
    · subst e; simp [hq]; omega
    · simp only [e, if_false] at hz ⊢
      obtain ⟨k1, k2⟩ := h.at_ c hc hz
      have := hno c hc
      refine ⟨by simp; omega, ?_⟩
      rw [List.getElem?_set_ne (by omega), hxs _ (by omega) (by omega), k2]
  · unfold upd at hz he
    by_cases e : c = b
    · by_cases e2 : d = b
      · rw [e, e2]
      · simp only [e, e2, if_true, if_false] at he
        exact absurd he.symm (hno d hd)
    · by_cases e2 : d = b
      · simp only [e, e2, if_true, if_false] at he
        exact absurd he (hno c hc)
      · simp only [e, e2, if_false] at hz he
        exact h.inj c d hc hd hz he
  · obtain ⟨h1, h2⟩ := hfs y hy
    obtain ⟨k1, k2, k3⟩ := h.fin y h1
    refine ⟨k1, by simp; omega, fun c hc => ?_⟩
    unfold upd
    split
    · omega
    · exact k3 c hc
  · rw [ins_len h.srt hh]; simp; omega
  · rw [ins_len h.srt hh]; omega
  · simpa using hrm
  · intro v hv
    rcases List.mem_or_eq_of_mem_set hv with hv | rfl
    · exact hone v hv
    · exact hx
/-- a thing goes -/
theorem Places.drop (h : Places rm l p xs fs) {b : Nat} (hb : b < 256) (hh : has l b = true) (z : Value) (hz : z.oneCell' = true) : Places rm (kdel l b) (upd p b 0) (xs.set (p b - 1) z) (fs ++ [p b]) := by
  have h0 := h.nz hb hh
  obtain ⟨h1, h2⟩ := h.at_ b hb h0
  have hl := del_len h.srt hh
  refine ⟨fun c hc => ?_, fun c hc hz => ?_, fun c d hc hd hz he => ?_, ?_, fun y hy => ?_, ?_, ?_, ?_, h.rm_, h.srt.del b, h.low.del b, ?_⟩
  · rw [has_del h.srt]
    unfold upd
    by_cases e : c = b
    · subst e; simp
    · simp [e, h.zero c hc]
  · unfold upd at hz ⊢
    rw [get_del h.srt]
    by_cases e : c = b
    · subst e; simp at hz
    · simp only [e, if_false] at hz ⊢
      obtain ⟨k1, k2⟩ := h.at_ c hc hz
      have : p b ≠ p c := fun e2 => e (h.inj b c hb hc h0 e2).symm
      refine ⟨by simpa using k1, ?_⟩
      rw [List.getElem?_set_ne (by omega), k2]
  · unfold upd at hz he
    by_cases e : c = b
    · simp [e] at hz
    · by_cases e2 : d = b
      · simp [e, e2] at hz he; omega
      · simp only [e, e2, if_false] at hz he
        exact h.inj c d hc hd hz he
  · rw [List.nodup_append]
    refine ⟨h.fnd, by simp, fun y hy y' hy' => ?_⟩
    simp at hy'; subst hy'
    exact fun e => (h.fin y hy).2.2 b hb e.symm
  · rcases List.mem_append.1 hy with hy | hy
    · obtain ⟨k1, k2, k3⟩ := h.fin y hy
      refine ⟨k1, by simpa using k2, fun c hc => ?_⟩
      unfold upd
      split
      · omega
      · exact k3 c hc
    · simp at hy; subst hy
      refine ⟨by omega, by simpa using h1, fun c hc => ?_⟩
      unfold upd
      split
      · omega
      · rename_i e
        exact fun e2 => e (h.inj b c hb hc h0 e2.symm).symm
  · have := h.cnt; simp; omega
  · have := h.le; omega
  · simpa using h.leX
  · intro v hv
    rcases List.mem_or_eq_of_mem_set hv with hv | rfl
    · exact h.one v hv
    · exact hz
end
theorem new_cell {S : Nat → Prop} {w w1 : World} {o : Obj} {r : Nat} (hm : Mod S (w.alloc o) w1) (hlt : r < w.heap.size) (hr : ¬ S r) : w1.heap[r]? = w.heap[r]? :=
  (hm.same r (by simp; omega) hr).trans (Below.heap_alloc _ _ _ hlt)
theorem Own.alloc {ty : Nat} {w : World} {v : Value} {xs : List Value} {bo : Option Nat} (h : Own ty w v xs bo) (o : Obj) : Own ty (w.alloc o) v xs bo :=
  h.keep fun g hg => Below.heap_alloc _ _ _ (by subst hg; exact h.lt)
theorem NewOr.of_alloc {w : World} {o : Obj} {a b : Option Nat} (h : NewOr (w.alloc o) a b) : NewOr w a b := by
  rcases h with h | ⟨g, h1, h2⟩
  · exact Or.inl h
  · exact Or.inr ⟨g, h1, by simp at h2; omega⟩
namespace I
def bnewPost (rm : Nat) (w : World) (e : Ending) (w' : World) : Prop := e = .returned (.tuple #[.pointer (some ⟨w.heap.size, 0, none⟩), .int .i64 0]) ∧ BdIs bdT elT u16T w' w.heap.size rm [] (fun _ => 0) (.slice none 0 0) [] none (.slice none 0 0) [] none ∧ Below w.heap.size w w'
set_option maxRecDepth 100000 in
theorem bd_new48 (w : World) : Calls Try.prog 182 #[.int .i64 48] w (bnewPost 48 w) := by
  have hw : bnewPost 48 w (.returned (.tuple #[.pointer (some ⟨w.heap.size, 0, none⟩), .int .i64 0])) (w.alloc (.cells (bdL 48 0 (fun _ => 0) (.slice none 0 0) (.slice none 0 0)).toArray bdT)) :=
    ⟨rfl, ⟨by rw [heap_alloc_new]; rfl, Own.nil _ _, Own.nil _ _, by simp, by simp, by simp, places_nil 48 (Or.inl rfl)⟩, (Below.refl _ _).alloc (Nat.le_refl _) _⟩
  go_enter Try.func182, Try.ntmps182
  go_wp2_with fail
  go_ret2
  exact hw
set_option maxRecDepth 100000 in
theorem bd_new256 (w : World) : Calls Try.prog 182 #[.int .i64 256] w (bnewPost 256 w) := by
  have hw : bnewPost 256 w (.returned (.tuple #[.pointer (some ⟨w.heap.size, 0, none⟩), .int .i64 0])) (w.alloc (.cells (bdL 256 0 (fun _ => 0) (.slice none 0 0) (.slice none 0 0)).toArray bdT)) :=
    ⟨rfl, ⟨by rw [heap_alloc_new]; rfl, Own.nil _ _, Own.nil _ _, by simp, by simp, by simp, places_nil 256 (Or.inr rfl)⟩, (Below.refl _ _).alloc (Nat.le_refl _) _⟩
  go_enter Try.func182, Try.ntmps182
  go_wp2_with fail
  go_ret2
  exact hw
variable {w : World} {r rm : Nat} {l : KV} {p : Nat → Nat} {vx : Value} {xs : List Value} {bx : Option Nat} {vf : Value} {fs : List Nat} {bf : Option Nat}
theorem bd_copy_nil (w : World) : Calls Try.prog 145 #[.pointer none] w fun e w' => e = .returned (.pointer none) ∧ w = w' := by
  go_enter Try.func145, Try.ntmps145
  go_wp2_with (go_at_call 184; refine (bok_nil _).mono ?_; rintro e w' ⟨rfl, rfl⟩)
  go_ret
  exact ⟨rfl, rfl⟩
/-- Set where the byte is there -/
def bsetPost (r rm : Nat) (l : KV) (b : Nat) (x : Value) (S : Nat → Prop) (w : World) (e : Ending) (w' : World) : Prop := e = .returned (.int .i64 0) ∧ ∃ S', BdAt bdT elT u16T w' r rm (kins l b x) S' ∧ Mod S w w' ∧ ∀ k, S' k → S k ∨ w.heap.size ≤ k
set_option maxHeartbeats 1000000 in
set_option maxRecDepth 100000 in
theorem bd_set_is (h : BdIs bdT elT u16T w r rm l p vx xs bx vf fs bf) (b : Nat) (hb : b < 256) (hh : has l b = true) (x : Int) : Calls Try.prog 187 #[.pointer (some ⟨r, 0, none⟩), .int .u8 b, .int .i64 x] w (bsetPost r rm l b (.int .i64 x) (bdS r bx bf) w) := by
  have c0 := h.c0
  have hr := h.r1
  have cA := h.cA b hb
  have hbi : (b : Int) < 256 := by omega
  obtain ⟨g, cap, q, v, e1, e2, e3, e4, e5, e6, e7, e8⟩ := h.here hb hh
  rw [e3, show ((q + 1 : Nat) : Int) = (q : Int) + 1 from by omega] at cA
  have cX := h.cX
  rw [e2] at cX
  have hx : xs.length ≤ 256 := by have := h.pl.leX; have := h.r256; omega
  have hw : ∀ n, Hid (bsetPost r rm l b (.int .i64 x) (bdS r bx bf) w (.returned (.int .i64 0)) ((w.drewN n).setCell ⟨g, q, none⟩ (.int .i64 x))) := fun n => by
    have hp := h.pl.same hb hh (.int .i64 x) rfl
    rw [show p b - 1 = q from by omega] at hp
    have hgr : g ≠ r := fun e => h.neX (by rw [e1, e])
    have hfg : bf ≠ some g := h.neXF g e1
    refine ⟨rfl, _, ⟨p, vx, _, bx, vf, fs, bf, ⟨?_, ?_, ?_, h.neX, h.neF, h.neXF, hp⟩, rfl⟩, ((Mod.refl _ w).drewN n).setCell _ _ (fun _ => Or.inr (Or.inl e1)), fun k hk => Or.inl hk⟩
    · rw [Below.heap_setCell _ _ _ _ (fun e => hgr e.symm), ins_len' h.pl.srt hh]; exact h.blk
    · have ho := h.ownX
      rw [e1] at ho ⊢
      exact (ho.keep (w' := w.drewN n) fun _ _ => rfl).set q (.int .i64 x)
    · exact h.ownF.keep fun g' e => Below.heap_setCell _ _ _ _ (fun e' => hfg (by rw [e, e']))
  generalize xs.length = k at *
  have hq0 : ((q : Int) + 1 == 0) = false := beq_eq_false_iff_ne.mpr (by omega)
  have hq1 : (q : Int) < (k : Int) := by omega
  have hq2 : (q : Int) ≤ 256 := by omega
  clear h hh e1 e2 e3 e7
  go_enter Try.func187, Try.ntmps187
  go_wp2_with (go_at_call 184; refine (bok_yes _ _ _ c0 hr).mono ?_; rintro e w' ⟨rfl, rfl⟩)
  go_quiet (fail)
  go_wp2_with fail
  have k1 : IntKind.u16.wrap ((q : Int) + 1 - 1) = (q : Int) := by rw [IntWalk.u16_in _ (by omega)]; omega
  go_region
  go_wp2_with fail
  go_ret
  exact (hw _).out
set_option maxHeartbeats 1000000 in
set_option maxRecDepth 100000 in
theorem bd_set_full (h : BdIs bdT elT u16T w r rm l p vx xs bx vf fs bf) (b : Nat) (hb : b < 256) (hh : has l b = false) (hf : l.length = rm) (x : Int) : Calls Try.prog 187 #[.pointer (some ⟨r, 0, none⟩), .int .u8 b, .int .i64 x] w fun e w' => e = .returned (.int .i64 10) ∧ ∃ n, w' = w.drewN n := by
  have c0 := h.c0
  have c1 := h.c1
  rw [hf] at c1
  have hr := h.r1
  have cA := h.cA b hb
  rw [(h.pl.zero b hb).2 hh] at cA
  have cA' : w.cell? ⟨r, 2 + b, none⟩ = some (.int .u16 0) := cA
  have hbi : (b : Int) < 256 := by omega
  clear h hh cA hf
  go_enter Try.func187, Try.ntmps187
  go_wp2_with (go_at_call 184; refine (bok_yes _ _ _ c0 hr).mono ?_; rintro e w' ⟨rfl, rfl⟩)
  go_quiet (fail)
  go_wp2_with fail
  go_ret
  exact ⟨rfl, _, rfl⟩
/-- what place tells and does: a free place is taken again -/
def placeFree (r q : Nat) (fs : List Nat) (bf : Option Nat) (w : World) (e : Ending) (w' : World) : Prop := e = .returned (.int .u16 (q : Nat)) ∧ ∃ vf', w' = w.setCell ⟨r, 259, none⟩ vf' ∧ Own u16T w vf' (fsV fs) bf
set_option maxRecDepth 100000 in
theorem bd_place_free {q : Nat} (h : BdIs bdT elT u16T w r rm l p vx xs bx vf (fs ++ [q]) bf) : Calls Try.prog 206 #[.pointer (some ⟨r, 0, none⟩)] w (placeFree r q fs bf w) := by
  have hl : (fsV (fs ++ [q])).length = fs.length + 1 := by simp [fsV]
  obtain ⟨g, cap, e1, e2, e3, e4, e5⟩ := h.ownF.at_ (j := fs.length) (by omega)
  have e6 : (fsV (fs ++ [q]))[fs.length]'(by omega) = .int .u16 (q : Nat) := by simp [fsV]
  rw [e6] at e3
  have cF := h.cF
  rw [e2, hl] at cF
  have hfr := frozen_of_blk h.blk 259
  have hw : placeFree r q fs bf w (.returned (.int .u16 (q : Nat))) (w.setCell ⟨r, 259, none⟩ (.slice (some ⟨g, 0, none⟩) fs.length cap)) := by
    refine ⟨rfl, _, rfl, ?_⟩
    have ho := h.ownF
    rw [e1] at ho ⊢
    have := ho.take e2 (n := fs.length) (by omega)
    rw [show (fsV (fs ++ [q])).take fs.length = fsV fs from by simp [fsV, List.take_append]] at this
    exact this
  have hk : fs.length ≤ 256 := by have := h.pl.cnt; have := h.pl.leX; have := h.r256; simp at *; omega
  have hcap : fs.length + 1 ≤ cap := by omega
  clear h hl e1 e2 e5 e6
  generalize fs.length = k at *
  have hq : (k : Int) ≤ 256 := by omega
  have hq2 : (k : Int) + 1 ≤ cap := by omega
  have hq3 : (k : Int) ≤ cap := by omega
  go_enter Try.func206, Try.ntmps206
  go_wp2_with fail
  go_ret
  exact hw
/-- .. a new place is made -/
def placeNew (r : Nat) (xs : List Value) (bx : Option Nat) (w : World) (e : Ending) (w' : World) : Prop := e = .returned (.int .u16 ((xs.length : Int) + 1)) ∧ ∃ vx' w1 bx', w' = w1.setCell ⟨r, 258, none⟩ vx' ∧ Own elT w1 vx' (xs ++ [(.int .i64 0)]) bx' ∧ Mod (fun k => bx = some k) w w1 ∧ NewOr w bx bx'
theorem infoEl : (Try.prog.info? elT).map (fun i => (i.zero, i.size, i.bytes)) = some (some (.int .i64 0), 1, 8) := by kernel_rfl
theorem infoU : (Try.prog.info? u16T).map (fun i => (i.zero, i.size, i.bytes)) = some (some (.int .u16 0), 1, 2) := by kernel_rfl
theorem underU : Try.prog.underlying 186 = some (.slice u16T) := by kernel_rfl
set_option maxHeartbeats 1000000 in
set_option maxRecDepth 100000 in
theorem bd_place_new (h : BdIs bdT elT u16T w r rm l p vx xs bx vf [] bf) : Calls Try.prog 206 #[.pointer (some ⟨r, 0, none⟩)] w (placeNew r xs bx w) := by
  have cX := h.cX
  have cF := h.cF
  obtain ⟨af, cf, hvf⟩ := h.ownF.len
  rw [hvf] at cF
  have cF' : w.cell? ⟨r, 259, none⟩ = some (.slice af 0 cf) := cF
  have hlt := h.lt
  have ho := Lib.hid h.ownX
  have hk : xs.length ≤ 256 := by have := h.pl.leX; have := h.r256; omega
  obtain ⟨ax, cx, hvx⟩ := h.ownX.len
  have hne := Lib.hid h.neX
  have hfr := frozen_of_blk h.blk 258
  have hb1 : Hid (xs.length + 1 ≤ maxLen) := by show _ ≤ _; simp only [maxLen]; omega
  have hb2 : Hid ((xs.length + 1) * 8 ≤ 140737488355328) := by show _ ≤ _; omega
  have Hk := Lib.hid hk
  have hone : Hid (∀ u ∈ ([(.int .i64 0)] : List Value), u.oneCell' = true) := by intro u hu; simp at hu; rw [hu]; rfl
  rw [hvx] at cX ho
  clear h hvf cF hvx hk
  go_enter Try.func206, Try.ntmps206
  go_wp2_with (at_builtin; go_loud (refine wpList_append_at rfl (.tmp 36) (.tmp 38) 23 rfl elT (.int .i64 0) 8 underX infoEl rfl _ rfl xs bx (ho.out.alloc _) ⟨w.heap.size, 0, none⟩ 1 1 [(.int .i64 0)] rfl rfl (cell_one_new _ _ _) hone.out hb1.out hb2.out ?_); intro v1 w1 bo1 HO HM HN; obtain ⟨a1, c1, rfl⟩ := HO.out.len; have hh := Lib.hid (new_cell HM.out hlt hne.out); have hc1 := (World.cell?_of_block (a := ⟨r, 258, none⟩) hh.out).trans cX; have hf1 := (World.frozen?_of_block (a := ⟨r, 258, none⟩) hh.out).trans hfr)
  go_ret
  exact ⟨congrArg (fun z => Ending.returned (Value.int .u16 z)) (IntWalk.u16_in _ (by have := Hk.out; omega)), _, w1, bo1, rfl, (by have := HO.out; rw [List.length_append] at this; exact this), ((Mod.refl _ w).alloc _).trans HM.out, HN.out.of_alloc⟩
theorem bset_free {q : Nat} (h : BdIs bdT elT u16T w r rm l p vx xs bx vf (fs ++ [q + 1]) bf) (b : Nat) (hb : b < 256) (hh : has l b = false) (hr : l.length < rm) (x : Int) (g cap : Nat) (e1 : bx = some g) (n : Nat) (vf' : Value) (hf : Own u16T w vf' (fsV fs) bf) :
    bsetPost r rm l b (.int .i64 x) (bdS r bx bf) w (.returned (.int .i64 0)) (((((w.setCell ⟨r, 259, none⟩ vf').setCell ⟨r, 2 + b, none⟩ (.int .u16 ((q + 1 : Nat) : Int))).setCell ⟨r, 1, none⟩ (.int .i64 ((l.length + 1 : Nat) : Int))).drewN n).setCell ⟨g, q, none⟩ (.int .i64 x)) := by
  have hgr : g ≠ r := fun e => h.neX (by rw [e1, e])
  have hfg : bf ≠ some g := h.neXF g e1
  have hfin := h.pl.fin (q + 1) (by simp)
  have hp := h.pl.fresh (xs' := xs) (fs' := fs) (q := q) hb hh (.int .i64 x) rfl (by omega) (fun _ _ _ => rfl) (by have := h.pl.cnt; simp at this; omega) (Nat.le_refl _) h.pl.leX hr ((List.nodup_append.1 h.pl.fnd).1)
    (fun y hy => ⟨List.mem_append_left _ hy, fun e => by have := (List.nodup_append.1 h.pl.fnd).2.2 y hy (q + 1) (by simp); exact this e⟩) hfin.2.2 h.pl.one
  have b1 := setCell_list w r 259 _ bdT vf' h.blk
  rw [bdL_setF] at b1
  have k1 := setRow_heap w r _ (bdL rm l.length p vx vf').toArray _ _ h.blk
  rw [← b1] at k1
  have b2 := setCell_list _ r (2 + b) _ bdT (.int .u16 ((q + 1 : Nat) : Int)) k1
  rw [bdL_setA _ _ _ _ _ _ _ hb] at b2
  have k2 := setRow_heap _ r _ (bdL rm l.length (upd p b (q + 1)) vx vf').toArray _ _ k1
  rw [← b2] at k2
  have b3 := setCell_list _ r 1 _ bdT (.int .i64 ((l.length + 1 : Nat) : Int)) k2
  rw [bdL_set1] at b3
  have k3 := setRow_heap _ r _ (bdL rm (l.length + 1) (upd p b (q + 1)) vx vf').toArray _ _ k2
  rw [← b3] at k3
  have kS : ∀ k, k ≠ r → (((w.setCell ⟨r, 259, none⟩ vf').setCell ⟨r, 2 + b, none⟩ (.int .u16 ((q + 1 : Nat) : Int))).setCell ⟨r, 1, none⟩ (.int .i64 ((l.length + 1 : Nat) : Int))).heap[k]? = w.heap[k]? := fun k hk => by
    rw [Below.heap_setCell _ _ _ _ hk, Below.heap_setCell _ _ _ _ hk, Below.heap_setCell _ _ _ _ hk]
  refine ⟨rfl, _, ⟨_, vx, _, bx, vf', fs, bf, ⟨?_, ?_, ?_, h.neX, h.neF, h.neXF, hp⟩, rfl⟩, ?_, fun k hk => Or.inl hk⟩
  · rw [Below.heap_setCell _ _ _ _ (fun e => hgr e.symm), ins_len h.pl.srt hh]
    exact k3
  · have ho := h.ownX
    rw [e1] at ho ⊢
    exact (ho.keep (w' := World.drewN _ n) fun g' e => by cases e; exact kS g hgr).set q (.int .i64 x)
  · exact hf.keep fun g' e => by
      rw [Below.heap_setCell _ _ _ _ (fun e' => hfg (by rw [e, e']))]
      exact kS g' (fun e' => h.neF (by rw [e, e']))
  · exact (((((Mod.refl (bdS r bx bf) w).setCell ⟨r, _, none⟩ _ (fun _ => Or.inl rfl)).setCell ⟨r, _, none⟩ _ (fun _ => Or.inl rfl)).setCell ⟨r, _, none⟩ _ (fun _ => Or.inl rfl)).drewN n).setCell ⟨g, q, none⟩ _ (fun _ => Or.inr (Or.inl e1))
end I

namespace N
def bnewPost (rm : Nat) (w : World) (e : Ending) (w' : World) : Prop := e = .returned (.tuple #[.pointer (some ⟨w.heap.size, 0, none⟩), .int .i64 0]) ∧ BdIs bdT elT u16T w' w.heap.size rm [] (fun _ => 0) (.slice none 0 0) [] none (.slice none 0 0) [] none ∧ Below w.heap.size w w'
set_option maxRecDepth 100000 in
theorem bd_new48 (w : World) : Calls Try.prog 202 #[.int .i64 48] w (bnewPost 48 w) := by
  have hw : bnewPost 48 w (.returned (.tuple #[.pointer (some ⟨w.heap.size, 0, none⟩), .int .i64 0])) (w.alloc (.cells (bdL 48 0 (fun _ => 0) (.slice none 0 0) (.slice none 0 0)).toArray bdT)) :=
    ⟨rfl, ⟨by rw [heap_alloc_new]; rfl, Own.nil _ _, Own.nil _ _, by simp, by simp, by simp, places_nil 48 (Or.inl rfl)⟩, (Below.refl _ _).alloc (Nat.le_refl _) _⟩
  go_enter Try.func202, Try.ntmps202
  go_wp2_with fail
  go_ret2
  exact hw
set_option maxRecDepth 100000 in
theorem bd_new256 (w : World) : Calls Try.prog 202 #[.int .i64 256] w (bnewPost 256 w) := by
  have hw : bnewPost 256 w (.returned (.tuple #[.pointer (some ⟨w.heap.size, 0, none⟩), .int .i64 0])) (w.alloc (.cells (bdL 256 0 (fun _ => 0) (.slice none 0 0) (.slice none 0 0)).toArray bdT)) :=
    ⟨rfl, ⟨by rw [heap_alloc_new]; rfl, Own.nil _ _, Own.nil _ _, by simp, by simp, by simp, places_nil 256 (Or.inr rfl)⟩, (Below.refl _ _).alloc (Nat.le_refl _) _⟩
  go_enter Try.func202, Try.ntmps202
  go_wp2_with fail
  go_ret2
  exact hw
variable {w : World} {r rm : Nat} {l : KV} {p : Nat → Nat} {vx : Value} {xs : List Value} {bx : Option Nat} {vf : Value} {fs : List Nat} {bf : Option Nat}
theorem bd_copy_nil (w : World) : Calls Try.prog 155 #[.pointer none] w fun e w' => e = .returned (.pointer none) ∧ w = w' := by
  go_enter Try.func155, Try.ntmps155
  go_wp2_with (go_at_call 194; refine (bok_nil _).mono ?_; rintro e w' ⟨rfl, rfl⟩)
  go_ret
  exact ⟨rfl, rfl⟩
/-- Set where the byte is there -/
def bsetPost (r rm : Nat) (l : KV) (b : Nat) (x : Value) (S : Nat → Prop) (w : World) (e : Ending) (w' : World) : Prop := e = .returned (.int .i64 0) ∧ ∃ S', BdAt bdT elT u16T w' r rm (kins l b x) S' ∧ Mod S w w' ∧ ∀ k, S' k → S k ∨ w.heap.size ≤ k
set_option maxHeartbeats 1000000 in
set_option maxRecDepth 100000 in
theorem bd_set_is (h : BdIs bdT elT u16T w r rm l p vx xs bx vf fs bf) (b : Nat) (hb : b < 256) (hh : has l b = true) (x : (Option Addr)) : Calls Try.prog 198 #[.pointer (some ⟨r, 0, none⟩), .int .u8 b, .pointer x] w (bsetPost r rm l b (.pointer x) (bdS r bx bf) w) := by
  have c0 := h.c0
  have hr := h.r1
  have cA := h.cA b hb
  have hbi : (b : Int) < 256 := by omega
  obtain ⟨g, cap, q, v, e1, e2, e3, e4, e5, e6, e7, e8⟩ := h.here hb hh
  rw [e3, show ((q + 1 : Nat) : Int) = (q : Int) + 1 from by omega] at cA
  have cX := h.cX
  rw [e2] at cX
  have hx : xs.length ≤ 256 := by have := h.pl.leX; have := h.r256; omega
  have hw : ∀ n, Hid (bsetPost r rm l b (.pointer x) (bdS r bx bf) w (.returned (.int .i64 0)) ((w.drewN n).setCell ⟨g, q, none⟩ (.pointer x))) := fun n => by
    have hp := h.pl.same hb hh (.pointer x) rfl
    rw [show p b - 1 = q from by omega] at hp
    have hgr : g ≠ r := fun e => h.neX (by rw [e1, e])
    have hfg : bf ≠ some g := h.neXF g e1
    refine ⟨rfl, _, ⟨p, vx, _, bx, vf, fs, bf, ⟨?_, ?_, ?_, h.neX, h.neF, h.neXF, hp⟩, rfl⟩, ((Mod.refl _ w).drewN n).setCell _ _ (fun _ => Or.inr (Or.inl e1)), fun k hk => Or.inl hk⟩
    · rw [Below.heap_setCell _ _ _ _ (fun e => hgr e.symm), ins_len' h.pl.srt hh]; exact h.blk
    · have ho := h.ownX
      rw [e1] at ho ⊢
      exact (ho.keep (w' := w.drewN n) fun _ _ => rfl).set q (.pointer x)
    · exact h.ownF.keep fun g' e => Below.heap_setCell _ _ _ _ (fun e' => hfg (by rw [e, e']))
  generalize xs.length = k at *
  have hq0 : ((q : Int) + 1 == 0) = false := beq_eq_false_iff_ne.mpr (by omega)
  have hq1 : (q : Int) < (k : Int) := by omega
  have hq2 : (q : Int) ≤ 256 := by omega
  clear h hh e1 e2 e3 e7
  go_enter Try.func198, Try.ntmps198
  go_wp2_with (go_at_call 194; refine (bok_yes _ _ _ c0 hr).mono ?_; rintro e w' ⟨rfl, rfl⟩)
  go_quiet (fail)
  go_wp2_with fail
  have k1 : IntKind.u16.wrap ((q : Int) + 1 - 1) = (q : Int) := by rw [IntWalk.u16_in _ (by omega)]; omega
  go_region
  go_wp2_with fail
  go_ret
  exact (hw _).out
set_option maxHeartbeats 1000000 in
set_option maxRecDepth 100000 in
theorem bd_set_full (h : BdIs bdT elT u16T w r rm l p vx xs bx vf fs bf) (b : Nat) (hb : b < 256) (hh : has l b = false) (hf : l.length = rm) (x : (Option Addr)) : Calls Try.prog 198 #[.pointer (some ⟨r, 0, none⟩), .int .u8 b, .pointer x] w fun e w' => e = .returned (.int .i64 10) ∧ ∃ n, w' = w.drewN n := by
  have c0 := h.c0
  have c1 := h.c1
  rw [hf] at c1
  have hr := h.r1
  have cA := h.cA b hb
  rw [(h.pl.zero b hb).2 hh] at cA
  have cA' : w.cell? ⟨r, 2 + b, none⟩ = some (.int .u16 0) := cA
  have hbi : (b : Int) < 256 := by omega
  clear h hh cA hf
  go_enter Try.func198, Try.ntmps198
  go_wp2_with (go_at_call 194; refine (bok_yes _ _ _ c0 hr).mono ?_; rintro e w' ⟨rfl, rfl⟩)
  go_quiet (fail)
  go_wp2_with fail
  go_ret
  exact ⟨rfl, _, rfl⟩
/-- what place tells and does: a free place is taken again -/
def placeFree (r q : Nat) (fs : List Nat) (bf : Option Nat) (w : World) (e : Ending) (w' : World) : Prop := e = .returned (.int .u16 (q : Nat)) ∧ ∃ vf', w' = w.setCell ⟨r, 259, none⟩ vf' ∧ Own u16T w vf' (fsV fs) bf
set_option maxRecDepth 100000 in
theorem bd_place_free {q : Nat} (h : BdIs bdT elT u16T w r rm l p vx xs bx vf (fs ++ [q]) bf) : Calls Try.prog 208 #[.pointer (some ⟨r, 0, none⟩)] w (placeFree r q fs bf w) := by
  have hl : (fsV (fs ++ [q])).length = fs.length + 1 := by simp [fsV]
  obtain ⟨g, cap, e1, e2, e3, e4, e5⟩ := h.ownF.at_ (j := fs.length) (by omega)
  have e6 : (fsV (fs ++ [q]))[fs.length]'(by omega) = .int .u16 (q : Nat) := by simp [fsV]
  rw [e6] at e3
  have cF := h.cF
  rw [e2, hl] at cF
  have hfr := frozen_of_blk h.blk 259
  have hw : placeFree r q fs bf w (.returned (.int .u16 (q : Nat))) (w.setCell ⟨r, 259, none⟩ (.slice (some ⟨g, 0, none⟩) fs.length cap)) := by
    refine ⟨rfl, _, rfl, ?_⟩
    have ho := h.ownF
    rw [e1] at ho ⊢
    have := ho.take e2 (n := fs.length) (by omega)
    rw [show (fsV (fs ++ [q])).take fs.length = fsV fs from by simp [fsV, List.take_append]] at this
    exact this
  have hk : fs.length ≤ 256 := by have := h.pl.cnt; have := h.pl.leX; have := h.r256; simp at *; omega
  have hcap : fs.length + 1 ≤ cap := by omega
  clear h hl e1 e2 e5 e6
  generalize fs.length = k at *
  have hq : (k : Int) ≤ 256 := by omega
  have hq2 : (k : Int) + 1 ≤ cap := by omega
  have hq3 : (k : Int) ≤ cap := by omega
  go_enter Try.func208, Try.ntmps208
  go_wp2_with fail
  go_ret
  exact hw
/-- .. a new place is made -/
def placeNew (r : Nat) (xs : List Value) (bx : Option Nat) (w : World) (e : Ending) (w' : World) : Prop := e = .returned (.int .u16 ((xs.length : Int) + 1)) ∧ ∃ vx' w1 bx', w' = w1.setCell ⟨r, 258, none⟩ vx' ∧ Own elT w1 vx' (xs ++ [(.pointer none)]) bx' ∧ Mod (fun k => bx = some k) w w1 ∧ NewOr w bx bx'
theorem infoEl : (Try.prog.info? elT).map (fun i => (i.zero, i.size, i.bytes)) = some (some (.pointer none), 1, 8) := by kernel_rfl
theorem infoU : (Try.prog.info? u16T).map (fun i => (i.zero, i.size, i.bytes)) = some (some (.int .u16 0), 1, 2) := by kernel_rfl
theorem underU : Try.prog.underlying 186 = some (.slice u16T) := by kernel_rfl
set_option maxHeartbeats 1000000 in
set_option maxRecDepth 100000 in
theorem bd_place_new (h : BdIs bdT elT u16T w r rm l p vx xs bx vf [] bf) : Calls Try.prog 208 #[.pointer (some ⟨r, 0, none⟩)] w (placeNew r xs bx w) := by
  have cX := h.cX
  have cF := h.cF
  obtain ⟨af, cf, hvf⟩ := h.ownF.len
  rw [hvf] at cF
  have cF' : w.cell? ⟨r, 259, none⟩ = some (.slice af 0 cf) := cF
  have hlt := h.lt
  have ho := Lib.hid h.ownX
  have hk : xs.length ≤ 256 := by have := h.pl.leX; have := h.r256; omega
  obtain ⟨ax, cx, hvx⟩ := h.ownX.len
  have hne := Lib.hid h.neX
  have hfr := frozen_of_blk h.blk 258
  have hb1 : Hid (xs.length + 1 ≤ maxLen) := by show _ ≤ _; simp only [maxLen]; omega
  have hb2 : Hid ((xs.length + 1) * 8 ≤ 140737488355328) := by show _ ≤ _; omega
  have Hk := Lib.hid hk
  have hone : Hid (∀ u ∈ ([(.pointer none)] : List Value), u.oneCell' = true) := by intro u hu; simp at hu; rw [hu]; rfl
  rw [hvx] at cX ho
  clear h hvf cF hvx hk
  go_enter Try.func208, Try.ntmps208
  go_wp2_with (at_builtin; go_loud (refine wpList_append_at rfl (.tmp 36) (.tmp 38) 196 rfl elT (.pointer none) 8 underX infoEl rfl _ rfl xs bx (ho.out.alloc _) ⟨w.heap.size, 0, none⟩ 1 1 [(.pointer none)] rfl rfl (cell_one_new _ _ _) hone.out hb1.out hb2.out ?_); intro v1 w1 bo1 HO HM HN; obtain ⟨a1, c1, rfl⟩ := HO.out.len; have hh := Lib.hid (new_cell HM.out hlt hne.out); have hc1 := (World.cell?_of_block (a := ⟨r, 258, none⟩) hh.out).trans cX; have hf1 := (World.frozen?_of_block (a := ⟨r, 258, none⟩) hh.out).trans hfr)
  go_ret
  exact ⟨congrArg (fun z => Ending.returned (Value.int .u16 z)) (IntWalk.u16_in _ (by have := Hk.out; omega)), _, w1, bo1, rfl, (by have := HO.out; rw [List.length_append] at this; exact this), ((Mod.refl _ w).alloc _).trans HM.out, HN.out.of_alloc⟩
theorem bset_free {q : Nat} (h : BdIs bdT elT u16T w r rm l p vx xs bx vf (fs ++ [q + 1]) bf) (b : Nat) (hb : b < 256) (hh : has l b = false) (hr : l.length < rm) (x : (Option Addr)) (g cap : Nat) (e1 : bx = some g) (n : Nat) (vf' : Value) (hf : Own u16T w vf' (fsV fs) bf) :
    bsetPost r rm l b (.pointer x) (bdS r bx bf) w (.returned (.int .i64 0)) (((((w.setCell ⟨r, 259, none⟩ vf').setCell ⟨r, 2 + b, none⟩ (.int .u16 ((q + 1 : Nat) : Int))).setCell ⟨r, 1, none⟩ (.int .i64 ((l.length + 1 : Nat) : Int))).drewN n).setCell ⟨g, q, none⟩ (.pointer x)) := by
  have hgr : g ≠ r := fun e => h.neX (by rw [e1, e])
  have hfg : bf ≠ some g := h.neXF g e1
  have hfin := h.pl.fin (q + 1) (by simp)
  have hp := h.pl.fresh (xs' := xs) (fs' := fs) (q := q) hb hh (.pointer x) rfl (by omega) (fun _ _ _ => rfl) (by have := h.pl.cnt; simp at this; omega) (Nat.le_refl _) h.pl.leX hr ((List.nodup_append.1 h.pl.fnd).1)
    (fun y hy => ⟨List.mem_append_left _ hy, fun e => by have := (List.nodup_append.1 h.pl.fnd).2.2 y hy (q + 1) (by simp); exact this e⟩) hfin.2.2 h.pl.one
  have b1 := setCell_list w r 259 _ bdT vf' h.blk
  rw [bdL_setF] at b1
  have k1 := setRow_heap w r _ (bdL rm l.length p vx vf').toArray _ _ h.blk
  rw [← b1] at k1
  have b2 := setCell_list _ r (2 + b) _ bdT (.int .u16 ((q + 1 : Nat) : Int)) k1
  rw [bdL_setA _ _ _ _ _ _ _ hb] at b2
  have k2 := setRow_heap _ r _ (bdL rm l.length (upd p b (q + 1)) vx vf').toArray _ _ k1
  rw [← b2] at k2
  have b3 := setCell_list _ r 1 _ bdT (.int .i64 ((l.length + 1 : Nat) : Int)) k2
  rw [bdL_set1] at b3
  have k3 := setRow_heap _ r _ (bdL rm (l.length + 1) (upd p b (q + 1)) vx vf').toArray _ _ k2
  rw [← b3] at k3
  have kS : ∀ k, k ≠ r → (((w.setCell ⟨r, 259, none⟩ vf').setCell ⟨r, 2 + b, none⟩ (.int .u16 ((q + 1 : Nat) : Int))).setCell ⟨r, 1, none⟩ (.int .i64 ((l.length + 1 : Nat) : Int))).heap[k]? = w.heap[k]? := fun k hk => by
    rw [Below.heap_setCell _ _ _ _ hk, Below.heap_setCell _ _ _ _ hk, Below.heap_setCell _ _ _ _ hk]
  refine ⟨rfl, _, ⟨_, vx, _, bx, vf', fs, bf, ⟨?_, ?_, ?_, h.neX, h.neF, h.neXF, hp⟩, rfl⟩, ?_, fun k hk => Or.inl hk⟩
  · rw [Below.heap_setCell _ _ _ _ (fun e => hgr e.symm), ins_len h.pl.srt hh]
    exact k3
  · have ho := h.ownX
    rw [e1] at ho ⊢
    exact (ho.keep (w' := World.drewN _ n) fun g' e => by cases e; exact kS g hgr).set q (.pointer x)
  · exact hf.keep fun g' e => by
      rw [Below.heap_setCell _ _ _ _ (fun e' => hfg (by rw [e, e']))]
      exact kS g' (fun e' => h.neF (by rw [e, e']))
  · exact (((((Mod.refl (bdS r bx bf) w).setCell ⟨r, _, none⟩ _ (fun _ => Or.inl rfl)).setCell ⟨r, _, none⟩ _ (fun _ => Or.inl rfl)).setCell ⟨r, _, none⟩ _ (fun _ => Or.inl rfl)).drewN n).setCell ⟨g, q, none⟩ _ (fun _ => Or.inr (Or.inl e1))
end N
end Go.Proofs.Ytkonbldjmcccmaa
