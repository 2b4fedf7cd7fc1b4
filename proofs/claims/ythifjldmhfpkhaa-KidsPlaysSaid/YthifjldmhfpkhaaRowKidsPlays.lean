/- The statement KidsPlays (spunyarnlaw11): for every input the law returns true and changes nothing that was there. No condition. -/
import Derived.Test.YthifjldmhfpkhaaKLawR
import Derived.Test.YthifjldmhfpkhaaKBytes
import Derived.Test.YthifjldmhfpkhaaRows
import Derived.WalkKit
import Derived.ProofKit
import Derived.OpenShut
import Derived.ShutString
import Derived.ChangeOld
import Derived.Below
import Derived.Lib.SmallJoins
import Derived.Deep.Slices
namespace Go.Proofs.Ythifjldmhfpkhaa.kidsPlays
open Go.ChangeShapes Go.WideShapes Go.ChangeAt Go.RowKit
open Go.ChangeMaps (open_string shut_string)
set_option linter.unusedVariables false

theorem own : ownKnob Try.prog.godebug = none := by kernel_rfl
theorem laidOut : laidOutB Try.prog = true := by kernel_rfl

theorem list4 {α : Type} {l : List α} (h : l.length = 4) : ∃ a b c d, l = [a, b, c, d] := by
  match l, h with
  | [a, b, c, d], _ => exact ⟨a, b, c, d, rfl⟩
set_option maxRecDepth 100000 in
theorem open_steps {H : Type} {enc : TypeId × Value → H} {w : World} {held : Bool} {fuel : Nat} {cs : List Value} {x : DataW H × List MemPlace} (h : DataW.trod enc Try.prog w 0 (fun _ => true) held fuel 38 cs = some x) :
    ∃ a n c, cs = [.slice a n c] ∧ n ≤ c ∧ c ≤ maxLen ∧ StepsAt w a n := by
  rcases Deep.open_slice Try.underlying38 h with ⟨rfl, _⟩ | ⟨a, len, cap, m, n, D, Pl, rfl, _, hl, hm, hmm, _, hx⟩
  · exact ⟨none, 0, 0, rfl, Nat.le_refl _, Nat.zero_le _, fun i hi => absurd hi (Nat.not_lt_zero i)⟩
  · refine ⟨some a, len, cap, rfl, hl, hm, ?_⟩
    have hc : Try.prog.cellsOf 46 = 4 := by kernel_rfl
    have hc4 : Try.prog.cellsOf 4 = 1 := by kernel_rfl
    have hc5 : Try.prog.cellsOf 5 = 1 := by kernel_rfl
    have hc3 : Try.prog.cellsOf 3 = 1 := by kernel_rfl
    rw [hc] at hx
    have hm' : m = cap := by simpa using hmm
    have each : ∀ i, i < m → ∃ s : StepD, s.b < 256 ∧ s.m < 256 ∧ ∀ j, j < 4 → w.cell? ((a.add (i * 4)).add j) = s.cells[j]? := fun i hi => by
      obtain ⟨cs', h1, h2⟩ := hx i hi
      obtain ⟨_, hlen, hcell⟩ := World.cells?_some h1
      obtain ⟨v0, v1, v2, v3, rfl⟩ := list4 hlen
      obtain ⟨y0, y1, y2, y3, k, _, _, g0, g1, g2, g3⟩ := Joins.trod_struct4 Try.underlying46 h2
      simp [hc4, hc5, hc3] at g0 g1 g2 g3
      obtain ⟨d, e0, _⟩ := DataW.trod_bool Try.underlying4 g0
      obtain ⟨b, e1, _, w1⟩ := DataW.trod_int Try.underlying5 g1
      obtain ⟨mm, e2, _, w2⟩ := DataW.trod_int Try.underlying5 g2
      obtain ⟨xx, e3, _, w3⟩ := DataW.trod_int Try.underlying3 g3
      simp at e0 e1 e2 e3
      subst e0; subst e1; subst e2; subst e3
      have r1 := wf_u8 w1
      have r2 := wf_u8 w2
      obtain ⟨bn, rfl⟩ := Int.eq_ofNat_of_zero_le r1.1
      obtain ⟨mn, rfl⟩ := Int.eq_ofNat_of_zero_le r2.1
      exact ⟨⟨d, bn, mn, xx⟩, (by show bn < 256; omega), (by show mn < 256; omega), fun j hj => hcell j hj⟩
    intro i hi
    have h0 : 0 < m := by omega
    obtain ⟨s0, _, _, hs0⟩ := each 0 h0
    have hz : w.cell? a = some (.bool s0.d) := by
      have := hs0 0 (by omega)
      simpa [Addr.add, StepD.cells] using this
    obtain ⟨pb, po, spot⟩ := a
    have hspot : spot = none := by simpa using World.cell?_spot hz
    subst hspot
    obtain ⟨s, q1, q2, q3⟩ := each i (by omega)
    refine ⟨pb, po, s, rfl, cell_lt hz, q1, q2, fun j hj => ?_⟩
    have := q3 j hj
    rw [Go.WideShapes.add_plain, Go.WideShapes.add_plain] at this
    exact this
theorem steps_mono {w : World} {a : Option Addr} {n m : Nat} (h : StepsAt w a n) (hm : m ≤ n) : StepsAt w a m := fun i hi => h i (by omega)

set_option maxRecDepth 100000 in
theorem lifted (os : Os) (started : os.Started) (H : Type) (enc : TypeId × Value → H) :
    ReturnsInHanded {} Try.checked os 5 .any (Rows.kidsPlaysSpec.pre6 enc Try.prog Try.f5 Rows.kidsPlaysRow.domain false) (Rows.kidsPlaysSpec.post enc Try.prog Try.f5 false true false false) := by
  refine returnsInHanded_of_change (C := Try.checked) own started (by kernel_rfl) Try.func5
    (ChangeSpec.witness6 (enc := enc) (C := Try.checked) false ⟨#[], #[.slice none 0 0, .int .i64 0], []⟩ 8 (by kernel_rfl) (by kernel_rfl) (by kernel_rfl) (by kernel_rfl)) ?_
  intro W base args ds gs before hval0 hW hcnd _
  have hval : ∀ (j : Nat) t v, Try.f5.params[j]? = some t → args[j]? = some v → Value.okWide Try.prog W .any base t v := hval0
  have hW' := hW
  obtain ⟨p, q, hA0, hV, rfl, hfz, hnd⟩ := hW
  have hA : DataW.TrodAll enc Try.prog W 0 (fun _ => true) true Try.f5.params.toList args.toList ds p := hA0
  rw [Try.params5] at hA hval
  obtain ⟨v0, vs0, d0, ds0, p0, q0, hargs, rfl, rfl, h0, r0⟩ := trodAll_cons hA
  obtain ⟨v1, vs1, d1, ds1, p1, q1, rfl, rfl, rfl, h1, r1⟩ := trodAll_cons r0
  obtain ⟨rfl, rfl, rfl⟩ := trodAll_nil r1
  obtain rfl : args = #[v0, v1] := by cases args; simp_all
  obtain ⟨rfl, rfl⟩ := trodVars_none hV
  obtain ⟨a0, n0, c0, rfl⟩ := okWide_slice Try.underlying38 (hval 0 38 v0 rfl rfl)
  obtain ⟨f, rfl, rfl, rfl, wf⟩ := open_int Try.underlying3 (hval 1 3 v1 rfl rfl) h1
  have k0 := h0
  have lt0 : ∀ x ∈ p0, x.block < W.heap.size := by obtain ⟨m, hm⟩ := k0; exact DataW.trod_lt m _ _ _ hm
  obtain ⟨f0, hf0⟩ := h0
  obtain ⟨a0', n0', c0', e0, hcap, hmax, hst⟩ := open_steps hf0
  simp [Value.cells] at e0
  obtain ⟨rfl, rfl, rfl⟩ := e0
  have hwf := wf_i64 wf
  clear hA0 hval0
  refine (KidsPlays_any a0 n0 c0 f (min n0 30) W hwf.1 hwf.2 rfl hcap hmax (steps_mono hst (Nat.min_le_left _ _))).mono fun e W' ⟨he, bel⟩ => ?_
  subst he
  exact ⟨_, rfl, _, _, _, [], _, [], hW', trodAll_mk1 (shut_bool Try.underlying4 _), (trodAll_cons_mk (Below.trod laidOut (by kernel_rfl) (of_decide_eq_true (by kernel_rfl)) k0 bel lt0) (trodAll_cons_mk (shut_int Try.underlying3 wf) trodAll_mk0)), rfl, bel.frame _, fun h => by cases h⟩

theorem over : Rows.kidsPlaysRow.holds Try.pinned (OpenSpec.ofChange Rows.kidsPlaysSpec) :=
  OpenClaim.holds_of_wide 5 Try.f5 rfl rfl rfl rfl rfl rfl rfl ⟨rfl, rfl, rfl, rfl, rfl⟩ rfl rfl rfl rfl rfl (by kernel_rfl) Try.func5 (by kernel_rfl)
    (of_decide_eq_true (by kernel_rfl)) (by unfold Func.isWrapper; first | (rw [if_pos (by decide +kernel)]; kernel_rfl) | (rw [if_neg (by decide +kernel)]; exact ⟨rfl, rfl⟩))
    (fun os started H enc _ => lifted os started H enc)

theorem kidsPlays_proved : Rows.KidsPlaysSaid := over
#print axioms kidsPlays_proved
end Go.Proofs.Ythifjldmhfpkhaa.kidsPlays
