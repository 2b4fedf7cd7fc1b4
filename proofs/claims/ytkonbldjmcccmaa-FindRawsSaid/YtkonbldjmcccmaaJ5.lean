/- Arguments of rows: bytes, slices of pairs. -/
import Derived.Test.YtkonbldjmcccmaaRows
import Derived.Test.YtkonbldjmcccmaaJ1
import Derived.WalkKit
import Derived.ProofKit
import Derived.OpenShut
import Derived.ShutString
import Derived.ChangeOld
import Derived.Below
import Derived.SizedLaws
import Derived.Deep.SlicePairs
set_option linter.unusedVariables false
set_option linter.unusedSimpArgs false
/- Arguments of rows: bytes, slices of pairs. -/
namespace Go.Proofs.Ytkonbldjmcccmaa
open Go.ChangeShapes Go.WideShapes Go.ChangeAt Go.RowKit
section
variable {H : Type} {enc : TypeId × Value → H} {w : World} {base : Nat} {held : Bool}
/-- a slice of bytes that came in, by its cell -/
theorem open_slc {v : Value} {fuel : Nat} {x : DataW H × List MemPlace} (h : DataW.trod enc Try.prog w base (fun _ => true) held fuel 27 [v] = some x) :
    ∃ a n c bs, v = .slice a n c ∧ Sl w a n c bs := by
  rcases open_ints Try.underlying27 Try.underlying5 (by kernel_rfl) h with ⟨e, _⟩ | ⟨a, l, c, zs, e, _, hl, hm, hlen, _, hcell, hw⟩
  · obtain rfl : v = .slice none 0 0 := by simpa using e
    exact ⟨none, 0, 0, [], rfl, sl_nil w⟩
  · obtain rfl : v = .slice (some a) l c := by simpa using e
    have hlen' : zs.length = c := by simpa using hlen
    refine ⟨some a, l, c, (zs.take l).map Int.toNat, rfl, by simp; omega, ⟨?_, ?_⟩, hl, hm, fun e => by cases e⟩
    · intro y hy
      obtain ⟨n, hn, rfl⟩ := List.mem_map.1 hy
      have := wf_u8 (hw n (List.mem_of_mem_take hn))
      omega
    · intro i hi
      have hi' : i < l := by simp at hi; omega
      have hz : i < zs.length := by omega
      have hc := hcell i hz
      have hn := wf_u8 (hw zs[i] (List.getElem_mem _))
      have e : zs.getD i 0 = ((((zs.take l).map Int.toNat).getD i 0 : Nat) : Int) := by
        simp [List.getD, List.getElem?_take, hi', hz]
        omega
      refine ⟨a, rfl, cell_lt hc, ?_⟩
      rw [hc, e]
set_option maxRecDepth 100000 in
theorem open_sl {v : Value} {d : DataW H} {ps : List MemPlace} (h : DataW.Trod enc Try.prog w base (fun _ => true) held 27 v d ps) (hv : Value.okWide Try.prog w .any base 27 v) :
    ∃ a n c bs, v = .slice a n c ∧ Sl w a n c bs := by
  obtain ⟨a0, n0, c0, rfl⟩ := okWide_slice Try.underlying27 hv
  obtain ⟨fuel, h⟩ := h
  exact open_slc (x := (d, ps)) (show DataW.trod enc Try.prog w base (fun _ => true) held fuel 27 [.slice a0 n0 c0] = some (d, ps) from h)
set_option maxRecDepth 100000 in
/-- a slice of pairs that came in -/
theorem open_prs {v : Value} {d : DataW H} {ps : List MemPlace} (h : DataW.Trod enc Try.prog w base (fun _ => true) held 53 v d ps) (hv : Value.okWide Try.prog w .any base 53 v) :
    ∃ a n c l, v = .slice a n c ∧ Prs w a n c l := by
  obtain ⟨a0, n0, c0, rfl⟩ := okWide_slice Try.underlying53 hv
  obtain ⟨fuel, h⟩ := h
  have h : DataW.trod enc Try.prog w base (fun _ => true) held fuel 53 [.slice a0 n0 c0] = some (d, ps) := h
  rcases Go.Deep.open_slice_pairs Try.underlying53 Try.underlying78 (by kernel_rfl) rfl rfl (by kernel_rfl) (by kernel_rfl) h with ⟨e, _⟩ | ⟨a, l, c, m, n, V0, V1, D0, D1, P0, P1, e, _, hl, hm, hmm, _, hx⟩
  · obtain ⟨rfl, rfl, rfl⟩ : a0 = none ∧ n0 = 0 ∧ c0 = 0 := by simpa using e
    exact ⟨none, 0, 0, [], rfl, prs_nil w⟩
  · obtain ⟨rfl, rfl, rfl⟩ : a0 = some a ∧ n0 = l ∧ c0 = c := by simpa using e
    have hlm : n0 ≤ m := by rw [hmm]; simp only [if_true]; exact hl
    have key : ∀ i, i < n0 → ∃ y : List Nat × Int, (0 ≤ y.2 ∧ y.2 < 18446744073709551616) ∧ PrC w a i y := fun i hi => by
      obtain ⟨h0, h1, t0, t1⟩ := hx i (by omega)
      obtain ⟨b, k, c, bs, e0, s0⟩ := open_slc t0
      obtain ⟨z, e1, _, wz⟩ := DataW.trod_int Try.underlying26 t1
      have e1 : V1 i = .int .u64 z := by simpa using e1
      have := wf_u64 wz
      have hadd : (a.add (i * 2 + 1)) = ⟨(a.add (i * 2)).block, (a.add (i * 2)).off + 1, none⟩ := by
        rw [← Go.Deep.add_add]
        simp [Addr.add]
      refine ⟨(bs, z), ⟨this.1, by show z < _; omega⟩, cell_lt h0, b, k, c, by rw [h0, e0], by rw [← hadd, h1, e1], s0⟩
    obtain ⟨f, hf⟩ := Go.Deep.choose_lt key
    have hget : ∀ i, i < n0 → ((List.range n0).map f).getD i ([], 0) = f i := fun i hi => by
      rw [List.getD_eq_getElem?_getD, List.getElem?_eq_getElem (by simpa using hi)]; simp
    refine ⟨some a, n0, c0, (List.range n0).map f, rfl, by simp, hl, hm, (fun e => by cases e), fun x hx => ?_, fun i hi => ⟨a, rfl, ?_⟩⟩
    · obtain ⟨i, hi, rfl⟩ := List.mem_map.1 hx
      exact (hf i (List.mem_range.1 hi)).1
    · have hi' : i < n0 := by simpa using hi
      rw [hget i hi']
      exact (hf i hi').2
end
end Go.Proofs.Ytkonbldjmcccmaa
