/- Rows whose arguments are bytes and that list variables: what a row's first world gives. -/
import Derived.Test.YtkknddlijhjieaaDoorSLawO
import Derived.Test.YtkknddlijhjieaaDoorTie
import Derived.Test.YtkknddlijhjieaaDoorCards
import Derived.ProofKit
import Derived.OpenShut
import Derived.ShutString
import Derived.ChangeOld
import Derived.Below
import Derived.SizedLaws
import Derived.Lay
import Derived.LaidMore
import Derived.SevenTiedAt
import Derived.Stop.Joined
import Derived.Shelf.Vars
set_option linter.unusedVariables false
set_option linter.unusedSimpArgs false
namespace Go.Proofs.YtkknddlijhjieaaDoor
open Go.ChangeShapes Go.WideShapes Go.ChangeAt Go.RowKit
theorem own : ownKnob Tryd.prog.godebug = none := by kernel_rfl
theorem laidOut : laidOutB Tryd.prog = true := by kernel_rfl
theorem maxAt_of {w : World} (h : w.ShapedOpen Tryd.prog) : ∃ m, MaxAt w m :=
  cell_of_shapedOpen_int (P := Tryd.prog) (g := 0) (t := 3) (zero := #[.int .i64 0]) h (of_decide_eq_true (by kernel_rfl)) (by kernel_rfl) rfl (by kernel_rfl) (by kernel_rfl) Tryd.underlying3
section
variable {H : Type} {enc : TypeId × Value → H} {w : World} {base : Nat} {held : Bool}
/-- a slice of bytes that came in -/
theorem open_sl {v : Value} {d : DataW H} {ps : List MemPlace} (h : DataW.Trod enc Tryd.prog w base (fun _ => true) held 22 v d ps) (hv : Value.okWide Tryd.prog w .any base 22 v) :
    ∃ a n c bs, v = .slice a n c ∧ Sl w a n c bs := by
  obtain ⟨a0, n0, c0, rfl⟩ := okWide_slice Tryd.underlying22 hv
  obtain ⟨fuel, h⟩ := h
  have h : DataW.trod enc Tryd.prog w base (fun _ => true) held fuel 22 [.slice a0 n0 c0] = some (d, ps) := h
  rcases open_ints Tryd.underlying22 Tryd.underlying5 (by kernel_rfl) h with ⟨e, _⟩ | ⟨a, l, c, zs, e, _, hl, hm, hlen, _, hcell, hw⟩
  · obtain ⟨rfl, rfl, rfl⟩ : a0 = none ∧ n0 = 0 ∧ c0 = 0 := by simpa using e
    exact ⟨none, 0, 0, [], rfl, rfl, ⟨by simp, fun i hi => by simp at hi⟩, Nat.le_refl _, Nat.zero_le _, fun _ => ⟨rfl, rfl⟩⟩
  · obtain ⟨rfl, rfl, rfl⟩ : a0 = some a ∧ n0 = l ∧ c0 = c := by simpa using e
    have hlen' : zs.length = c0 := by simpa using hlen
    refine ⟨some a, n0, c0, (zs.take n0).map Int.toNat, rfl, by simp; omega, ⟨?_, ?_⟩, hl, hm, fun e => by cases e⟩
    · intro y hy
      obtain ⟨n, hn, rfl⟩ := List.mem_map.1 hy
      have := wf_u8 (hw n (List.mem_of_mem_take hn))
      omega
    · intro i hi
      have hi' : i < n0 := by simp at hi; omega
      have hz : i < zs.length := by omega
      have hc := hcell i hz
      have hn := wf_u8 (hw zs[i] (List.getElem_mem _))
      have e : zs.getD i 0 = ((((zs.take n0).map Int.toNat).getD i 0 : Nat) : Int) := by
        simp [List.getD, List.getElem?_take, hi', hz]
        omega
      refine ⟨a, rfl, cell_lt hc, ?_⟩
      rw [hc, e]
end
end Go.Proofs.YtkknddlijhjieaaDoor
