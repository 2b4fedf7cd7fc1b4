/- Arguments of rows: bytes, spans. -/
import Derived.Test.YtehamfhblpokbaaDoorU12
import Derived.Test.YtehamfhblpokbaaDoorTie
import Derived.Test.YtehamfhblpokbaaDoorCards
import Derived.ProofKit
import Derived.OpenShut
import Derived.ShutString
import Derived.ChangeOld
import Derived.Below
import Derived.SizedLaws
import Derived.Lay
import Derived.LaidMore
import Derived.SevenTiedAt
import Derived.Stop.Joined
import Derived.Shelf.Vars
import Derived.Lib.SmallJoins
set_option linter.unusedVariables false
set_option linter.unusedSimpArgs false
namespace Go.Proofs.YtehamfhblpokbaaDoor
open Go.ChangeShapes Go.WideShapes Go.ChangeAt Go.RowKit
theorem own : ownKnob Tryd.prog.godebug = none := by kernel_rfl
theorem laidOut : laidOutB Tryd.prog = true := by kernel_rfl
section
variable {H : Type} {enc : TypeId × Value → H} {w : World} {base : Nat} {held : Bool}
/-- a slice of bytes that came in, by its cell -/
theorem open_slc {v : Value} {fuel : Nat} {x : DataW H × List MemPlace} (h : DataW.trod enc Tryd.prog w base (fun _ => true) held fuel 22 [v] = some x) :
    ∃ a n c bs, v = .slice a n c ∧ Sl w a n c bs := by
  rcases open_ints Tryd.underlying22 Tryd.underlying5 (by kernel_rfl) h with ⟨e, _⟩ | ⟨a, l, c, zs, e, _, hl, hm, hlen, _, hcell, hw⟩
  · obtain rfl : v = .slice none 0 0 := by simpa using e
    exact ⟨none, 0, 0, [], rfl, sl_nil w⟩
  · obtain rfl : v = .slice (some a) l c := by simpa using e
    have hlen' : zs.length = c := by simpa using hlen
    refine ⟨some a, l, c, (zs.take l).map Int.toNat, rfl, by simp; omega, ⟨?_, ?_⟩, hl, hm, fun e => by cases e⟩
    · intro y hy
      obtain ⟨n, hn, rfl⟩ := List.mem_map.1 hy
      have := wf_u8 (hw n (List.mem_of_mem_take hn))
      omega
    · intro i hi
      have hi' : i < l := by simp at hi; omega
      have hz : i < zs.length := by omega
      have hc := hcell i hz
      have hn := wf_u8 (hw zs[i] (List.getElem_mem _))
      have e : zs.getD i 0 = ((((zs.take l).map Int.toNat).getD i 0 : Nat) : Int) := by
        simp [List.getD, List.getElem?_take, hi', hz]
        omega
      refine ⟨a, rfl, cell_lt hc, ?_⟩
      rw [hc, e]
set_option maxRecDepth 100000 in
theorem open_sl {v : Value} {d : DataW H} {ps : List MemPlace} (h : DataW.Trod enc Tryd.prog w base (fun _ => true) held 22 v d ps) (hv : Value.okWide Tryd.prog w .any base 22 v) :
    ∃ a n c bs, v = .slice a n c ∧ Sl w a n c bs := by
  obtain ⟨a0, n0, c0, rfl⟩ := okWide_slice Tryd.underlying22 hv
  obtain ⟨fuel, h⟩ := h
  exact open_slc (x := (d, ps)) (show DataW.trod enc Tryd.prog w base (fun _ => true) held fuel 22 [.slice a0 n0 c0] = some (d, ps) from h)
set_option maxRecDepth 100000 in
theorem open_span {v : Value} {d : DataW H} {ps : List MemPlace} (h : DataW.Trod enc Tryd.prog w base (fun _ => true) held 24 v d ps) (hv : Value.okWide Tryd.prog w .any base 24 v) :
    ∃ a1 n1 c1 f a2 n2 c2 t o, v = .agg #[.slice a1 n1 c1, .slice a2 n2 c2, .bool o] ∧ Sl w a1 n1 c1 f ∧ Sl w a2 n2 c2 t := by
  obtain ⟨v0, v1, v2, y0, y1, y2, n, rfl, _, _, t0, t1, t2⟩ := Joins.open_agg3 Tryd.underlying24 (by kernel_rfl) (by kernel_rfl) hv h
  obtain ⟨a1, n1, c1, f, rfl, s1⟩ := open_slc t0
  obtain ⟨a2, n2, c2, t, rfl, s2⟩ := open_slc t1
  obtain ⟨o, e, _⟩ := DataW.trod_bool Tryd.underlying4 t2
  obtain rfl : v2 = .bool o := by simpa using e
  exact ⟨a1, n1, c1, f, a2, n2, c2, t, o, rfl, s1, s2⟩
end
end Go.Proofs.YtehamfhblpokbaaDoor
