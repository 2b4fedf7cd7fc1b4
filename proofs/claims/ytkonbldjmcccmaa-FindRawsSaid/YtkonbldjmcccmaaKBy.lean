/- Bytes that a slice has ahead. -/
import Derived.Test.YtkonbldjmcccmaaKTrio
import Derived.StillTailTactics
set_option linter.unusedVariables false
set_option linter.unusedSimpArgs false
namespace Go.Proofs.Ytkonbldjmcccmaa
open Go.RowKit
/-- the bytes that a slice has ahead -/
def BytesAt (w : World) (a : Option Addr) (bs : List Nat) : Prop := (∀ x ∈ bs, x < 256) ∧ ∀ i, i < bs.length → ∃ p : Addr, a = some p ∧ (p.add i).block < w.heap.size ∧ w.cell? (p.add i) = some (.int .u8 (bs.getD i 0 : Nat))
theorem BytesAt.read {w wr : World} {a : Option Addr} {bs : List Nat} (h : BytesAt w a bs) (hb : Below w.heap.size w wr) {i : Nat} (hi : i < bs.length) : ∃ p : Addr, a = some p ∧ wr.cell? (p.add i) = some (.int .u8 (bs.getD i 0 : Nat)) := by
  obtain ⟨p, rfl, h1, h2⟩ := h.2 i hi
  exact ⟨p, rfl, (hb.cell (p := p.add i) h1).trans h2⟩
end Go.Proofs.Ytkonbldjmcccmaa
