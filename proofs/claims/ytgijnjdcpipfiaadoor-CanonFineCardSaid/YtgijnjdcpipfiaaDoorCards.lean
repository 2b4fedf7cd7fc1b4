/-
  DERIVED. GIVEN WITH THE SEED: THE CARDS: each row of YtgijnjdcpipfiaaDoorRows.lean that lists a variable, with what it lists TIED to the program's text (the seventh form; the later family's looks); each row that meets fmt, with fmt's text TOLD by the authors' own Lean function (tested against real Go, not proved from fmt's source: count such statements apart). THE CARD IS WHAT COUNTS. Prove the row's statement (the work); the ties are given (YtgijnjdcpipfiaaDoorTie.lean); close each card by the builder's one call (the guide's Derived/Test/ToyasCard.lean, 'card_holds'). Laid BY PROGRAM, IN A SANDBOX (cutbox-door.mjs). By AI agents, Wed Nov 11 2026. No macro, syntax, notation, axiom, sorry.
-/
import Derived.Test.YtgijnjdcpipfiaaDoorRows
import GoSem.ClaimSeven
namespace Go.Proofs.YtgijnjdcpipfiaaDoor
namespace Rows

/-- THE TIED CARD OF 'spunyarnlaw13.CanonFine'. -/
def canonFineCard : Claim7 := { stood := { row := canonFineRow, standIns := [], harness := (true, "d8bfff35002a4ebe32145dc608f243750885e74280c385e26f1380813b1f525f"), looks := false }, kinds := [], alts := [], laidByText := true, laidKinds := [.data, .data, .data], laidTests := true, laidLooks := .later }
def CanonFineCardSaid : Prop := Claim7.holds Tryd.pinned (.plain (OpenSpec.ofChange canonFineSpec)) canonFineCard

/-- THE TIED CARD OF 'spunyarnlaw13.CanonLong'. -/
def canonLongCard : Claim7 := { stood := { row := canonLongRow, standIns := [], harness := (true, "d8bfff35002a4ebe32145dc608f243750885e74280c385e26f1380813b1f525f"), looks := false }, kinds := [], alts := [], laidByText := true, laidKinds := [.data, .data, .data], laidTests := true, laidLooks := .later }
def CanonLongCardSaid : Prop := Claim7.holds Tryd.pinned (.plain (OpenSpec.ofChange canonLongSpec)) canonLongCard

/-- THE SECOND FORM's CARD OF 'spunyarnlaw13.CanonFine'. -/
def canonFineUptoCard : Claim7 := { stood := { row := canonFineUptoRow, standIns := [], harness := (true, "d8bfff35002a4ebe32145dc608f243750885e74280c385e26f1380813b1f525f"), looks := false }, kinds := [], alts := [], laidByText := true, laidKinds := [.data, .data, .data], laidTests := true, laidLooks := .later }
def CanonFineUptoCardSaid : Prop := Claim7.holds Tryd.pinned (.plain (OpenSpec.upto canonFineSpec)) canonFineUptoCard

/-- THE SECOND FORM's CARD OF 'spunyarnlaw13.CanonLong'. -/
def canonLongUptoCard : Claim7 := { stood := { row := canonLongUptoRow, standIns := [], harness := (true, "d8bfff35002a4ebe32145dc608f243750885e74280c385e26f1380813b1f525f"), looks := false }, kinds := [], alts := [], laidByText := true, laidKinds := [.data, .data, .data], laidTests := true, laidLooks := .later }
def CanonLongUptoCardSaid : Prop := Claim7.holds Tryd.pinned (.plain (OpenSpec.upto canonLongSpec)) canonLongUptoCard
end Rows
end Go.Proofs.YtgijnjdcpipfiaaDoor
