/-
  DERIVED. GIVEN WITH THE SEED: THE CARDS: each row of YtehamfhblpokbaaDoorRows.lean that lists a variable, with what it lists TIED to the program's text (the seventh form; the later family's looks); each row that meets fmt, with fmt's text TOLD by the authors' own Lean function (tested against real Go, not proved from fmt's source: count such statements apart). THE CARD IS WHAT COUNTS. Prove the row's statement (the work); the ties are given (YtehamfhblpokbaaDoorTie.lean); close each card by the builder's one call (the guide's Derived/Test/ToyasCard.lean, 'card_holds'). Laid BY PROGRAM, IN A SANDBOX (cutbox-door.mjs). By AI agents, Wed Nov 11 2026. No macro, syntax, notation, axiom, sorry.
-/
import Derived.Test.YtehamfhblpokbaaDoorRows
import GoSem.ClaimSeven
namespace Go.Proofs.YtehamfhblpokbaaDoor
namespace Rows

/-- THE TIED CARD OF 'spunyarnlaw07.BoundsSpans'. -/
def boundsSpansCard : Claim7 := { stood := { row := boundsSpansRow, standIns := [], harness := (true, "4becdd4b01bcca7d006b4172a18f54e44c36e9826a76a79b52c201ad98ea946c"), looks := false }, kinds := [], alts := [], laidByText := true, laidKinds := [.data, .pinned], laidTests := true, laidLooks := .later }
def BoundsSpansCardSaid : Prop := Claim7.holds Tryd.pinned (.plain (OpenSpec.ofChange boundsSpansSpec)) boundsSpansCard

/-- THE TIED CARD OF 'spunyarnlaw07.BoundsMeet'. -/
def boundsMeetCard : Claim7 := { stood := { row := boundsMeetRow, standIns := [], harness := (true, "4becdd4b01bcca7d006b4172a18f54e44c36e9826a76a79b52c201ad98ea946c"), looks := false }, kinds := [], alts := [], laidByText := true, laidKinds := [.data, .pinned], laidTests := true, laidLooks := .later }
def BoundsMeetCardSaid : Prop := Claim7.holds Tryd.pinned (.plain (OpenSpec.ofChange boundsMeetSpec)) boundsMeetCard

/-- THE TIED CARD OF 'spunyarnlaw07.BoundsTuples'. -/
def boundsTuplesCard : Claim7 := { stood := { row := boundsTuplesRow, standIns := [], harness := (true, "4becdd4b01bcca7d006b4172a18f54e44c36e9826a76a79b52c201ad98ea946c"), looks := false }, kinds := [], alts := [], laidByText := true, laidKinds := [.data, .pinned], laidTests := true, laidLooks := .later }
def BoundsTuplesCardSaid : Prop := Claim7.holds Tryd.pinned (.plain (OpenSpec.ofChange boundsTuplesSpec)) boundsTuplesCard

/-- THE SECOND FORM's CARD OF 'spunyarnlaw07.BoundsSpans'. -/
def boundsSpansUptoCard : Claim7 := { stood := { row := boundsSpansUptoRow, standIns := [], harness := (true, "4becdd4b01bcca7d006b4172a18f54e44c36e9826a76a79b52c201ad98ea946c"), looks := false }, kinds := [], alts := [], laidByText := true, laidKinds := [.data, .pinned], laidTests := true, laidLooks := .later }
def BoundsSpansUptoCardSaid : Prop := Claim7.holds Tryd.pinned (.plain (OpenSpec.upto boundsSpansSpec)) boundsSpansUptoCard

/-- THE SECOND FORM's CARD OF 'spunyarnlaw07.BoundsMeet'. -/
def boundsMeetUptoCard : Claim7 := { stood := { row := boundsMeetUptoRow, standIns := [], harness := (true, "4becdd4b01bcca7d006b4172a18f54e44c36e9826a76a79b52c201ad98ea946c"), looks := false }, kinds := [], alts := [], laidByText := true, laidKinds := [.data, .pinned], laidTests := true, laidLooks := .later }
def BoundsMeetUptoCardSaid : Prop := Claim7.holds Tryd.pinned (.plain (OpenSpec.upto boundsMeetSpec)) boundsMeetUptoCard

/-- THE SECOND FORM's CARD OF 'spunyarnlaw07.BoundsTuples'. -/
def boundsTuplesUptoCard : Claim7 := { stood := { row := boundsTuplesUptoRow, standIns := [], harness := (true, "4becdd4b01bcca7d006b4172a18f54e44c36e9826a76a79b52c201ad98ea946c"), looks := false }, kinds := [], alts := [], laidByText := true, laidKinds := [.data, .pinned], laidTests := true, laidLooks := .later }
def BoundsTuplesUptoCardSaid : Prop := Claim7.holds Tryd.pinned (.plain (OpenSpec.upto boundsTuplesSpec)) boundsTuplesUptoCard
end Rows
end Go.Proofs.YtehamfhblpokbaaDoor
