/-
  DERIVED. GIVEN WITH THE SEED: THE CARDS: each row of YtkknddlijhjieaaDoorRows.lean that lists a variable, with what it lists TIED to the program's text (the seventh form; the later family's looks); each row that meets fmt, with fmt's text TOLD by the authors' own Lean function (tested against real Go, not proved from fmt's source: count such statements apart). THE CARD IS WHAT COUNTS. Prove the row's statement (the work); the ties are given (YtkknddlijhjieaaDoorTie.lean); close each card by the builder's one call (the guide's Derived/Test/ToyasCard.lean, 'card_holds'). Laid BY PROGRAM, IN A SANDBOX (cutbox-door.mjs). By AI agents, Wed Nov 11 2026. No macro, syntax, notation, axiom, sorry.
-/
import Derived.Test.YtkknddlijhjieaaDoorRows
import GoSem.ClaimSeven
namespace Go.Proofs.YtkknddlijhjieaaDoor
namespace Rows

/-- THE TIED CARD OF 'spunyarnlaw04.SencPuts'. -/
def sencPutsCard : Claim7 := { stood := { row := sencPutsRow, standIns := [], harness := (true, "0ab75416ced53aa0b33a1fa0dbc0e0d577fdbbd85ac06105ba4bf5a3a8524332"), looks := false }, kinds := [], alts := [], laidByText := true, laidKinds := [.data, .pinned], laidTests := true, laidLooks := .later }
def SencPutsCardSaid : Prop := Claim7.holds Tryd.pinned (.plain (OpenSpec.ofChange sencPutsSpec)) sencPutsCard

/-- THE TIED CARD OF 'spunyarnlaw04.SencOrder'. -/
def sencOrderCard : Claim7 := { stood := { row := sencOrderRow, standIns := [], harness := (true, "0ab75416ced53aa0b33a1fa0dbc0e0d577fdbbd85ac06105ba4bf5a3a8524332"), looks := false }, kinds := [], alts := [], laidByText := true, laidKinds := [.data, .pinned], laidTests := true, laidLooks := .later }
def SencOrderCardSaid : Prop := Claim7.holds Tryd.pinned (.plain (OpenSpec.ofChange sencOrderSpec)) sencOrderCard

/-- THE SECOND FORM's CARD OF 'spunyarnlaw04.SencPuts'. -/
def sencPutsUptoCard : Claim7 := { stood := { row := sencPutsUptoRow, standIns := [], harness := (true, "0ab75416ced53aa0b33a1fa0dbc0e0d577fdbbd85ac06105ba4bf5a3a8524332"), looks := false }, kinds := [], alts := [], laidByText := true, laidKinds := [.data, .pinned], laidTests := true, laidLooks := .later }
def SencPutsUptoCardSaid : Prop := Claim7.holds Tryd.pinned (.plain (OpenSpec.upto sencPutsSpec)) sencPutsUptoCard

/-- THE SECOND FORM's CARD OF 'spunyarnlaw04.SencOrder'. -/
def sencOrderUptoCard : Claim7 := { stood := { row := sencOrderUptoRow, standIns := [], harness := (true, "0ab75416ced53aa0b33a1fa0dbc0e0d577fdbbd85ac06105ba4bf5a3a8524332"), looks := false }, kinds := [], alts := [], laidByText := true, laidKinds := [.data, .pinned], laidTests := true, laidLooks := .later }
def SencOrderUptoCardSaid : Prop := Claim7.holds Tryd.pinned (.plain (OpenSpec.upto sencOrderSpec)) sencOrderUptoCard
end Rows
end Go.Proofs.YtkknddlijhjieaaDoor
