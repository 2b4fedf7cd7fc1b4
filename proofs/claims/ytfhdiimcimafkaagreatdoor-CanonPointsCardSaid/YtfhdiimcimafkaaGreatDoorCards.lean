/-
  DERIVED. GIVEN WITH THE SEED: THE CARDS: each row of YtfhdiimcimafkaaGreatDoorRows.lean that lists a variable, with what it lists TIED to the program's text (the seventh form; the later family's looks); each row that meets fmt, with fmt's text TOLD by the authors' own Lean function (tested against real Go, not proved from fmt's source: count such statements apart). THE CARD IS WHAT COUNTS. Prove the row's statement (the work); the ties are given (YtfhdiimcimafkaaGreatDoorTie.lean); close each card by the builder's one call (the guide's Derived/Test/ToyasCard.lean, 'card_holds'). Laid BY PROGRAM, IN A SANDBOX (cutbox-door.mjs). By AI agents, Wed Nov 11 2026. No macro, syntax, notation, axiom, sorry.
-/
import Derived.Test.YtfhdiimcimafkaaGreatDoorRows
import GoSem.ClaimSeven
namespace Go.Proofs.YtfhdiimcimafkaaGreatDoor
namespace Rows

/-- THE TIED CARD OF 'spunyarnlaw13.CanonPoints'. -/
def canonPointsCard : Claim7 := { stood := { row := canonPointsRow, standIns := [], harness := (true, "8da586782189db2e4be2ec6991f76f569c56ab9da6fb55171781076d8a171db1"), looks := false }, kinds := [], alts := [], laidByText := true, laidKinds := [.data, .data, .data], laidTests := true, laidLooks := .later }
def CanonPointsCardSaid : Prop := Claim7.holds Tryz.pinned (.plain (OpenSpec.ofChange canonPointsSpec)) canonPointsCard

/-- THE TIED CARD OF 'spunyarnlaw13.CanonRaws'. -/
def canonRawsCard : Claim7 := { stood := { row := canonRawsRow, standIns := [], harness := (true, "8da586782189db2e4be2ec6991f76f569c56ab9da6fb55171781076d8a171db1"), looks := false }, kinds := [], alts := [], laidByText := true, laidKinds := [.data, .data, .data], laidTests := true, laidLooks := .later }
def CanonRawsCardSaid : Prop := Claim7.holds Tryz.pinned (.plain (OpenSpec.ofChange canonRawsSpec)) canonRawsCard

/-- THE TIED CARD OF 'spunyarnlaw13.CanonBuilds'. -/
def canonBuildsCard : Claim7 := { stood := { row := canonBuildsRow, standIns := [], harness := (true, "8da586782189db2e4be2ec6991f76f569c56ab9da6fb55171781076d8a171db1"), looks := false }, kinds := [], alts := [], laidByText := true, laidKinds := [.data, .data, .data], laidTests := true, laidLooks := .later }
def CanonBuildsCardSaid : Prop := Claim7.holds Tryz.pinned (.plain (OpenSpec.ofChange canonBuildsSpec)) canonBuildsCard

/-- THE TIED CARD OF 'spunyarnlaw13.CanonBounds'. -/
def canonBoundsCard : Claim7 := { stood := { row := canonBoundsRow, standIns := [], harness := (true, "8da586782189db2e4be2ec6991f76f569c56ab9da6fb55171781076d8a171db1"), looks := false }, kinds := [], alts := [], laidByText := true, laidKinds := [.data, .data, .data], laidTests := true, laidLooks := .later }
def CanonBoundsCardSaid : Prop := Claim7.holds Tryz.pinned (.plain (OpenSpec.ofChange canonBoundsSpec)) canonBoundsCard

/-- THE SECOND FORM's CARD OF 'spunyarnlaw13.CanonPoints'. -/
def canonPointsUptoCard : Claim7 := { stood := { row := canonPointsUptoRow, standIns := [], harness := (true, "8da586782189db2e4be2ec6991f76f569c56ab9da6fb55171781076d8a171db1"), looks := false }, kinds := [], alts := [], laidByText := true, laidKinds := [.data, .data, .data], laidTests := true, laidLooks := .later }
def CanonPointsUptoCardSaid : Prop := Claim7.holds Tryz.pinned (.plain (OpenSpec.upto canonPointsSpec)) canonPointsUptoCard

/-- THE SECOND FORM's CARD OF 'spunyarnlaw13.CanonRaws'. -/
def canonRawsUptoCard : Claim7 := { stood := { row := canonRawsUptoRow, standIns := [], harness := (true, "8da586782189db2e4be2ec6991f76f569c56ab9da6fb55171781076d8a171db1"), looks := false }, kinds := [], alts := [], laidByText := true, laidKinds := [.data, .data, .data], laidTests := true, laidLooks := .later }
def CanonRawsUptoCardSaid : Prop := Claim7.holds Tryz.pinned (.plain (OpenSpec.upto canonRawsSpec)) canonRawsUptoCard

/-- THE SECOND FORM's CARD OF 'spunyarnlaw13.CanonBuilds'. -/
def canonBuildsUptoCard : Claim7 := { stood := { row := canonBuildsUptoRow, standIns := [], harness := (true, "8da586782189db2e4be2ec6991f76f569c56ab9da6fb55171781076d8a171db1"), looks := false }, kinds := [], alts := [], laidByText := true, laidKinds := [.data, .data, .data], laidTests := true, laidLooks := .later }
def CanonBuildsUptoCardSaid : Prop := Claim7.holds Tryz.pinned (.plain (OpenSpec.upto canonBuildsSpec)) canonBuildsUptoCard

/-- THE SECOND FORM's CARD OF 'spunyarnlaw13.CanonBounds'. -/
def canonBoundsUptoCard : Claim7 := { stood := { row := canonBoundsUptoRow, standIns := [], harness := (true, "8da586782189db2e4be2ec6991f76f569c56ab9da6fb55171781076d8a171db1"), looks := false }, kinds := [], alts := [], laidByText := true, laidKinds := [.data, .data, .data], laidTests := true, laidLooks := .later }
def CanonBoundsUptoCardSaid : Prop := Claim7.holds Tryz.pinned (.plain (OpenSpec.upto canonBoundsSpec)) canonBoundsUptoCard
end Rows
end Go.Proofs.YtfhdiimcimafkaaGreatDoor
