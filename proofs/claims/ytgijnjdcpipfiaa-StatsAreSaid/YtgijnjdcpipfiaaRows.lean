/-
  No cell of these rows narrows 'for every input' (looked for: loops, veiled, ifaces, maps, wideKeys, modest, calm, conditions, laid).
  DERIVED. THE GIVEN ROWS OF THIS SEAT. 4 by the template 'for every input the law returns true; each argument reads behind the call as it read before'; 0 by the template 'total and deterministic' (their statements: YtgijnjdcpipfiaaTotals.lean).
  GIVEN WITH THE SEED: the statements are not yours to turn. If you find one false, say at which input.
  Laid BY PROGRAM, IN A SANDBOX (cutbox-rows.mjs): the forced cells as the released guide's own fill.sh prints them over the translation 48f3f692f45f387b… (all of the seat's roots in one cut). By AI agents, Wed Nov 11 2026. No macro, syntax, notation, axiom, sorry.
-/
import Derived.Test.YtgijnjdcpipfiaaChecked
import GoSem.Claim
import GoSem.ClaimJoined
import GoSem.ClaimMapViews
import Derived.JoinedTies
import Derived.KernelRfl
namespace Go.Proofs.Ytgijnjdcpipfiaa
/- THE CELL 'sum', in the pinned program and in every row, IS THE sha256 OF THE DUMP (.gsa) THAT YtgijnjdcpipfiaaProg.lean LOADS. Nothing in Lean hashes anything: it is a label: what it is worth is what the hold of that sum in a sandbox is worth. -/
noncomputable def Try.pinned : Pinned := { name := "ytgijnjdcpipfiaa", sum := "48f3f692f45f387ba128512a8b7d176c74f16f372afa8fcec731e4683ac914cf", checked := Try.checked }
namespace Rows
def none {H : Type} : Left H := { results := [], args := [] }

/-- 'spunyarnlaw11.KidsKind': WHATEVER THE INPUT: true; the input reads as it did. -/
def kidsKindSpec : ChangeSpec := { name := "kidsKind", fn := fun _ => fun
  | [d] => { results := [.lit (.bool true)], args := [d] }
  | _ => none }
def kidsKindRow : OpenClaim := { program := "ytgijnjdcpipfiaa", sum := "48f3f692f45f387ba128512a8b7d176c74f16f372afa8fcec731e4683ac914cf", func := "spunyarn/spunyarnlaw11.KidsKind", spec := "kidsKind", apart := false }
def KidsKindSaid : Prop := kidsKindRow.holds Try.pinned (OpenSpec.ofChange kidsKindSpec)

/-- ITS FALSE NEIGHBOUR: 'it returns false'. Refute it at one input. -/
def kidsKindWrong : ChangeSpec := { name := "kidsKind", fn := fun _ => fun
  | [d] => { results := [.lit (.bool false)], args := [d] }
  | _ => none }
def KidsKindWrongFalsely : Prop := kidsKindRow.holds Try.pinned (OpenSpec.ofChange kidsKindWrong)

/-- 'spunyarnlaw12.NodeNobody': WHATEVER THE INPUT: true; the input reads as it did. -/
def nodeNobodySpec : ChangeSpec := { name := "nodeNobody", fn := fun _ => fun
  | [d1, d2, d3] => { results := [.lit (.bool true)], args := [d1, d2, d3] }
  | _ => none }
def nodeNobodyRow : OpenClaim := { program := "ytgijnjdcpipfiaa", sum := "48f3f692f45f387ba128512a8b7d176c74f16f372afa8fcec731e4683ac914cf", func := "spunyarn/spunyarnlaw12.NodeNobody", spec := "nodeNobody", inPlace := ["sync/atomic.AddInt64", "sync/atomic.LoadInt64"], apart := false }
def NodeNobodySaid : Prop := nodeNobodyRow.holds Try.pinned (OpenSpec.ofChange nodeNobodySpec)

/-- ITS FALSE NEIGHBOUR: 'it returns false'. Refute it at one input. -/
def nodeNobodyWrong : ChangeSpec := { name := "nodeNobody", fn := fun _ => fun
  | [d1, d2, d3] => { results := [.lit (.bool false)], args := [d1, d2, d3] }
  | _ => none }
def NodeNobodyWrongFalsely : Prop := nodeNobodyRow.holds Try.pinned (OpenSpec.ofChange nodeNobodyWrong)

/-- 'spunyarnlaw32.StatsAre': WHATEVER THE INPUT: true; the input reads as it did. -/
def statsAreSpec : ChangeSpec := { name := "statsAre", fn := fun _ => fun
  | [d] => { results := [.lit (.bool true)], args := [d] }
  | _ => none }
def statsAreRow : OpenClaim := { program := "ytgijnjdcpipfiaa", sum := "48f3f692f45f387ba128512a8b7d176c74f16f372afa8fcec731e4683ac914cf", func := "spunyarn/spunyarnlaw32.StatsAre", spec := "statsAre", inPlace := ["internal/bytealg.Compare", "sync/atomic.AddInt64"], unfollowed := true, recurses := true, apart := false }
def StatsAreSaid : Prop := statsAreRow.holds Try.pinned (OpenSpec.ofChange statsAreSpec)

/-- ITS FALSE NEIGHBOUR: 'it returns false'. Refute it at one input. -/
def statsAreWrong : ChangeSpec := { name := "statsAre", fn := fun _ => fun
  | [d] => { results := [.lit (.bool false)], args := [d] }
  | _ => none }
def StatsAreWrongFalsely : Prop := statsAreRow.holds Try.pinned (OpenSpec.ofChange statsAreWrong)

/-- 'spunyarnlaw32.StatsApart': WHATEVER THE INPUT: true; the input reads as it did. -/
def statsApartSpec : ChangeSpec := { name := "statsApart", fn := fun _ => fun
  | [d1, d2] => { results := [.lit (.bool true)], args := [d1, d2] }
  | _ => none }
def statsApartRow : OpenClaim := { program := "ytgijnjdcpipfiaa", sum := "48f3f692f45f387ba128512a8b7d176c74f16f372afa8fcec731e4683ac914cf", func := "spunyarn/spunyarnlaw32.StatsApart", spec := "statsApart", inPlace := ["internal/bytealg.Compare", "sync/atomic.AddInt64"], unfollowed := true, recurses := true, apart := false }
def StatsApartSaid : Prop := statsApartRow.holds Try.pinned (OpenSpec.ofChange statsApartSpec)

/-- ITS FALSE NEIGHBOUR: 'it returns false'. Refute it at one input. -/
def statsApartWrong : ChangeSpec := { name := "statsApart", fn := fun _ => fun
  | [d1, d2] => { results := [.lit (.bool false)], args := [d1, d2] }
  | _ => none }
def StatsApartWrongFalsely : Prop := statsApartRow.holds Try.pinned (OpenSpec.ofChange statsApartWrong)

/- THE SECOND FORM. 'bulk': how many values and letters a reading holds, each counted each time it is reached (what is shared counts as often as it is met; a slice's spare places count too). A statement '..UptoSaid' is the law's where the arguments, and the package variables that the reading takes, are together of bulk at most 1048576: NARROWER than '..Said'. Prove '..Said' where nothing that the law and all that it calls make is longer than what came in: it says more and counts as full. Else prove '..UptoSaid'. A law counts once. -/
mutual
def uptoBulk {H : Type} : DataW H → Nat
  | .lit (.string bytes) => bytes.length + 1
  | .lit _ => 1
  | .nil => 1
  | .ptr d => uptoBulk d + 1
  | .slice elems spare => uptoBulkAll elems + uptoBulkAll spare + 1
  | .agg parts => uptoBulkAll parts + 1
  | .iface _ d => uptoBulk d + 1
  | .map entries => uptoBulkEntries entries + 1
  | .held _ => 1
def uptoBulkAll {H : Type} : List (DataW H) → Nat
  | [] => 0
  | d :: r => uptoBulk d + uptoBulkAll r
def uptoBulkEntries {H : Type} : List (Lit × DataW H) → Nat
  | [] => 0
  | x :: r => uptoBulkEntry x + uptoBulkEntries r
def uptoBulkEntry {H : Type} : Lit × DataW H → Nat
  | (.string bytes, d) => bytes.length + uptoBulk d + 1
  | (_, d) => uptoBulk d + 1
 end
def uptoSmall : (H : Type) → List (DataW H) → Bool := fun _ ds => decide (uptoBulkAll ds ≤ 1048576)
def OpenSpec.upto (s : _root_.Go.ChangeSpec) : _root_.Go.OpenSpec := { _root_.Go.OpenSpec.ofChange s with cond := some uptoSmall }

/-- 'spunyarnlaw11.KidsKind', WHERE WHAT IT READS IS OF BULK AT MOST 1048576: true; the input reads as it did. -/
def kidsKindUptoRow : OpenClaim := { program := "ytgijnjdcpipfiaa", sum := "48f3f692f45f387ba128512a8b7d176c74f16f372afa8fcec731e4683ac914cf", func := "spunyarn/spunyarnlaw11.KidsKind", spec := "kidsKind", apart := false, narrowed := true }
def KidsKindUptoSaid : Prop := kidsKindUptoRow.holds Try.pinned (OpenSpec.upto kidsKindSpec)

/-- 'spunyarnlaw12.NodeNobody', WHERE WHAT IT READS IS OF BULK AT MOST 1048576: true; the input reads as it did. -/
def nodeNobodyUptoRow : OpenClaim := { program := "ytgijnjdcpipfiaa", sum := "48f3f692f45f387ba128512a8b7d176c74f16f372afa8fcec731e4683ac914cf", func := "spunyarn/spunyarnlaw12.NodeNobody", spec := "nodeNobody", inPlace := ["sync/atomic.AddInt64", "sync/atomic.LoadInt64"], apart := false, narrowed := true }
def NodeNobodyUptoSaid : Prop := nodeNobodyUptoRow.holds Try.pinned (OpenSpec.upto nodeNobodySpec)

/-- 'spunyarnlaw32.StatsAre', WHERE WHAT IT READS IS OF BULK AT MOST 1048576: true; the input reads as it did. -/
def statsAreUptoRow : OpenClaim := { program := "ytgijnjdcpipfiaa", sum := "48f3f692f45f387ba128512a8b7d176c74f16f372afa8fcec731e4683ac914cf", func := "spunyarn/spunyarnlaw32.StatsAre", spec := "statsAre", inPlace := ["internal/bytealg.Compare", "sync/atomic.AddInt64"], unfollowed := true, recurses := true, apart := false, narrowed := true }
def StatsAreUptoSaid : Prop := statsAreUptoRow.holds Try.pinned (OpenSpec.upto statsAreSpec)

/-- 'spunyarnlaw32.StatsApart', WHERE WHAT IT READS IS OF BULK AT MOST 1048576: true; the input reads as it did. -/
def statsApartUptoRow : OpenClaim := { program := "ytgijnjdcpipfiaa", sum := "48f3f692f45f387ba128512a8b7d176c74f16f372afa8fcec731e4683ac914cf", func := "spunyarn/spunyarnlaw32.StatsApart", spec := "statsApart", inPlace := ["internal/bytealg.Compare", "sync/atomic.AddInt64"], unfollowed := true, recurses := true, apart := false, narrowed := true }
def StatsApartUptoSaid : Prop := statsApartUptoRow.holds Try.pinned (OpenSpec.upto statsApartSpec)

end Rows
end Go.Proofs.Ytgijnjdcpipfiaa
