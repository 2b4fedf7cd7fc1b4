/-
  No cell of these rows narrows 'for every input' (looked for: loops, veiled, ifaces, maps, wideKeys, modest, calm, conditions, laid).
  DERIVED. THE GIVEN ROWS OF THIS SEAT. 11 by the template 'for every input the law returns true; each argument reads behind the call as it read before'; 0 by the template 'total and deterministic' (their statements: YtkonbldjmcccmaaTotals.lean).
  GIVEN WITH THE SEED: the statements are not yours to turn. If you find one false, say at which input.
  Laid BY PROGRAM, IN A SANDBOX (cutbox-rows.mjs): the forced cells as the released guide's own fill.sh prints them over the translation 0907979efa925d99… (all of the seat's roots in one cut). By AI agents, Wed Nov 11 2026. No macro, syntax, notation, axiom, sorry.
-/
import Derived.Test.YtkonbldjmcccmaaChecked
import GoSem.Claim
import GoSem.ClaimJoined
import GoSem.ClaimMapViews
import Derived.JoinedTies
import Derived.KernelRfl
namespace Go.Proofs.Ytkonbldjmcccmaa
/- THE CELL 'sum', in the pinned program and in every row, IS THE sha256 OF THE DUMP (.gsa) THAT YtkonbldjmcccmaaProg.lean LOADS. Nothing in Lean hashes anything: it is a label: what it is worth is what the hold of that sum in a sandbox is worth. -/
noncomputable def Try.pinned : Pinned := { name := "ytkonbldjmcccmaa", sum := "0907979efa925d99638ef66f750bfc415c45655a21f7e5e17bf0bbedec1263b1", checked := Try.checked }
namespace Rows
def none {H : Type} : Left H := { results := [], args := [] }

/-- 'spunyarnlaw11.KidsKind': WHATEVER THE INPUT: true; the input reads as it did. -/
def kidsKindSpec : ChangeSpec := { name := "kidsKind", fn := fun _ => fun
  | [d] => { results := [.lit (.bool true)], args := [d] }
  | _ => none }
def kidsKindRow : OpenClaim := { program := "ytkonbldjmcccmaa", sum := "0907979efa925d99638ef66f750bfc415c45655a21f7e5e17bf0bbedec1263b1", func := "spunyarn/spunyarnlaw11.KidsKind", spec := "kidsKind", apart := false }
def KidsKindSaid : Prop := kidsKindRow.holds Try.pinned (OpenSpec.ofChange kidsKindSpec)

/-- ITS FALSE NEIGHBOUR: 'it returns false'. Refute it at one input. -/
def kidsKindWrong : ChangeSpec := { name := "kidsKind", fn := fun _ => fun
  | [d] => { results := [.lit (.bool false)], args := [d] }
  | _ => none }
def KidsKindWrongFalsely : Prop := kidsKindRow.holds Try.pinned (OpenSpec.ofChange kidsKindWrong)

/-- 'spunyarnlaw12.NodeNobody': WHATEVER THE INPUT: true; the input reads as it did. -/
def nodeNobodySpec : ChangeSpec := { name := "nodeNobody", fn := fun _ => fun
  | [d1, d2, d3] => { results := [.lit (.bool true)], args := [d1, d2, d3] }
  | _ => none }
def nodeNobodyRow : OpenClaim := { program := "ytkonbldjmcccmaa", sum := "0907979efa925d99638ef66f750bfc415c45655a21f7e5e17bf0bbedec1263b1", func := "spunyarn/spunyarnlaw12.NodeNobody", spec := "nodeNobody", inPlace := ["sync/atomic.AddInt64", "sync/atomic.LoadInt64"], apart := false }
def NodeNobodySaid : Prop := nodeNobodyRow.holds Try.pinned (OpenSpec.ofChange nodeNobodySpec)

/-- ITS FALSE NEIGHBOUR: 'it returns false'. Refute it at one input. -/
def nodeNobodyWrong : ChangeSpec := { name := "nodeNobody", fn := fun _ => fun
  | [d1, d2, d3] => { results := [.lit (.bool false)], args := [d1, d2, d3] }
  | _ => none }
def NodeNobodyWrongFalsely : Prop := nodeNobodyRow.holds Try.pinned (OpenSpec.ofChange nodeNobodyWrong)

/-- 'spunyarnlaw14.FindSteps': WHATEVER THE INPUT: true; the input reads as it did. -/
def findStepsSpec : ChangeSpec := { name := "findSteps", fn := fun _ => fun
  | [d1, d2] => { results := [.lit (.bool true)], args := [d1, d2] }
  | _ => none }
def findStepsRow : OpenClaim := { program := "ytkonbldjmcccmaa", sum := "0907979efa925d99638ef66f750bfc415c45655a21f7e5e17bf0bbedec1263b1", func := "spunyarn/spunyarnlaw14.FindSteps", spec := "findSteps", inPlace := ["internal/bytealg.Compare", "sync/atomic.AddInt64"], unfollowed := true, recurses := true, apart := false }
def FindStepsSaid : Prop := findStepsRow.holds Try.pinned (OpenSpec.ofChange findStepsSpec)

/-- ITS FALSE NEIGHBOUR: 'it returns false'. Refute it at one input. -/
def findStepsWrong : ChangeSpec := { name := "findSteps", fn := fun _ => fun
  | [d1, d2] => { results := [.lit (.bool false)], args := [d1, d2] }
  | _ => none }
def FindStepsWrongFalsely : Prop := findStepsRow.holds Try.pinned (OpenSpec.ofChange findStepsWrong)

/-- 'spunyarnlaw14.FindRaws': WHATEVER THE INPUT: true; the input reads as it did. -/
def findRawsSpec : ChangeSpec := { name := "findRaws", fn := fun _ => fun
  | [d1, d2, d3] => { results := [.lit (.bool true)], args := [d1, d2, d3] }
  | _ => none }
def findRawsRow : OpenClaim := { program := "ytkonbldjmcccmaa", sum := "0907979efa925d99638ef66f750bfc415c45655a21f7e5e17bf0bbedec1263b1", func := "spunyarn/spunyarnlaw14.FindRaws", spec := "findRaws", inPlace := ["internal/bytealg.Compare", "sync/atomic.AddInt64"], unfollowed := true, recurses := true, apart := false }
def FindRawsSaid : Prop := findRawsRow.holds Try.pinned (OpenSpec.ofChange findRawsSpec)

/-- ITS FALSE NEIGHBOUR: 'it returns false'. Refute it at one input. -/
def findRawsWrong : ChangeSpec := { name := "findRaws", fn := fun _ => fun
  | [d1, d2, d3] => { results := [.lit (.bool false)], args := [d1, d2, d3] }
  | _ => none }
def FindRawsWrongFalsely : Prop := findRawsRow.holds Try.pinned (OpenSpec.ofChange findRawsWrong)

/-- 'spunyarnlaw17.NearIs': WHATEVER THE INPUT: true; the input reads as it did. -/
def nearIsSpec : ChangeSpec := { name := "nearIs", fn := fun _ => fun
  | [d1, d2] => { results := [.lit (.bool true)], args := [d1, d2] }
  | _ => none }
def nearIsRow : OpenClaim := { program := "ytkonbldjmcccmaa", sum := "0907979efa925d99638ef66f750bfc415c45655a21f7e5e17bf0bbedec1263b1", func := "spunyarn/spunyarnlaw17.NearIs", spec := "nearIs", inPlace := ["internal/bytealg.Compare", "sync/atomic.AddInt64"], unfollowed := true, recurses := true, apart := false }
def NearIsSaid : Prop := nearIsRow.holds Try.pinned (OpenSpec.ofChange nearIsSpec)

/-- ITS FALSE NEIGHBOUR: 'it returns false'. Refute it at one input. -/
def nearIsWrong : ChangeSpec := { name := "nearIs", fn := fun _ => fun
  | [d1, d2] => { results := [.lit (.bool false)], args := [d1, d2] }
  | _ => none }
def NearIsWrongFalsely : Prop := nearIsRow.holds Try.pinned (OpenSpec.ofChange nearIsWrong)

/-- 'spunyarnlaw17.NearWalk': WHATEVER THE INPUT: true; the input reads as it did. -/
def nearWalkSpec : ChangeSpec := { name := "nearWalk", fn := fun _ => fun
  | [d] => { results := [.lit (.bool true)], args := [d] }
  | _ => none }
def nearWalkRow : OpenClaim := { program := "ytkonbldjmcccmaa", sum := "0907979efa925d99638ef66f750bfc415c45655a21f7e5e17bf0bbedec1263b1", func := "spunyarn/spunyarnlaw17.NearWalk", spec := "nearWalk", inPlace := ["internal/bytealg.Compare", "sync/atomic.AddInt64"], unfollowed := true, recurses := true, apart := false }
def NearWalkSaid : Prop := nearWalkRow.holds Try.pinned (OpenSpec.ofChange nearWalkSpec)

/-- ITS FALSE NEIGHBOUR: 'it returns false'. Refute it at one input. -/
def nearWalkWrong : ChangeSpec := { name := "nearWalk", fn := fun _ => fun
  | [d] => { results := [.lit (.bool false)], args := [d] }
  | _ => none }
def NearWalkWrongFalsely : Prop := nearWalkRow.holds Try.pinned (OpenSpec.ofChange nearWalkWrong)

/-- 'spunyarnlaw17.NearGap': WHATEVER THE INPUT: true; the input reads as it did. -/
def nearGapSpec : ChangeSpec := { name := "nearGap", fn := fun _ => fun
  | [d1, d2] => { results := [.lit (.bool true)], args := [d1, d2] }
  | _ => none }
def nearGapRow : OpenClaim := { program := "ytkonbldjmcccmaa", sum := "0907979efa925d99638ef66f750bfc415c45655a21f7e5e17bf0bbedec1263b1", func := "spunyarn/spunyarnlaw17.NearGap", spec := "nearGap", inPlace := ["internal/bytealg.Compare", "sync/atomic.AddInt64"], unfollowed := true, recurses := true, apart := false }
def NearGapSaid : Prop := nearGapRow.holds Try.pinned (OpenSpec.ofChange nearGapSpec)

/-- ITS FALSE NEIGHBOUR: 'it returns false'. Refute it at one input. -/
def nearGapWrong : ChangeSpec := { name := "nearGap", fn := fun _ => fun
  | [d1, d2] => { results := [.lit (.bool false)], args := [d1, d2] }
  | _ => none }
def NearGapWrongFalsely : Prop := nearGapRow.holds Try.pinned (OpenSpec.ofChange nearGapWrong)

/-- 'spunyarnlaw30.SerNums': WHATEVER THE INPUT: true; the input reads as it did. -/
def serNumsSpec : ChangeSpec := { name := "serNums", fn := fun _ => fun
  | [d1, d2] => { results := [.lit (.bool true)], args := [d1, d2] }
  | _ => none }
def serNumsRow : OpenClaim := { program := "ytkonbldjmcccmaa", sum := "0907979efa925d99638ef66f750bfc415c45655a21f7e5e17bf0bbedec1263b1", func := "spunyarn/spunyarnlaw30.SerNums", spec := "serNums", inPlace := ["internal/bytealg.Compare", "sync/atomic.AddInt64"], unfollowed := true, recurses := true, apart := false }
def SerNumsSaid : Prop := serNumsRow.holds Try.pinned (OpenSpec.ofChange serNumsSpec)

/-- ITS FALSE NEIGHBOUR: 'it returns false'. Refute it at one input. -/
def serNumsWrong : ChangeSpec := { name := "serNums", fn := fun _ => fun
  | [d1, d2] => { results := [.lit (.bool false)], args := [d1, d2] }
  | _ => none }
def SerNumsWrongFalsely : Prop := serNumsRow.holds Try.pinned (OpenSpec.ofChange serNumsWrong)

/-- 'spunyarnlaw30.SerIs': WHATEVER THE INPUT: true; the input reads as it did. -/
def serIsSpec : ChangeSpec := { name := "serIs", fn := fun _ => fun
  | [d] => { results := [.lit (.bool true)], args := [d] }
  | _ => none }
def serIsRow : OpenClaim := { program := "ytkonbldjmcccmaa", sum := "0907979efa925d99638ef66f750bfc415c45655a21f7e5e17bf0bbedec1263b1", func := "spunyarn/spunyarnlaw30.SerIs", spec := "serIs", inPlace := ["internal/bytealg.Compare", "sync/atomic.AddInt64"], unfollowed := true, recurses := true, apart := false }
def SerIsSaid : Prop := serIsRow.holds Try.pinned (OpenSpec.ofChange serIsSpec)

/-- ITS FALSE NEIGHBOUR: 'it returns false'. Refute it at one input. -/
def serIsWrong : ChangeSpec := { name := "serIs", fn := fun _ => fun
  | [d] => { results := [.lit (.bool false)], args := [d] }
  | _ => none }
def SerIsWrongFalsely : Prop := serIsRow.holds Try.pinned (OpenSpec.ofChange serIsWrong)

/-- 'spunyarnlaw32.StatsAre': WHATEVER THE INPUT: true; the input reads as it did. -/
def statsAreSpec : ChangeSpec := { name := "statsAre", fn := fun _ => fun
  | [d] => { results := [.lit (.bool true)], args := [d] }
  | _ => none }
def statsAreRow : OpenClaim := { program := "ytkonbldjmcccmaa", sum := "0907979efa925d99638ef66f750bfc415c45655a21f7e5e17bf0bbedec1263b1", func := "spunyarn/spunyarnlaw32.StatsAre", spec := "statsAre", inPlace := ["internal/bytealg.Compare", "sync/atomic.AddInt64"], unfollowed := true, recurses := true, apart := false }
def StatsAreSaid : Prop := statsAreRow.holds Try.pinned (OpenSpec.ofChange statsAreSpec)

/-- ITS FALSE NEIGHBOUR: 'it returns false'. Refute it at one input. -/
def statsAreWrong : ChangeSpec := { name := "statsAre", fn := fun _ => fun
  | [d] => { results := [.lit (.bool false)], args := [d] }
  | _ => none }
def StatsAreWrongFalsely : Prop := statsAreRow.holds Try.pinned (OpenSpec.ofChange statsAreWrong)

/-- 'spunyarnlaw32.StatsApart': WHATEVER THE INPUT: true; the input reads as it did. -/
def statsApartSpec : ChangeSpec := { name := "statsApart", fn := fun _ => fun
  | [d1, d2] => { results := [.lit (.bool true)], args := [d1, d2] }
  | _ => none }
def statsApartRow : OpenClaim := { program := "ytkonbldjmcccmaa", sum := "0907979efa925d99638ef66f750bfc415c45655a21f7e5e17bf0bbedec1263b1", func := "spunyarn/spunyarnlaw32.StatsApart", spec := "statsApart", inPlace := ["internal/bytealg.Compare", "sync/atomic.AddInt64"], unfollowed := true, recurses := true, apart := false }
def StatsApartSaid : Prop := statsApartRow.holds Try.pinned (OpenSpec.ofChange statsApartSpec)

/-- ITS FALSE NEIGHBOUR: 'it returns false'. Refute it at one input. -/
def statsApartWrong : ChangeSpec := { name := "statsApart", fn := fun _ => fun
  | [d1, d2] => { results := [.lit (.bool false)], args := [d1, d2] }
  | _ => none }
def StatsApartWrongFalsely : Prop := statsApartRow.holds Try.pinned (OpenSpec.ofChange statsApartWrong)

/- THE SECOND FORM. 'bulk': how many values and letters a reading holds, each counted each time it is reached (what is shared counts as often as it is met; a slice's spare places count too). A statement '..UptoSaid' is the law's where the arguments, and the package variables that the reading takes, are together of bulk at most 1048576: NARROWER than '..Said'. Prove '..Said' where nothing that the law and all that it calls make is longer than what came in: it says more and counts as full. Else prove '..UptoSaid'. A law counts once. -/
mutual
def uptoBulk {H : Type} : DataW H → Nat
  | .lit (.string bytes) => bytes.length + 1
  | .lit _ => 1
  | .nil => 1
  | .ptr d => uptoBulk d + 1
  | .slice elems spare => uptoBulkAll elems + uptoBulkAll spare + 1
  | .agg parts => uptoBulkAll parts + 1
  | .iface _ d => uptoBulk d + 1
  | .map entries => uptoBulkEntries entries + 1
  | .held _ => 1
def uptoBulkAll {H : Type} : List (DataW H) → Nat
  | [] => 0
  | d :: r => uptoBulk d + uptoBulkAll r
def uptoBulkEntries {H : Type} : List (Lit × DataW H) → Nat
  | [] => 0
  | x :: r => uptoBulkEntry x + uptoBulkEntries r
def uptoBulkEntry {H : Type} : Lit × DataW H → Nat
  | (.string bytes, d) => bytes.length + uptoBulk d + 1
  | (_, d) => uptoBulk d + 1
 end
def uptoSmall : (H : Type) → List (DataW H) → Bool := fun _ ds => decide (uptoBulkAll ds ≤ 1048576)
def OpenSpec.upto (s : _root_.Go.ChangeSpec) : _root_.Go.OpenSpec := { _root_.Go.OpenSpec.ofChange s with cond := some uptoSmall }

/-- 'spunyarnlaw11.KidsKind', WHERE WHAT IT READS IS OF BULK AT MOST 1048576: true; the input reads as it did. -/
def kidsKindUptoRow : OpenClaim := { program := "ytkonbldjmcccmaa", sum := "0907979efa925d99638ef66f750bfc415c45655a21f7e5e17bf0bbedec1263b1", func := "spunyarn/spunyarnlaw11.KidsKind", spec := "kidsKind", apart := false, narrowed := true }
def KidsKindUptoSaid : Prop := kidsKindUptoRow.holds Try.pinned (OpenSpec.upto kidsKindSpec)

/-- 'spunyarnlaw12.NodeNobody', WHERE WHAT IT READS IS OF BULK AT MOST 1048576: true; the input reads as it did. -/
def nodeNobodyUptoRow : OpenClaim := { program := "ytkonbldjmcccmaa", sum := "0907979efa925d99638ef66f750bfc415c45655a21f7e5e17bf0bbedec1263b1", func := "spunyarn/spunyarnlaw12.NodeNobody", spec := "nodeNobody", inPlace := ["sync/atomic.AddInt64", "sync/atomic.LoadInt64"], apart := false, narrowed := true }
def NodeNobodyUptoSaid : Prop := nodeNobodyUptoRow.holds Try.pinned (OpenSpec.upto nodeNobodySpec)

/-- 'spunyarnlaw14.FindSteps', WHERE WHAT IT READS IS OF BULK AT MOST 1048576: true; the input reads as it did. -/
def findStepsUptoRow : OpenClaim := { program := "ytkonbldjmcccmaa", sum := "0907979efa925d99638ef66f750bfc415c45655a21f7e5e17bf0bbedec1263b1", func := "spunyarn/spunyarnlaw14.FindSteps", spec := "findSteps", inPlace := ["internal/bytealg.Compare", "sync/atomic.AddInt64"], unfollowed := true, recurses := true, apart := false, narrowed := true }
def FindStepsUptoSaid : Prop := findStepsUptoRow.holds Try.pinned (OpenSpec.upto findStepsSpec)

/-- 'spunyarnlaw14.FindRaws', WHERE WHAT IT READS IS OF BULK AT MOST 1048576: true; the input reads as it did. -/
def findRawsUptoRow : OpenClaim := { program := "ytkonbldjmcccmaa", sum := "0907979efa925d99638ef66f750bfc415c45655a21f7e5e17bf0bbedec1263b1", func := "spunyarn/spunyarnlaw14.FindRaws", spec := "findRaws", inPlace := ["internal/bytealg.Compare", "sync/atomic.AddInt64"], unfollowed := true, recurses := true, apart := false, narrowed := true }
def FindRawsUptoSaid : Prop := findRawsUptoRow.holds Try.pinned (OpenSpec.upto findRawsSpec)

/-- 'spunyarnlaw17.NearIs', WHERE WHAT IT READS IS OF BULK AT MOST 1048576: true; the input reads as it did. -/
def nearIsUptoRow : OpenClaim := { program := "ytkonbldjmcccmaa", sum := "0907979efa925d99638ef66f750bfc415c45655a21f7e5e17bf0bbedec1263b1", func := "spunyarn/spunyarnlaw17.NearIs", spec := "nearIs", inPlace := ["internal/bytealg.Compare", "sync/atomic.AddInt64"], unfollowed := true, recurses := true, apart := false, narrowed := true }
def NearIsUptoSaid : Prop := nearIsUptoRow.holds Try.pinned (OpenSpec.upto nearIsSpec)

/-- 'spunyarnlaw17.NearWalk', WHERE WHAT IT READS IS OF BULK AT MOST 1048576: true; the input reads as it did. -/
def nearWalkUptoRow : OpenClaim := { program := "ytkonbldjmcccmaa", sum := "0907979efa925d99638ef66f750bfc415c45655a21f7e5e17bf0bbedec1263b1", func := "spunyarn/spunyarnlaw17.NearWalk", spec := "nearWalk", inPlace := ["internal/bytealg.Compare", "sync/atomic.AddInt64"], unfollowed := true, recurses := true, apart := false, narrowed := true }
def NearWalkUptoSaid : Prop := nearWalkUptoRow.holds Try.pinned (OpenSpec.upto nearWalkSpec)

/-- 'spunyarnlaw17.NearGap', WHERE WHAT IT READS IS OF BULK AT MOST 1048576: true; the input reads as it did. -/
def nearGapUptoRow : OpenClaim := { program := "ytkonbldjmcccmaa", sum := "0907979efa925d99638ef66f750bfc415c45655a21f7e5e17bf0bbedec1263b1", func := "spunyarn/spunyarnlaw17.NearGap", spec := "nearGap", inPlace := ["internal/bytealg.Compare", "sync/atomic.AddInt64"], unfollowed := true, recurses := true, apart := false, narrowed := true }
def NearGapUptoSaid : Prop := nearGapUptoRow.holds Try.pinned (OpenSpec.upto nearGapSpec)

/-- 'spunyarnlaw30.SerNums', WHERE WHAT IT READS IS OF BULK AT MOST 1048576: true; the input reads as it did. -/
def serNumsUptoRow : OpenClaim := { program := "ytkonbldjmcccmaa", sum := "0907979efa925d99638ef66f750bfc415c45655a21f7e5e17bf0bbedec1263b1", func := "spunyarn/spunyarnlaw30.SerNums", spec := "serNums", inPlace := ["internal/bytealg.Compare", "sync/atomic.AddInt64"], unfollowed := true, recurses := true, apart := false, narrowed := true }
def SerNumsUptoSaid : Prop := serNumsUptoRow.holds Try.pinned (OpenSpec.upto serNumsSpec)

/-- 'spunyarnlaw30.SerIs', WHERE WHAT IT READS IS OF BULK AT MOST 1048576: true; the input reads as it did. -/
def serIsUptoRow : OpenClaim := { program := "ytkonbldjmcccmaa", sum := "0907979efa925d99638ef66f750bfc415c45655a21f7e5e17bf0bbedec1263b1", func := "spunyarn/spunyarnlaw30.SerIs", spec := "serIs", inPlace := ["internal/bytealg.Compare", "sync/atomic.AddInt64"], unfollowed := true, recurses := true, apart := false, narrowed := true }
def SerIsUptoSaid : Prop := serIsUptoRow.holds Try.pinned (OpenSpec.upto serIsSpec)

/-- 'spunyarnlaw32.StatsAre', WHERE WHAT IT READS IS OF BULK AT MOST 1048576: true; the input reads as it did. -/
def statsAreUptoRow : OpenClaim := { program := "ytkonbldjmcccmaa", sum := "0907979efa925d99638ef66f750bfc415c45655a21f7e5e17bf0bbedec1263b1", func := "spunyarn/spunyarnlaw32.StatsAre", spec := "statsAre", inPlace := ["internal/bytealg.Compare", "sync/atomic.AddInt64"], unfollowed := true, recurses := true, apart := false, narrowed := true }
def StatsAreUptoSaid : Prop := statsAreUptoRow.holds Try.pinned (OpenSpec.upto statsAreSpec)

/-- 'spunyarnlaw32.StatsApart', WHERE WHAT IT READS IS OF BULK AT MOST 1048576: true; the input reads as it did. -/
def statsApartUptoRow : OpenClaim := { program := "ytkonbldjmcccmaa", sum := "0907979efa925d99638ef66f750bfc415c45655a21f7e5e17bf0bbedec1263b1", func := "spunyarn/spunyarnlaw32.StatsApart", spec := "statsApart", inPlace := ["internal/bytealg.Compare", "sync/atomic.AddInt64"], unfollowed := true, recurses := true, apart := false, narrowed := true }
def StatsApartUptoSaid : Prop := statsApartUptoRow.holds Try.pinned (OpenSpec.upto statsApartSpec)

end Rows
end Go.Proofs.Ytkonbldjmcccmaa
