/-
  No cell of these rows narrows 'for every input' (looked for: loops, veiled, ifaces, maps, wideKeys, modest, calm, conditions, laid).
  DERIVED. THE GIVEN ROWS OF THIS SEAT. 12 by the template 'for every input the law returns true; each argument reads behind the call as it read before'; 0 by the template 'total and deterministic' (their statements: YthifjldmhfpkhaaTotals.lean).
  GIVEN WITH THE SEED: the statements are not yours to turn. If you find one false, say at which input.
  Laid BY PROGRAM, IN A SANDBOX (cutbox-rows.mjs): the forced cells as the released guide's own fill.sh prints them over the translation 8f43718b806249ae… (all of the seat's roots in one cut). By AI agents, Wed Nov 11 2026. No macro, syntax, notation, axiom, sorry.
-/
import Derived.Test.YthifjldmhfpkhaaChecked
import GoSem.Claim
import GoSem.ClaimJoined
import GoSem.ClaimMapViews
import Derived.JoinedTies
import Derived.KernelRfl
namespace Go.Proofs.Ythifjldmhfpkhaa
/- THE CELL 'sum', in the pinned program and in every row, IS THE sha256 OF THE DUMP (.gsa) THAT YthifjldmhfpkhaaProg.lean LOADS. Nothing in Lean hashes anything: it is a label: what it is worth is what the hold of that sum in a sandbox is worth. -/
noncomputable def Try.pinned : Pinned := { name := "ythifjldmhfpkhaa", sum := "8f43718b806249aedff2db2558e16429fd0f91001d76c556d43f4126e3f9aaa1", checked := Try.checked }
namespace Rows
def none {H : Type} : Left H := { results := [], args := [] }

/-- 'spunyarnlaw11.KidsKind': WHATEVER THE INPUT: true; the input reads as it did. -/
def kidsKindSpec : ChangeSpec := { name := "kidsKind", fn := fun _ => fun
  | [d] => { results := [.lit (.bool true)], args := [d] }
  | _ => none }
def kidsKindRow : OpenClaim := { program := "ythifjldmhfpkhaa", sum := "8f43718b806249aedff2db2558e16429fd0f91001d76c556d43f4126e3f9aaa1", func := "spunyarn/spunyarnlaw11.KidsKind", spec := "kidsKind", apart := false }
def KidsKindSaid : Prop := kidsKindRow.holds Try.pinned (OpenSpec.ofChange kidsKindSpec)

/-- ITS FALSE NEIGHBOUR: 'it returns false'. Refute it at one input. -/
def kidsKindWrong : ChangeSpec := { name := "kidsKind", fn := fun _ => fun
  | [d] => { results := [.lit (.bool false)], args := [d] }
  | _ => none }
def KidsKindWrongFalsely : Prop := kidsKindRow.holds Try.pinned (OpenSpec.ofChange kidsKindWrong)

/-- 'spunyarnlaw11.KidsOrder': WHATEVER THE INPUT: true; the input reads as it did. -/
def kidsOrderSpec : ChangeSpec := { name := "kidsOrder", fn := fun _ => fun
  | [d1, d2] => { results := [.lit (.bool true)], args := [d1, d2] }
  | _ => none }
def kidsOrderRow : OpenClaim := { program := "ythifjldmhfpkhaa", sum := "8f43718b806249aedff2db2558e16429fd0f91001d76c556d43f4126e3f9aaa1", func := "spunyarn/spunyarnlaw11.KidsOrder", spec := "kidsOrder", apart := false }
def KidsOrderSaid : Prop := kidsOrderRow.holds Try.pinned (OpenSpec.ofChange kidsOrderSpec)

/-- ITS FALSE NEIGHBOUR: 'it returns false'. Refute it at one input. -/
def kidsOrderWrong : ChangeSpec := { name := "kidsOrder", fn := fun _ => fun
  | [d1, d2] => { results := [.lit (.bool false)], args := [d1, d2] }
  | _ => none }
def KidsOrderWrongFalsely : Prop := kidsOrderRow.holds Try.pinned (OpenSpec.ofChange kidsOrderWrong)

/-- 'spunyarnlaw11.KidsPlays': WHATEVER THE INPUT: true; the input reads as it did. -/
def kidsPlaysSpec : ChangeSpec := { name := "kidsPlays", fn := fun _ => fun
  | [d1, d2] => { results := [.lit (.bool true)], args := [d1, d2] }
  | _ => none }
def kidsPlaysRow : OpenClaim := { program := "ythifjldmhfpkhaa", sum := "8f43718b806249aedff2db2558e16429fd0f91001d76c556d43f4126e3f9aaa1", func := "spunyarn/spunyarnlaw11.KidsPlays", spec := "kidsPlays", apart := false }
def KidsPlaysSaid : Prop := kidsPlaysRow.holds Try.pinned (OpenSpec.ofChange kidsPlaysSpec)

/-- ITS FALSE NEIGHBOUR: 'it returns false'. Refute it at one input. -/
def kidsPlaysWrong : ChangeSpec := { name := "kidsPlays", fn := fun _ => fun
  | [d1, d2] => { results := [.lit (.bool false)], args := [d1, d2] }
  | _ => none }
def KidsPlaysWrongFalsely : Prop := kidsPlaysRow.holds Try.pinned (OpenSpec.ofChange kidsPlaysWrong)

/-- 'spunyarnlaw11.KidsNobody': WHATEVER THE INPUT: true; the input reads as it did. -/
def kidsNobodySpec : ChangeSpec := { name := "kidsNobody", fn := fun _ => fun
  | [d1, d2] => { results := [.lit (.bool true)], args := [d1, d2] }
  | _ => none }
def kidsNobodyRow : OpenClaim := { program := "ythifjldmhfpkhaa", sum := "8f43718b806249aedff2db2558e16429fd0f91001d76c556d43f4126e3f9aaa1", func := "spunyarn/spunyarnlaw11.KidsNobody", spec := "kidsNobody", apart := false }
def KidsNobodySaid : Prop := kidsNobodyRow.holds Try.pinned (OpenSpec.ofChange kidsNobodySpec)

/-- ITS FALSE NEIGHBOUR: 'it returns false'. Refute it at one input. -/
def kidsNobodyWrong : ChangeSpec := { name := "kidsNobody", fn := fun _ => fun
  | [d1, d2] => { results := [.lit (.bool false)], args := [d1, d2] }
  | _ => none }
def KidsNobodyWrongFalsely : Prop := kidsNobodyRow.holds Try.pinned (OpenSpec.ofChange kidsNobodyWrong)

/-- 'spunyarnlaw12.NodeFrozen': WHATEVER THE INPUT: true; the input reads as it did. -/
def nodeFrozenSpec : ChangeSpec := { name := "nodeFrozen", fn := fun _ => fun
  | [d1, d2, d3] => { results := [.lit (.bool true)], args := [d1, d2, d3] }
  | _ => none }
def nodeFrozenRow : OpenClaim := { program := "ythifjldmhfpkhaa", sum := "8f43718b806249aedff2db2558e16429fd0f91001d76c556d43f4126e3f9aaa1", func := "spunyarn/spunyarnlaw12.NodeFrozen", spec := "nodeFrozen", inPlace := ["sync/atomic.AddInt64", "sync/atomic.LoadInt64"], apart := false }
def NodeFrozenSaid : Prop := nodeFrozenRow.holds Try.pinned (OpenSpec.ofChange nodeFrozenSpec)

/-- ITS FALSE NEIGHBOUR: 'it returns false'. Refute it at one input. -/
def nodeFrozenWrong : ChangeSpec := { name := "nodeFrozen", fn := fun _ => fun
  | [d1, d2, d3] => { results := [.lit (.bool false)], args := [d1, d2, d3] }
  | _ => none }
def NodeFrozenWrongFalsely : Prop := nodeFrozenRow.holds Try.pinned (OpenSpec.ofChange nodeFrozenWrong)

/-- 'spunyarnlaw12.NodeCopies': WHATEVER THE INPUT: true; the input reads as it did. -/
def nodeCopiesSpec : ChangeSpec := { name := "nodeCopies", fn := fun _ => fun
  | [d1, d2, d3] => { results := [.lit (.bool true)], args := [d1, d2, d3] }
  | _ => none }
def nodeCopiesRow : OpenClaim := { program := "ythifjldmhfpkhaa", sum := "8f43718b806249aedff2db2558e16429fd0f91001d76c556d43f4126e3f9aaa1", func := "spunyarn/spunyarnlaw12.NodeCopies", spec := "nodeCopies", inPlace := ["sync/atomic.AddInt64", "sync/atomic.LoadInt64"], apart := false }
def NodeCopiesSaid : Prop := nodeCopiesRow.holds Try.pinned (OpenSpec.ofChange nodeCopiesSpec)

/-- ITS FALSE NEIGHBOUR: 'it returns false'. Refute it at one input. -/
def nodeCopiesWrong : ChangeSpec := { name := "nodeCopies", fn := fun _ => fun
  | [d1, d2, d3] => { results := [.lit (.bool false)], args := [d1, d2, d3] }
  | _ => none }
def NodeCopiesWrongFalsely : Prop := nodeCopiesRow.holds Try.pinned (OpenSpec.ofChange nodeCopiesWrong)

/-- 'spunyarnlaw14.FindGets': WHATEVER THE INPUT: true; the input reads as it did. -/
def findGetsSpec : ChangeSpec := { name := "findGets", fn := fun _ => fun
  | [d1, d2] => { results := [.lit (.bool true)], args := [d1, d2] }
  | _ => none }
def findGetsRow : OpenClaim := { program := "ythifjldmhfpkhaa", sum := "8f43718b806249aedff2db2558e16429fd0f91001d76c556d43f4126e3f9aaa1", func := "spunyarn/spunyarnlaw14.FindGets", spec := "findGets", inPlace := ["internal/bytealg.Compare", "sync/atomic.AddInt64"], unfollowed := true, recurses := true, apart := false }
def FindGetsSaid : Prop := findGetsRow.holds Try.pinned (OpenSpec.ofChange findGetsSpec)

/-- ITS FALSE NEIGHBOUR: 'it returns false'. Refute it at one input. -/
def findGetsWrong : ChangeSpec := { name := "findGets", fn := fun _ => fun
  | [d1, d2] => { results := [.lit (.bool false)], args := [d1, d2] }
  | _ => none }
def FindGetsWrongFalsely : Prop := findGetsRow.holds Try.pinned (OpenSpec.ofChange findGetsWrong)

/-- 'spunyarnlaw14.FindAll': WHATEVER THE INPUT: true; the input reads as it did. -/
def findAllSpec : ChangeSpec := { name := "findAll", fn := fun _ => fun
  | [d1, d2] => { results := [.lit (.bool true)], args := [d1, d2] }
  | _ => none }
def findAllRow : OpenClaim := { program := "ythifjldmhfpkhaa", sum := "8f43718b806249aedff2db2558e16429fd0f91001d76c556d43f4126e3f9aaa1", func := "spunyarn/spunyarnlaw14.FindAll", spec := "findAll", inPlace := ["internal/bytealg.Compare", "sync/atomic.AddInt64"], unfollowed := true, recurses := true, apart := false }
def FindAllSaid : Prop := findAllRow.holds Try.pinned (OpenSpec.ofChange findAllSpec)

/-- ITS FALSE NEIGHBOUR: 'it returns false'. Refute it at one input. -/
def findAllWrong : ChangeSpec := { name := "findAll", fn := fun _ => fun
  | [d1, d2] => { results := [.lit (.bool false)], args := [d1, d2] }
  | _ => none }
def FindAllWrongFalsely : Prop := findAllRow.holds Try.pinned (OpenSpec.ofChange findAllWrong)

/-- 'spunyarnlaw14.FindSteps': WHATEVER THE INPUT: true; the input reads as it did. -/
def findStepsSpec : ChangeSpec := { name := "findSteps", fn := fun _ => fun
  | [d1, d2] => { results := [.lit (.bool true)], args := [d1, d2] }
  | _ => none }
def findStepsRow : OpenClaim := { program := "ythifjldmhfpkhaa", sum := "8f43718b806249aedff2db2558e16429fd0f91001d76c556d43f4126e3f9aaa1", func := "spunyarn/spunyarnlaw14.FindSteps", spec := "findSteps", inPlace := ["internal/bytealg.Compare", "sync/atomic.AddInt64"], unfollowed := true, recurses := true, apart := false }
def FindStepsSaid : Prop := findStepsRow.holds Try.pinned (OpenSpec.ofChange findStepsSpec)

/-- ITS FALSE NEIGHBOUR: 'it returns false'. Refute it at one input. -/
def findStepsWrong : ChangeSpec := { name := "findSteps", fn := fun _ => fun
  | [d1, d2] => { results := [.lit (.bool false)], args := [d1, d2] }
  | _ => none }
def FindStepsWrongFalsely : Prop := findStepsRow.holds Try.pinned (OpenSpec.ofChange findStepsWrong)

/-- 'spunyarnlaw14.FindRaws': WHATEVER THE INPUT: true; the input reads as it did. -/
def findRawsSpec : ChangeSpec := { name := "findRaws", fn := fun _ => fun
  | [d1, d2, d3] => { results := [.lit (.bool true)], args := [d1, d2, d3] }
  | _ => none }
def findRawsRow : OpenClaim := { program := "ythifjldmhfpkhaa", sum := "8f43718b806249aedff2db2558e16429fd0f91001d76c556d43f4126e3f9aaa1", func := "spunyarn/spunyarnlaw14.FindRaws", spec := "findRaws", inPlace := ["internal/bytealg.Compare", "sync/atomic.AddInt64"], unfollowed := true, recurses := true, apart := false }
def FindRawsSaid : Prop := findRawsRow.holds Try.pinned (OpenSpec.ofChange findRawsSpec)

/-- ITS FALSE NEIGHBOUR: 'it returns false'. Refute it at one input. -/
def findRawsWrong : ChangeSpec := { name := "findRaws", fn := fun _ => fun
  | [d1, d2, d3] => { results := [.lit (.bool false)], args := [d1, d2, d3] }
  | _ => none }
def FindRawsWrongFalsely : Prop := findRawsRow.holds Try.pinned (OpenSpec.ofChange findRawsWrong)

/-- 'spunyarnlaw12.NodePlays': WHATEVER THE INPUT: true; the input reads as it did. -/
def nodePlaysSpec : ChangeSpec := { name := "nodePlays", fn := fun _ => fun
  | [d1, d2] => { results := [.lit (.bool true)], args := [d1, d2] }
  | _ => none }
def nodePlaysRow : OpenClaim := { program := "ythifjldmhfpkhaa", sum := "8f43718b806249aedff2db2558e16429fd0f91001d76c556d43f4126e3f9aaa1", func := "spunyarn/spunyarnlaw12.NodePlays", spec := "nodePlays", inPlace := ["sync/atomic.AddInt64", "sync/atomic.LoadInt64"], apart := false }
def NodePlaysSaid : Prop := nodePlaysRow.holds Try.pinned (OpenSpec.ofChange nodePlaysSpec)

/-- ITS FALSE NEIGHBOUR: 'it returns false'. Refute it at one input. -/
def nodePlaysWrong : ChangeSpec := { name := "nodePlays", fn := fun _ => fun
  | [d1, d2] => { results := [.lit (.bool false)], args := [d1, d2] }
  | _ => none }
def NodePlaysWrongFalsely : Prop := nodePlaysRow.holds Try.pinned (OpenSpec.ofChange nodePlaysWrong)

/-- 'spunyarnlaw12.NodeNobody': WHATEVER THE INPUT: true; the input reads as it did. -/
def nodeNobodySpec : ChangeSpec := { name := "nodeNobody", fn := fun _ => fun
  | [d1, d2, d3] => { results := [.lit (.bool true)], args := [d1, d2, d3] }
  | _ => none }
def nodeNobodyRow : OpenClaim := { program := "ythifjldmhfpkhaa", sum := "8f43718b806249aedff2db2558e16429fd0f91001d76c556d43f4126e3f9aaa1", func := "spunyarn/spunyarnlaw12.NodeNobody", spec := "nodeNobody", inPlace := ["sync/atomic.AddInt64", "sync/atomic.LoadInt64"], apart := false }
def NodeNobodySaid : Prop := nodeNobodyRow.holds Try.pinned (OpenSpec.ofChange nodeNobodySpec)

/-- ITS FALSE NEIGHBOUR: 'it returns false'. Refute it at one input. -/
def nodeNobodyWrong : ChangeSpec := { name := "nodeNobody", fn := fun _ => fun
  | [d1, d2, d3] => { results := [.lit (.bool false)], args := [d1, d2, d3] }
  | _ => none }
def NodeNobodyWrongFalsely : Prop := nodeNobodyRow.holds Try.pinned (OpenSpec.ofChange nodeNobodyWrong)

/- THE SECOND FORM. 'bulk': how many values and letters a reading holds, each counted each time it is reached (what is shared counts as often as it is met; a slice's spare places count too). A statement '..UptoSaid' is the law's where the arguments, and the package variables that the reading takes, are together of bulk at most 1048576: NARROWER than '..Said'. Prove '..Said' where nothing that the law and all that it calls make is longer than what came in: it says more and counts as full. Else prove '..UptoSaid'. A law counts once. -/
mutual
def uptoBulk {H : Type} : DataW H → Nat
  | .lit (.string bytes) => bytes.length + 1
  | .lit _ => 1
  | .nil => 1
  | .ptr d => uptoBulk d + 1
  | .slice elems spare => uptoBulkAll elems + uptoBulkAll spare + 1
  | .agg parts => uptoBulkAll parts + 1
  | .iface _ d => uptoBulk d + 1
  | .map entries => uptoBulkEntries entries + 1
  | .held _ => 1
def uptoBulkAll {H : Type} : List (DataW H) → Nat
  | [] => 0
  | d :: r => uptoBulk d + uptoBulkAll r
def uptoBulkEntries {H : Type} : List (Lit × DataW H) → Nat
  | [] => 0
  | x :: r => uptoBulkEntry x + uptoBulkEntries r
def uptoBulkEntry {H : Type} : Lit × DataW H → Nat
  | (.string bytes, d) => bytes.length + uptoBulk d + 1
  | (_, d) => uptoBulk d + 1
 end
def uptoSmall : (H : Type) → List (DataW H) → Bool := fun _ ds => decide (uptoBulkAll ds ≤ 1048576)
def OpenSpec.upto (s : _root_.Go.ChangeSpec) : _root_.Go.OpenSpec := { _root_.Go.OpenSpec.ofChange s with cond := some uptoSmall }

/-- 'spunyarnlaw11.KidsKind', WHERE WHAT IT READS IS OF BULK AT MOST 1048576: true; the input reads as it did. -/
def kidsKindUptoRow : OpenClaim := { program := "ythifjldmhfpkhaa", sum := "8f43718b806249aedff2db2558e16429fd0f91001d76c556d43f4126e3f9aaa1", func := "spunyarn/spunyarnlaw11.KidsKind", spec := "kidsKind", apart := false, narrowed := true }
def KidsKindUptoSaid : Prop := kidsKindUptoRow.holds Try.pinned (OpenSpec.upto kidsKindSpec)

/-- 'spunyarnlaw11.KidsOrder', WHERE WHAT IT READS IS OF BULK AT MOST 1048576: true; the input reads as it did. -/
def kidsOrderUptoRow : OpenClaim := { program := "ythifjldmhfpkhaa", sum := "8f43718b806249aedff2db2558e16429fd0f91001d76c556d43f4126e3f9aaa1", func := "spunyarn/spunyarnlaw11.KidsOrder", spec := "kidsOrder", apart := false, narrowed := true }
def KidsOrderUptoSaid : Prop := kidsOrderUptoRow.holds Try.pinned (OpenSpec.upto kidsOrderSpec)

/-- 'spunyarnlaw11.KidsPlays', WHERE WHAT IT READS IS OF BULK AT MOST 1048576: true; the input reads as it did. -/
def kidsPlaysUptoRow : OpenClaim := { program := "ythifjldmhfpkhaa", sum := "8f43718b806249aedff2db2558e16429fd0f91001d76c556d43f4126e3f9aaa1", func := "spunyarn/spunyarnlaw11.KidsPlays", spec := "kidsPlays", apart := false, narrowed := true }
def KidsPlaysUptoSaid : Prop := kidsPlaysUptoRow.holds Try.pinned (OpenSpec.upto kidsPlaysSpec)

/-- 'spunyarnlaw11.KidsNobody', WHERE WHAT IT READS IS OF BULK AT MOST 1048576: true; the input reads as it did. -/
def kidsNobodyUptoRow : OpenClaim := { program := "ythifjldmhfpkhaa", sum := "8f43718b806249aedff2db2558e16429fd0f91001d76c556d43f4126e3f9aaa1", func := "spunyarn/spunyarnlaw11.KidsNobody", spec := "kidsNobody", apart := false, narrowed := true }
def KidsNobodyUptoSaid : Prop := kidsNobodyUptoRow.holds Try.pinned (OpenSpec.upto kidsNobodySpec)

/-- 'spunyarnlaw12.NodeFrozen', WHERE WHAT IT READS IS OF BULK AT MOST 1048576: true; the input reads as it did. -/
def nodeFrozenUptoRow : OpenClaim := { program := "ythifjldmhfpkhaa", sum := "8f43718b806249aedff2db2558e16429fd0f91001d76c556d43f4126e3f9aaa1", func := "spunyarn/spunyarnlaw12.NodeFrozen", spec := "nodeFrozen", inPlace := ["sync/atomic.AddInt64", "sync/atomic.LoadInt64"], apart := false, narrowed := true }
def NodeFrozenUptoSaid : Prop := nodeFrozenUptoRow.holds Try.pinned (OpenSpec.upto nodeFrozenSpec)

/-- 'spunyarnlaw12.NodeCopies', WHERE WHAT IT READS IS OF BULK AT MOST 1048576: true; the input reads as it did. -/
def nodeCopiesUptoRow : OpenClaim := { program := "ythifjldmhfpkhaa", sum := "8f43718b806249aedff2db2558e16429fd0f91001d76c556d43f4126e3f9aaa1", func := "spunyarn/spunyarnlaw12.NodeCopies", spec := "nodeCopies", inPlace := ["sync/atomic.AddInt64", "sync/atomic.LoadInt64"], apart := false, narrowed := true }
def NodeCopiesUptoSaid : Prop := nodeCopiesUptoRow.holds Try.pinned (OpenSpec.upto nodeCopiesSpec)

/-- 'spunyarnlaw14.FindGets', WHERE WHAT IT READS IS OF BULK AT MOST 1048576: true; the input reads as it did. -/
def findGetsUptoRow : OpenClaim := { program := "ythifjldmhfpkhaa", sum := "8f43718b806249aedff2db2558e16429fd0f91001d76c556d43f4126e3f9aaa1", func := "spunyarn/spunyarnlaw14.FindGets", spec := "findGets", inPlace := ["internal/bytealg.Compare", "sync/atomic.AddInt64"], unfollowed := true, recurses := true, apart := false, narrowed := true }
def FindGetsUptoSaid : Prop := findGetsUptoRow.holds Try.pinned (OpenSpec.upto findGetsSpec)

/-- 'spunyarnlaw14.FindAll', WHERE WHAT IT READS IS OF BULK AT MOST 1048576: true; the input reads as it did. -/
def findAllUptoRow : OpenClaim := { program := "ythifjldmhfpkhaa", sum := "8f43718b806249aedff2db2558e16429fd0f91001d76c556d43f4126e3f9aaa1", func := "spunyarn/spunyarnlaw14.FindAll", spec := "findAll", inPlace := ["internal/bytealg.Compare", "sync/atomic.AddInt64"], unfollowed := true, recurses := true, apart := false, narrowed := true }
def FindAllUptoSaid : Prop := findAllUptoRow.holds Try.pinned (OpenSpec.upto findAllSpec)

/-- 'spunyarnlaw14.FindSteps', WHERE WHAT IT READS IS OF BULK AT MOST 1048576: true; the input reads as it did. -/
def findStepsUptoRow : OpenClaim := { program := "ythifjldmhfpkhaa", sum := "8f43718b806249aedff2db2558e16429fd0f91001d76c556d43f4126e3f9aaa1", func := "spunyarn/spunyarnlaw14.FindSteps", spec := "findSteps", inPlace := ["internal/bytealg.Compare", "sync/atomic.AddInt64"], unfollowed := true, recurses := true, apart := false, narrowed := true }
def FindStepsUptoSaid : Prop := findStepsUptoRow.holds Try.pinned (OpenSpec.upto findStepsSpec)

/-- 'spunyarnlaw14.FindRaws', WHERE WHAT IT READS IS OF BULK AT MOST 1048576: true; the input reads as it did. -/
def findRawsUptoRow : OpenClaim := { program := "ythifjldmhfpkhaa", sum := "8f43718b806249aedff2db2558e16429fd0f91001d76c556d43f4126e3f9aaa1", func := "spunyarn/spunyarnlaw14.FindRaws", spec := "findRaws", inPlace := ["internal/bytealg.Compare", "sync/atomic.AddInt64"], unfollowed := true, recurses := true, apart := false, narrowed := true }
def FindRawsUptoSaid : Prop := findRawsUptoRow.holds Try.pinned (OpenSpec.upto findRawsSpec)

/-- 'spunyarnlaw12.NodePlays', WHERE WHAT IT READS IS OF BULK AT MOST 1048576: true; the input reads as it did. -/
def nodePlaysUptoRow : OpenClaim := { program := "ythifjldmhfpkhaa", sum := "8f43718b806249aedff2db2558e16429fd0f91001d76c556d43f4126e3f9aaa1", func := "spunyarn/spunyarnlaw12.NodePlays", spec := "nodePlays", inPlace := ["sync/atomic.AddInt64", "sync/atomic.LoadInt64"], apart := false, narrowed := true }
def NodePlaysUptoSaid : Prop := nodePlaysUptoRow.holds Try.pinned (OpenSpec.upto nodePlaysSpec)

/-- 'spunyarnlaw12.NodeNobody', WHERE WHAT IT READS IS OF BULK AT MOST 1048576: true; the input reads as it did. -/
def nodeNobodyUptoRow : OpenClaim := { program := "ythifjldmhfpkhaa", sum := "8f43718b806249aedff2db2558e16429fd0f91001d76c556d43f4126e3f9aaa1", func := "spunyarn/spunyarnlaw12.NodeNobody", spec := "nodeNobody", inPlace := ["sync/atomic.AddInt64", "sync/atomic.LoadInt64"], apart := false, narrowed := true }
def NodeNobodyUptoSaid : Prop := nodeNobodyUptoRow.holds Try.pinned (OpenSpec.upto nodeNobodySpec)

end Rows
end Go.Proofs.Ythifjldmhfpkhaa
