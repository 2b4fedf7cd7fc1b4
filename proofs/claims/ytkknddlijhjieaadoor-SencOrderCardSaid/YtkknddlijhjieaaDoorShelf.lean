/-
  DERIVED: THE SHELF's CONTRACTS AT THIS DUMP, IN PLAIN WORDS (tools/lay-plain.mjs out of 'TrydShelf.lean', which tools/lay-shelf.mjs wrote): THE SAME DECLARATIONS UNDER THE SAME NAMES: 'import', 'namespace', 'open', 'def', 'theorem' AND NOTHING ELSE: no command of the shelf's: FOR A HAND-IN. Each laying: the table of numbers ('.._ren') and one theorem, a field a fact of the dump's own or the kernel's comparison; each contract: ONE APPLICATION.
-/
import Derived.Test.YtkknddlijhjieaaDoorProg
import Derived.Ground.NamesProg
import Derived.Ground.SlbNamesProg
import Derived.Shelf.Bytes.SlIndexWhole
import Derived.Shelf.Bytes.SlIndexAt
import Derived.Shelf.Bytes.SlSplit
namespace Go.Proofs
open Go.Shelf
def Tryd.layCount_ren : Go.Shelf.Ren := ⟨fun | 13 => 17 | 24 => 22 | 25 => 23 | 12 => 24 | 31 => 27 | 19 => 20 | 20 => 28 | 21 => 29 | 22 => 30 | 23 => 31 | 29 => 25 | 30 => 33 | n => n, fun | 22 => 22 | 3 => 3 | 4 => 4 | 0 => 0 | 5 => 5 | 9 => 9 | 33 => 42 | 40 => 44 | 39 => 43 | n => n, fun | 0 => 0 | n => n⟩
theorem Tryd.layCount : Go.Proofs.SlLaysC.n13 Tryd.prog Tryd.layCount_ren := {
  mixed := by kernel_rfl
  f12 := Tryd.func24.trans (congrArg some (by kernel_rfl))
  f13 := Tryd.func17.trans (congrArg some (by kernel_rfl))
  f19 := Tryd.func20.trans (congrArg some (by kernel_rfl))
  f20 := Tryd.func28.trans (congrArg some (by kernel_rfl))
  f21 := Tryd.func29.trans (congrArg some (by kernel_rfl))
  f22 := Tryd.func30.trans (congrArg some (by kernel_rfl))
  f23 := Tryd.func31.trans (congrArg some (by kernel_rfl))
  f25 := Tryd.func23.trans (congrArg some (by kernel_rfl))
  f29 := Tryd.func25.trans (congrArg some (by kernel_rfl))
  f30 := Tryd.func33.trans (congrArg some (by kernel_rfl))
  t0 := Tryd.underlying0
  a0 := Tryd.isAgg0
  z0 := Tryd.sizeOf0
  v0 := Tryd.zeroValue0
  t3 := Tryd.underlying3
  a3 := Tryd.isAgg3
  z3 := Tryd.sizeOf3
  v3 := Tryd.zeroValue3
  t4 := Tryd.underlying4
  a4 := Tryd.isAgg4
  z4 := Tryd.sizeOf4
  v4 := Tryd.zeroValue4
  t5 := Tryd.underlying5
  a5 := Tryd.isAgg5
  z5 := Tryd.sizeOf5
  v5 := Tryd.zeroValue5
  t9 := Tryd.underlying9
  a9 := Tryd.isAgg9
  z9 := Tryd.sizeOf9
  v9 := Tryd.zeroValue9
  t22 := Tryd.underlying22
  a22 := Tryd.isAgg22
  z22 := Tryd.sizeOf22
  v22 := Tryd.zeroValue22
  t33 := Tryd.underlying42
  a33 := Tryd.isAgg42
  z33 := Tryd.sizeOf42
  v33 := Tryd.zeroValue42
  t39 := Tryd.underlying43
  a39 := Tryd.isAgg43
  z39 := Tryd.sizeOf43
  v39 := Tryd.zeroValue43
  t40 := Tryd.underlying44
  a40 := Tryd.isAgg44
  z40 := Tryd.sizeOf44
  v40 := Tryd.zeroValue44
  g0 := by kernel_rfl }
def Tryd.layIndex_ren : Go.Shelf.Ren := ⟨fun | 185 => 24 | 187 => 20 | 115 => 28 | 253 => 29 | 224 => 30 | 254 => 31 | 255 => 25 | 291 => 33 | n => n, fun | 37 => 22 | 3 => 3 | 4 => 4 | 0 => 0 | 5 => 5 | 46 => 42 | 9 => 9 | 146 => 44 | 51 => 43 | n => n, fun | 1 => 0 | n => n⟩
theorem Tryd.layIndex : Go.Proofs.Lays.n185 Tryd.prog Tryd.layIndex_ren := {
  mixed := by kernel_rfl
  f115 := Tryd.func28.trans (congrArg some (by kernel_rfl))
  f185 := Tryd.func24.trans (congrArg some (by kernel_rfl))
  f187 := Tryd.func20.trans (congrArg some (by kernel_rfl))
  f224 := Tryd.func30.trans (congrArg some (by kernel_rfl))
  f253 := Tryd.func29.trans (congrArg some (by kernel_rfl))
  f254 := Tryd.func31.trans (congrArg some (by kernel_rfl))
  f255 := Tryd.func25.trans (congrArg some (by kernel_rfl))
  f291 := Tryd.func33.trans (congrArg some (by kernel_rfl))
  t0 := Tryd.underlying0
  a0 := Tryd.isAgg0
  z0 := Tryd.sizeOf0
  v0 := Tryd.zeroValue0
  t3 := Tryd.underlying3
  a3 := Tryd.isAgg3
  z3 := Tryd.sizeOf3
  v3 := Tryd.zeroValue3
  t4 := Tryd.underlying4
  a4 := Tryd.isAgg4
  z4 := Tryd.sizeOf4
  v4 := Tryd.zeroValue4
  t5 := Tryd.underlying5
  a5 := Tryd.isAgg5
  z5 := Tryd.sizeOf5
  v5 := Tryd.zeroValue5
  t9 := Tryd.underlying9
  a9 := Tryd.isAgg9
  z9 := Tryd.sizeOf9
  v9 := Tryd.zeroValue9
  t37 := Tryd.underlying22
  a37 := Tryd.isAgg22
  z37 := Tryd.sizeOf22
  v37 := Tryd.zeroValue22
  t46 := Tryd.underlying42
  a46 := Tryd.isAgg42
  z46 := Tryd.sizeOf42
  v46 := Tryd.zeroValue42
  t51 := Tryd.underlying43
  a51 := Tryd.isAgg43
  z51 := Tryd.sizeOf43
  v51 := Tryd.zeroValue43
  t146 := Tryd.underlying44
  a146 := Tryd.isAgg44
  z146 := Tryd.sizeOf44
  v146 := Tryd.zeroValue44
  g1 := by kernel_rfl }
def Tryd.layIndexByte_ren : Go.Shelf.Ren := ⟨fun | 187 => 20 | 255 => 25 | n => n, fun | 37 => 22 | 5 => 5 | 3 => 3 | n => n, fun | n => n⟩
theorem Tryd.layIndexByte : Go.Proofs.Lays.n187 Tryd.prog Tryd.layIndexByte_ren := {
  mixed := by kernel_rfl
  f187 := Tryd.func20.trans (congrArg some (by kernel_rfl))
  f255 := Tryd.func25.trans (congrArg some (by kernel_rfl))
  t3 := Tryd.underlying3
  a3 := Tryd.isAgg3
  z3 := Tryd.sizeOf3
  v3 := Tryd.zeroValue3
  t5 := Tryd.underlying5
  a5 := Tryd.isAgg5
  z5 := Tryd.sizeOf5
  v5 := Tryd.zeroValue5
  t37 := Tryd.underlying22
  a37 := Tryd.isAgg22
  z37 := Tryd.sizeOf22
  v37 := Tryd.zeroValue22 }
end Go.Proofs
