/- What the library's functions that are known ask of the program. Written by a program of this part. -/
import Derived.Test.YtnbfkndicldppaaDel
import Derived.Test.YtnbfkndicldppaaProg
import Derived.Test.YtnbfkndicldppaaKinds
namespace Go.Proofs.Ytnbfkndicldppaa.Core
open Go
set_option linter.unusedVariables false
set_option maxRecDepth 100000

def ren_133 : Go.Shelf.Ren := ⟨fun | 41 => 133 | n => n, fun | 22 => 66 | 23 => 73 | n => n, fun | n => n⟩
theorem lays_133 : SlLaysE0.n41 Try.prog ren_133 := {
  mixed := by kernel_rfl
  f41 := ⟨Try.f133.name, by decide, Try.func133.trans (congrArg some (by kernel_rfl))⟩
  t4 := Try.underlying4
  a4 := Try.isAgg4
  z4 := Try.sizeOf4
  v4 := Try.zeroValue4
  t22 := Try.underlying66
  a22 := Try.isAgg66
  z22 := Try.sizeOf66
  v22 := Try.zeroValue66 }
theorem el_133 : elB Try.prog 73 k_Item = true := by kernel_rfl

def ren_136 : Go.Shelf.Ren := ⟨fun | 106 => 136 | 213 => 222 | 265 => 254 | n => n, fun | n => n, fun | n => n⟩
theorem lays_136 : Lays.n106 Try.prog ren_136 := {
  mixed := by kernel_rfl
  f106 := Try.func136.trans (congrArg some (by kernel_rfl))
  f213 := Try.func222.trans (congrArg some (by kernel_rfl))
  f265 := Try.func254.trans (congrArg some (by kernel_rfl))
  t3 := Try.underlying3
  a3 := Try.isAgg3
  z3 := Try.sizeOf3
  v3 := Try.zeroValue3
  t9 := Try.underlying9
  a9 := Try.isAgg9
  z9 := Try.sizeOf9
  v9 := Try.zeroValue9 }

def ren_137 : Go.Shelf.Ren := ⟨fun | 22 => 137 | 29 => 223 | 30 => 224 | n => n, fun | 24 => 66 | 9 => 73 | n => n, fun | n => n⟩
theorem lays_137 : InsL Try.prog ren_137 := {
  mixed := by kernel_rfl
  f22 := ⟨Try.f137.name, by decide, Try.func137.trans (congrArg some (by kernel_rfl))⟩
  ov := fun args w => run_callFunc_extern Try.func223 (by kernel_rfl) (by kernel_rfl) (by kernel_rfl) (by kernel_rfl) args w
  t3 := Try.underlying3
  a3 := Try.isAgg3
  z3 := Try.sizeOf3
  v3 := Try.zeroValue3
  t4 := Try.underlying4
  a4 := Try.isAgg4
  z4 := Try.sizeOf4
  v4 := Try.zeroValue4
  t24 := Try.underlying66
  a24 := Try.isAgg66
  z24 := Try.sizeOf66
  v24 := Try.zeroValue66 }
theorem el_137 : elB Try.prog 73 k_Item = true := by kernel_rfl

end Go.Proofs.Ytnbfkndicldppaa.Core
