/- What the library's functions that are known ask of the program. Written by a program of this part. -/
import Derived.Test.YtnbfkndicldppaaDel
import Derived.Test.YtnbfkndicldppaaProg
import Derived.Test.YtnbfkndicldppaaKinds
namespace Go.Proofs.Ytnbfkndicldppaa.Core
open Go
set_option linter.unusedVariables false
set_option maxRecDepth 100000

def ren_230 : Go.Shelf.Ren := ⟨fun | 41 => 230 | n => n, fun | 22 => 29 | 23 => 9 | n => n, fun | n => n⟩
theorem lays_230 : SlLaysE0.n41 Try.prog ren_230 := {
  mixed := by kernel_rfl
  f41 := ⟨Try.f230.name, by decide, Try.func230.trans (congrArg some (by kernel_rfl))⟩
  t4 := Try.underlying4
  a4 := Try.isAgg4
  z4 := Try.sizeOf4
  v4 := Try.zeroValue4
  t22 := Try.underlying29
  a22 := Try.isAgg29
  z22 := Try.sizeOf29
  v22 := Try.zeroValue29 }
theorem el_230 : elB Try.prog 9 .str = true := by kernel_rfl

def ren_231 : Go.Shelf.Ren := ⟨fun | 22 => 231 | 29 => 256 | 30 => 257 | n => n, fun | 24 => 29 | 9 => 9 | n => n, fun | n => n⟩
theorem lays_231 : InsL Try.prog ren_231 := {
  mixed := by kernel_rfl
  f22 := ⟨Try.f231.name, by decide, Try.func231.trans (congrArg some (by kernel_rfl))⟩
  ov := fun args w => run_callFunc_extern Try.func256 (by kernel_rfl) (by kernel_rfl) (by kernel_rfl) (by kernel_rfl) args w
  t3 := Try.underlying3
  a3 := Try.isAgg3
  z3 := Try.sizeOf3
  v3 := Try.zeroValue3
  t4 := Try.underlying4
  a4 := Try.isAgg4
  z4 := Try.sizeOf4
  v4 := Try.zeroValue4
  t24 := Try.underlying29
  a24 := Try.isAgg29
  z24 := Try.sizeOf29
  v24 := Try.zeroValue29 }
theorem el_231 : elB Try.prog 9 .str = true := by kernel_rfl

def ren_232 : Go.Shelf.Ren := ⟨fun | 45 => 232 | n => n, fun | 22 => 29 | 23 => 9 | n => n, fun | n => n⟩
theorem lays_232 : SlLaysE0.n45 Try.prog ren_232 := {
  mixed := by kernel_rfl
  f45 := ⟨Try.f232.name, by decide, Try.func232.trans (congrArg some (by kernel_rfl))⟩
  t0 := Try.underlying0
  a0 := Try.isAgg0
  z0 := Try.sizeOf0
  v0 := Try.zeroValue0
  t3 := Try.underlying3
  a3 := Try.isAgg3
  z3 := Try.sizeOf3
  v3 := Try.zeroValue3
  t4 := Try.underlying4
  a4 := Try.isAgg4
  z4 := Try.sizeOf4
  v4 := Try.zeroValue4
  t22 := Try.underlying29
  a22 := Try.isAgg29
  z22 := Try.sizeOf29
  v22 := Try.zeroValue29 }
theorem el_232 : elB Try.prog 9 .str = true := by kernel_rfl

end Go.Proofs.Ytnbfkndicldppaa.Core
