/- The table of functions, held against the loaded program. Written by a program of this part. -/
import Derived.Test.YtlegaocnobapgaaA0
import Derived.Test.YtlegaocnobapgaaA1
import Derived.Test.YtlegaocnobapgaaA2
import Derived.Test.YtlegaocnobapgaaA3
import Derived.Test.YtlegaocnobapgaaA4
import Derived.Test.YtlegaocnobapgaaProg
namespace Go.Proofs.Ytlegaocnobapgaa.Core
open Go
set_option linter.unusedVariables false
set_option maxRecDepth 100000

def table : List (Nat × AFn) := [(3, a3), (4, a4), (6, a6), (10, a10), (15, a15), (16, a16), (17, a17), (18, a18), (19, a19), (20, a20), (21, a21), (22, a22), (28, a28), (29, a29), (30, a30), (31, a31), (32, a32), (33, a33), (45, a45), (46, a46), (47, a47), (48, a48), (49, a49), (66, a66), (67, a67), (68, a68), (69, a69), (72, a72), (73, a73), (74, a74), (83, a83), (84, a84)]
def fns (f : Nat) : Option AFn := look f table
def prims : Cal := fun _ _ _ => none
theorem b3 : afnB Try.prog 3 a3 = true := by kernel_rfl
theorem b4 : afnB Try.prog 4 a4 = true := by kernel_rfl
theorem b6 : afnB Try.prog 6 a6 = true := by kernel_rfl
theorem b10 : afnB Try.prog 10 a10 = true := by kernel_rfl
theorem b15 : afnB Try.prog 15 a15 = true := by kernel_rfl
theorem b16 : afnB Try.prog 16 a16 = true := by kernel_rfl
theorem b17 : afnB Try.prog 17 a17 = true := by kernel_rfl
theorem b18 : afnB Try.prog 18 a18 = true := by kernel_rfl
theorem b19 : afnB Try.prog 19 a19 = true := by kernel_rfl
theorem b20 : afnB Try.prog 20 a20 = true := by kernel_rfl
theorem b21 : afnB Try.prog 21 a21 = true := by kernel_rfl
theorem b22 : afnB Try.prog 22 a22 = true := by kernel_rfl
theorem b28 : afnB Try.prog 28 a28 = true := by kernel_rfl
theorem b29 : afnB Try.prog 29 a29 = true := by kernel_rfl
theorem b30 : afnB Try.prog 30 a30 = true := by kernel_rfl
theorem b31 : afnB Try.prog 31 a31 = true := by kernel_rfl
theorem b32 : afnB Try.prog 32 a32 = true := by kernel_rfl
theorem b33 : afnB Try.prog 33 a33 = true := by kernel_rfl
theorem b45 : afnB Try.prog 45 a45 = true := by kernel_rfl
theorem b46 : afnB Try.prog 46 a46 = true := by kernel_rfl
theorem b47 : afnB Try.prog 47 a47 = true := by kernel_rfl
theorem b48 : afnB Try.prog 48 a48 = true := by kernel_rfl
theorem b49 : afnB Try.prog 49 a49 = true := by kernel_rfl
theorem b66 : afnB Try.prog 66 a66 = true := by kernel_rfl
theorem b67 : afnB Try.prog 67 a67 = true := by kernel_rfl
theorem b68 : afnB Try.prog 68 a68 = true := by kernel_rfl
theorem b69 : afnB Try.prog 69 a69 = true := by kernel_rfl
theorem b72 : afnB Try.prog 72 a72 = true := by kernel_rfl
theorem b73 : afnB Try.prog 73 a73 = true := by kernel_rfl
theorem b74 : afnB Try.prog 74 a74 = true := by kernel_rfl
theorem b83 : afnB Try.prog 83 a83 = true := by kernel_rfl
theorem b84 : afnB Try.prog 84 a84 = true := by kernel_rfl
theorem tied : Tied Try.prog fns := look_tied (.cons b3 <| .cons b4 <| .cons b6 <| .cons b10 <| .cons b15 <| .cons b16 <| .cons b17 <| .cons b18 <| .cons b19 <| .cons b20 <| .cons b21 <| .cons b22 <| .cons b28 <| .cons b29 <| .cons b30 <| .cons b31 <| .cons b32 <| .cons b33 <| .cons b45 <| .cons b46 <| .cons b47 <| .cons b48 <| .cons b49 <| .cons b66 <| .cons b67 <| .cons b68 <| .cons b69 <| .cons b72 <| .cons b73 <| .cons b74 <| .cons b83 <| .cons b84 .nil)
theorem primsOk : CallOk Try.prog prims := fun _ _ _ _ h => by cases h

noncomputable def F3 (x0 : Int × ByteArray × ByteArray × Int × Int × Int × Int × Int × ByteArray) : Option Bool := (calL fns prims 3 [.agg [.int .i64 x0.1, .str x0.2.1, .str x0.2.2.1, .int .i64 x0.2.2.2.1, .int .i64 x0.2.2.2.2.1, .int .i64 x0.2.2.2.2.2.1, .int .i64 x0.2.2.2.2.2.2.1, .int .i64 x0.2.2.2.2.2.2.2.1, .str x0.2.2.2.2.2.2.2.2]] []).bind (decAll [.bool])
noncomputable def F4 (x0 : Int × Int × Int × Int × ByteArray × ByteArray) : Option Bool := (calL fns prims 4 [.agg [.int .i64 x0.1, .int .i64 x0.2.1, .int .i64 x0.2.2.1, .int .i64 x0.2.2.2.1, .str x0.2.2.2.2.1, .str x0.2.2.2.2.2]] []).bind (decAll [.bool])
noncomputable def F6 (x0 : List (ByteArray × ByteArray × Int)) (x1 : ByteArray) : Option Bool := (calL fns prims 6 [.lst (.pair .str (.pair .str (.int .i64))) x0, .str x1] []).bind (decAll [.bool])
noncomputable def F10 (x0 : List (Int × ByteArray × ByteArray × Int × Int × Int × Int × Int × ByteArray)) : Option Bool := (calL fns prims 10 [.lst (.pair (.int .i64) (.pair .str (.pair .str (.pair (.int .i64) (.pair (.int .i64) (.pair (.int .i64) (.pair (.int .i64) (.pair (.int .i64) .str)))))))) x0] []).bind (decAll [.bool])
noncomputable def F15 (x0 : Int × ByteArray × ByteArray × Int × Int × Int × Int × Int × ByteArray) (x1 : Int) : Option Int := (calL fns prims 15 [.agg [.int .i64 x0.1, .str x0.2.1, .str x0.2.2.1, .int .i64 x0.2.2.2.1, .int .i64 x0.2.2.2.2.1, .int .i64 x0.2.2.2.2.2.1, .int .i64 x0.2.2.2.2.2.2.1, .int .i64 x0.2.2.2.2.2.2.2.1, .str x0.2.2.2.2.2.2.2.2], .int .i64 x1] []).bind (decAll [(.int .i64)])
noncomputable def F16 (x0 : Int × ByteArray × ByteArray × Int × Int × Int × Int × Int × ByteArray) : Option Int := (calL fns prims 16 [.agg [.int .i64 x0.1, .str x0.2.1, .str x0.2.2.1, .int .i64 x0.2.2.2.1, .int .i64 x0.2.2.2.2.1, .int .i64 x0.2.2.2.2.2.1, .int .i64 x0.2.2.2.2.2.2.1, .int .i64 x0.2.2.2.2.2.2.2.1, .str x0.2.2.2.2.2.2.2.2]] []).bind (decAll [(.int .i64)])
noncomputable def F17 (x0 : Int × ByteArray × ByteArray × Int × Int × Int × Int × Int × ByteArray) : Option (Int × ByteArray × ByteArray × Int × Int × Int × Int × Int × ByteArray) := (calL fns prims 17 [.agg [.int .i64 x0.1, .str x0.2.1, .str x0.2.2.1, .int .i64 x0.2.2.2.1, .int .i64 x0.2.2.2.2.1, .int .i64 x0.2.2.2.2.2.1, .int .i64 x0.2.2.2.2.2.2.1, .int .i64 x0.2.2.2.2.2.2.2.1, .str x0.2.2.2.2.2.2.2.2]] []).bind (decAll [(.pair (.int .i64) (.pair .str (.pair .str (.pair (.int .i64) (.pair (.int .i64) (.pair (.int .i64) (.pair (.int .i64) (.pair (.int .i64) .str))))))))])
noncomputable def F18 (x0 : Int × ByteArray × ByteArray × Int × Int × Int × Int × Int × ByteArray) : Option Int := (calL fns prims 18 [.agg [.int .i64 x0.1, .str x0.2.1, .str x0.2.2.1, .int .i64 x0.2.2.2.1, .int .i64 x0.2.2.2.2.1, .int .i64 x0.2.2.2.2.2.1, .int .i64 x0.2.2.2.2.2.2.1, .int .i64 x0.2.2.2.2.2.2.2.1, .str x0.2.2.2.2.2.2.2.2]] []).bind (decAll [(.int .i64)])
noncomputable def F19 (x0 : Int × Int × Int × Int × ByteArray × ByteArray) (x1 : Int) : Option Int := (calL fns prims 19 [.agg [.int .i64 x0.1, .int .i64 x0.2.1, .int .i64 x0.2.2.1, .int .i64 x0.2.2.2.1, .str x0.2.2.2.2.1, .str x0.2.2.2.2.2], .int .i64 x1] []).bind (decAll [(.int .i64)])
noncomputable def F20 (x0 : Int × Int × Int × Int × ByteArray × ByteArray) : Option Bool := (calL fns prims 20 [.agg [.int .i64 x0.1, .int .i64 x0.2.1, .int .i64 x0.2.2.1, .int .i64 x0.2.2.2.1, .str x0.2.2.2.2.1, .str x0.2.2.2.2.2]] []).bind (decAll [.bool])
noncomputable def F21 (x0 : Int × Int × Int × Int × ByteArray × ByteArray) : Option (Int × Int × Int × Int × ByteArray × ByteArray) := (calL fns prims 21 [.agg [.int .i64 x0.1, .int .i64 x0.2.1, .int .i64 x0.2.2.1, .int .i64 x0.2.2.2.1, .str x0.2.2.2.2.1, .str x0.2.2.2.2.2]] []).bind (decAll [(.pair (.int .i64) (.pair (.int .i64) (.pair (.int .i64) (.pair (.int .i64) (.pair .str .str)))))])
noncomputable def F22 (x0 : Int × Int × Int × Int × ByteArray × ByteArray) : Option Bool := (calL fns prims 22 [.agg [.int .i64 x0.1, .int .i64 x0.2.1, .int .i64 x0.2.2.1, .int .i64 x0.2.2.2.1, .str x0.2.2.2.2.1, .str x0.2.2.2.2.2]] []).bind (decAll [.bool])
noncomputable def F28 (x0 : List (ByteArray × ByteArray × Int)) (x1 : Int) : Option Int := (calL fns prims 28 [.lst (.pair .str (.pair .str (.int .i64))) x0, .int .i64 x1] []).bind (decAll [(.int .i64)])
noncomputable def F29 (x0 : List (ByteArray × ByteArray × Int)) (x1 : ByteArray) : Option (ByteArray × ByteArray × Int) := (calL fns prims 29 [.lst (.pair .str (.pair .str (.int .i64))) x0, .str x1] []).bind (decAll [(.pair .str (.pair .str (.int .i64)))])
noncomputable def F30 (x0 : List (ByteArray × ByteArray × Int)) : Option (List (ByteArray × ByteArray × Int)) := (calL fns prims 30 [.lst (.pair .str (.pair .str (.int .i64))) x0] []).bind (decAll [(.slice (.pair .str (.pair .str (.int .i64))))])
noncomputable def F31 (x0 : List (ByteArray × ByteArray × Int)) (x1 : ByteArray) : Option (ByteArray × ByteArray × Int) := (calL fns prims 31 [.lst (.pair .str (.pair .str (.int .i64))) x0, .str x1] []).bind (decAll [(.pair .str (.pair .str (.int .i64)))])
noncomputable def F32 (x0 : ByteArray × ByteArray × Int) (x1 : ByteArray × ByteArray × Int) : Option Bool := (calL fns prims 32 [.agg [.str x0.1, .str x0.2.1, .int .i64 x0.2.2], .agg [.str x1.1, .str x1.2.1, .int .i64 x1.2.2]] []).bind (decAll [.bool])
noncomputable def F33 (x0 : List (ByteArray × ByteArray × Int)) (x1 : List (ByteArray × ByteArray × Int)) : Option Bool := (calL fns prims 33 [.lst (.pair .str (.pair .str (.int .i64))) x0, .lst (.pair .str (.pair .str (.int .i64))) x1] []).bind (decAll [.bool])
noncomputable def F45 (x0 : List (Int × ByteArray × ByteArray × Int × Int × Int × Int × Int × ByteArray)) (x1 : Int) : Option Int := (calL fns prims 45 [.lst (.pair (.int .i64) (.pair .str (.pair .str (.pair (.int .i64) (.pair (.int .i64) (.pair (.int .i64) (.pair (.int .i64) (.pair (.int .i64) .str)))))))) x0, .int .i64 x1] []).bind (decAll [(.int .i64)])
noncomputable def F46 (x0 : List (Int × ByteArray × ByteArray × Int × Int × Int × Int × Int × ByteArray)) : Option Bool := (calL fns prims 46 [.lst (.pair (.int .i64) (.pair .str (.pair .str (.pair (.int .i64) (.pair (.int .i64) (.pair (.int .i64) (.pair (.int .i64) (.pair (.int .i64) .str)))))))) x0] []).bind (decAll [.bool])
noncomputable def F47 (x0 : List (Int × ByteArray × ByteArray × Int × Int × Int × Int × Int × ByteArray)) : Option (List (Int × ByteArray × ByteArray × Int × Int × Int × Int × Int × ByteArray)) := (calL fns prims 47 [.lst (.pair (.int .i64) (.pair .str (.pair .str (.pair (.int .i64) (.pair (.int .i64) (.pair (.int .i64) (.pair (.int .i64) (.pair (.int .i64) .str)))))))) x0] []).bind (decAll [(.slice (.pair (.int .i64) (.pair .str (.pair .str (.pair (.int .i64) (.pair (.int .i64) (.pair (.int .i64) (.pair (.int .i64) (.pair (.int .i64) .str)))))))))])
noncomputable def F48 (x0 : List (Int × ByteArray × ByteArray × Int × Int × Int × Int × Int × ByteArray)) : Option Bool := (calL fns prims 48 [.lst (.pair (.int .i64) (.pair .str (.pair .str (.pair (.int .i64) (.pair (.int .i64) (.pair (.int .i64) (.pair (.int .i64) (.pair (.int .i64) .str)))))))) x0] []).bind (decAll [.bool])
noncomputable def F49 (x0 : List (Int × ByteArray × ByteArray × Int × Int × Int × Int × Int × ByteArray)) (x1 : List (Int × ByteArray × ByteArray × Int × Int × Int × Int × Int × ByteArray)) : Option Bool := (calL fns prims 49 [.lst (.pair (.int .i64) (.pair .str (.pair .str (.pair (.int .i64) (.pair (.int .i64) (.pair (.int .i64) (.pair (.int .i64) (.pair (.int .i64) .str)))))))) x0, .lst (.pair (.int .i64) (.pair .str (.pair .str (.pair (.int .i64) (.pair (.int .i64) (.pair (.int .i64) (.pair (.int .i64) (.pair (.int .i64) .str)))))))) x1] []).bind (decAll [.bool])
noncomputable def F66 (x0 : Int) (x1 : Int) (x2 : Int) : Option Bool := (calL fns prims 66 [.int .i64 x0, .int .i64 x1, .int .i64 x2] []).bind (decAll [.bool])
noncomputable def F67 (x0 : Int) (x1 : Int) (x2 : Int) : Option Bool := (calL fns prims 67 [.int .i64 x0, .int .i64 x1, .int .i64 x2] []).bind (decAll [.bool])
noncomputable def F68 (x0 : Int) : Option Bool := (calL fns prims 68 [.int .i64 x0] []).bind (decAll [.bool])
noncomputable def F69 (x0 : Int) (x1 : Int) (x2 : ByteArray) (x3 : ByteArray) : Option Bool := (calL fns prims 69 [.int .i64 x0, .int .i64 x1, .str x2, .str x3] []).bind (decAll [.bool])
noncomputable def F72 (x0 : ByteArray × ByteArray × Int) (x1 : Int) : Option Int := (calL fns prims 72 [.agg [.str x0.1, .str x0.2.1, .int .i64 x0.2.2], .int .i64 x1] []).bind (decAll [(.int .i64)])
noncomputable def F73 (x0 : ByteArray × ByteArray × Int) : Option (ByteArray × ByteArray × Int) := (calL fns prims 73 [.agg [.str x0.1, .str x0.2.1, .int .i64 x0.2.2]] []).bind (decAll [(.pair .str (.pair .str (.int .i64)))])
noncomputable def F74 (x0 : ByteArray) : Option Bool := (calL fns prims 74 [.str x0] []).bind (decAll [.bool])
noncomputable def F83 (x0 : Int × ByteArray × ByteArray × Int × Int × Int × Int × Int × ByteArray) : Option Bool := (calL fns prims 83 [.agg [.int .i64 x0.1, .str x0.2.1, .str x0.2.2.1, .int .i64 x0.2.2.2.1, .int .i64 x0.2.2.2.2.1, .int .i64 x0.2.2.2.2.2.1, .int .i64 x0.2.2.2.2.2.2.1, .int .i64 x0.2.2.2.2.2.2.2.1, .str x0.2.2.2.2.2.2.2.2]] []).bind (decAll [.bool])
noncomputable def F84 (x0 : Int × ByteArray × ByteArray × Int × Int × Int × Int × Int × ByteArray) (x1 : Int × ByteArray × ByteArray × Int × Int × Int × Int × Int × ByteArray) : Option Bool := (calL fns prims 84 [.agg [.int .i64 x0.1, .str x0.2.1, .str x0.2.2.1, .int .i64 x0.2.2.2.1, .int .i64 x0.2.2.2.2.1, .int .i64 x0.2.2.2.2.2.1, .int .i64 x0.2.2.2.2.2.2.1, .int .i64 x0.2.2.2.2.2.2.2.1, .str x0.2.2.2.2.2.2.2.2], .agg [.int .i64 x1.1, .str x1.2.1, .str x1.2.2.1, .int .i64 x1.2.2.2.1, .int .i64 x1.2.2.2.2.1, .int .i64 x1.2.2.2.2.2.1, .int .i64 x1.2.2.2.2.2.2.1, .int .i64 x1.2.2.2.2.2.2.2.1, .str x1.2.2.2.2.2.2.2.2]] []).bind (decAll [.bool])
end Go.Proofs.Ytlegaocnobapgaa.Core
