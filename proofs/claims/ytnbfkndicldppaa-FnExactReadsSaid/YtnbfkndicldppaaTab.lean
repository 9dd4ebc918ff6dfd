/- The table of functions, held against the loaded program. Written by a program of this part. -/
import Derived.Test.YtnbfkndicldppaaA0
import Derived.Test.YtnbfkndicldppaaA1
import Derived.Test.YtnbfkndicldppaaProg
namespace Go.Proofs.Ytnbfkndicldppaa.Core
open Go
set_option linter.unusedVariables false
set_option maxRecDepth 100000

def table : List (Nat × AFn) := [(5, a_laws_FnExactReads), (30, a_laws_szCallS), (31, a_spec_Reads), (32, a_laws_toCallS), (33, a_impl_Reads), (34, a_laws_eqCallS), (105, a_impl_inRange), (106, a_spec_l01In), (110, a_laws_szCall), (111, a_spec_l16Put), (112, a_spec_Stamp), (113, a_laws_toCall), (114, a_impl_isDone), (115, a_impl_isPut), (116, a_impl_Stamp), (117, a_laws_eqCall), (212, a_slices_ContainsFunc_impl_Call_impl_Call), (213, a_impl_isPut_1), (246, a_slices_IndexFunc_impl_Call_impl_Call)]
def fns (f : Nat) : Option AFn := look f table
def prims : Cal := fun _ _ _ => none
theorem b_laws_FnExactReads : afnB Try.prog 5 a_laws_FnExactReads = true := by kernel_rfl
theorem b_laws_szCallS : afnB Try.prog 30 a_laws_szCallS = true := by kernel_rfl
theorem b_spec_Reads : afnB Try.prog 31 a_spec_Reads = true := by kernel_rfl
theorem b_laws_toCallS : afnB Try.prog 32 a_laws_toCallS = true := by kernel_rfl
theorem b_impl_Reads : afnB Try.prog 33 a_impl_Reads = true := by kernel_rfl
theorem b_laws_eqCallS : afnB Try.prog 34 a_laws_eqCallS = true := by kernel_rfl
theorem b_impl_inRange : afnB Try.prog 105 a_impl_inRange = true := by kernel_rfl
theorem b_spec_l01In : afnB Try.prog 106 a_spec_l01In = true := by kernel_rfl
theorem b_laws_szCall : afnB Try.prog 110 a_laws_szCall = true := by kernel_rfl
theorem b_spec_l16Put : afnB Try.prog 111 a_spec_l16Put = true := by kernel_rfl
theorem b_spec_Stamp : afnB Try.prog 112 a_spec_Stamp = true := by kernel_rfl
theorem b_laws_toCall : afnB Try.prog 113 a_laws_toCall = true := by kernel_rfl
theorem b_impl_isDone : afnB Try.prog 114 a_impl_isDone = true := by kernel_rfl
theorem b_impl_isPut : afnB Try.prog 115 a_impl_isPut = true := by kernel_rfl
theorem b_impl_Stamp : afnB Try.prog 116 a_impl_Stamp = true := by kernel_rfl
theorem b_laws_eqCall : afnB Try.prog 117 a_laws_eqCall = true := by kernel_rfl
theorem b_slices_ContainsFunc_impl_Call_impl_Call : afnB Try.prog 212 a_slices_ContainsFunc_impl_Call_impl_Call = true := by kernel_rfl
theorem b_impl_isPut_1 : afnB Try.prog 213 a_impl_isPut_1 = true := by kernel_rfl
theorem b_slices_IndexFunc_impl_Call_impl_Call : afnB Try.prog 246 a_slices_IndexFunc_impl_Call_impl_Call = true := by kernel_rfl
theorem tied : Tied Try.prog fns := look_tied (.cons b_laws_FnExactReads <| .cons b_laws_szCallS <| .cons b_spec_Reads <| .cons b_laws_toCallS <| .cons b_impl_Reads <| .cons b_laws_eqCallS <| .cons b_impl_inRange <| .cons b_spec_l01In <| .cons b_laws_szCall <| .cons b_spec_l16Put <| .cons b_spec_Stamp <| .cons b_laws_toCall <| .cons b_impl_isDone <| .cons b_impl_isPut <| .cons b_impl_Stamp <| .cons b_laws_eqCall <| .cons b_slices_ContainsFunc_impl_Call_impl_Call <| .cons b_impl_isPut_1 <| .cons b_slices_IndexFunc_impl_Call_impl_Call .nil)
theorem primsOk : CallOk Try.prog prims := fun _ _ _ _ h => by cases h

noncomputable def F_laws_FnExactReads (x0 : List y_Call) : Option Bool := (calL fns prims 5 [.lst k_Call x0] []).bind (decAll [.bool])
noncomputable def F_laws_szCallS (x0 : List y_Call) (x1 : Int) : Option Int := (calL fns prims 30 [.lst k_Call x0, .int .i64 x1] []).bind (decAll [(.int .i64)])
noncomputable def F_spec_Reads (x0 : List y_Call) : Option Bool := (calL fns prims 31 [.lst k_Call x0] []).bind (decAll [.bool])
noncomputable def F_laws_toCallS (x0 : List y_Call) : Option (List y_Call) := (calL fns prims 32 [.lst k_Call x0] []).bind (decAll [(.slice k_Call)])
noncomputable def F_impl_Reads (x0 : List y_Call) : Option Bool := (calL fns prims 33 [.lst k_Call x0] []).bind (decAll [.bool])
noncomputable def F_laws_eqCallS (x0 : List y_Call) (x1 : List y_Call) : Option Bool := (calL fns prims 34 [.lst k_Call x0, .lst k_Call x1] []).bind (decAll [.bool])
noncomputable def F_impl_inRange (x0 : Int) (x1 : Int) (x2 : Int) : Option Bool := (calL fns prims 105 [.int .i64 x0, .int .i64 x1, .int .i64 x2] []).bind (decAll [.bool])
noncomputable def F_spec_l01In (x0 : Int) (x1 : Int) (x2 : Int) : Option Bool := (calL fns prims 106 [.int .i64 x0, .int .i64 x1, .int .i64 x2] []).bind (decAll [.bool])
noncomputable def F_laws_szCall (x0 : y_Call) (x1 : Int) : Option Int := (calL fns prims 110 [.agg [.int .i64 x0.1, .str x0.2.1, .str x0.2.2.1, .int .i64 x0.2.2.2.1, .int .i64 x0.2.2.2.2.1, .int .i64 x0.2.2.2.2.2.1, .int .i64 x0.2.2.2.2.2.2.1, .int .i64 x0.2.2.2.2.2.2.2.1, .str x0.2.2.2.2.2.2.2.2], .int .i64 x1] []).bind (decAll [(.int .i64)])
noncomputable def F_spec_l16Put (x0 : y_Call) (x1 : y_Call) : Option Bool := (calL fns prims 111 [.agg [.int .i64 x0.1, .str x0.2.1, .str x0.2.2.1, .int .i64 x0.2.2.2.1, .int .i64 x0.2.2.2.2.1, .int .i64 x0.2.2.2.2.2.1, .int .i64 x0.2.2.2.2.2.2.1, .int .i64 x0.2.2.2.2.2.2.2.1, .str x0.2.2.2.2.2.2.2.2], .agg [.int .i64 x1.1, .str x1.2.1, .str x1.2.2.1, .int .i64 x1.2.2.2.1, .int .i64 x1.2.2.2.2.1, .int .i64 x1.2.2.2.2.2.1, .int .i64 x1.2.2.2.2.2.2.1, .int .i64 x1.2.2.2.2.2.2.2.1, .str x1.2.2.2.2.2.2.2.2]] []).bind (decAll [.bool])
noncomputable def F_spec_Stamp (x0 : y_Call) : Option Int := (calL fns prims 112 [.agg [.int .i64 x0.1, .str x0.2.1, .str x0.2.2.1, .int .i64 x0.2.2.2.1, .int .i64 x0.2.2.2.2.1, .int .i64 x0.2.2.2.2.2.1, .int .i64 x0.2.2.2.2.2.2.1, .int .i64 x0.2.2.2.2.2.2.2.1, .str x0.2.2.2.2.2.2.2.2]] []).bind (decAll [(.int .i64)])
noncomputable def F_laws_toCall (x0 : y_Call) : Option y_Call := (calL fns prims 113 [.agg [.int .i64 x0.1, .str x0.2.1, .str x0.2.2.1, .int .i64 x0.2.2.2.1, .int .i64 x0.2.2.2.2.1, .int .i64 x0.2.2.2.2.2.1, .int .i64 x0.2.2.2.2.2.2.1, .int .i64 x0.2.2.2.2.2.2.2.1, .str x0.2.2.2.2.2.2.2.2]] []).bind (decAll [k_Call])
noncomputable def F_impl_isDone (x0 : y_Call) : Option Bool := (calL fns prims 114 [.agg [.int .i64 x0.1, .str x0.2.1, .str x0.2.2.1, .int .i64 x0.2.2.2.1, .int .i64 x0.2.2.2.2.1, .int .i64 x0.2.2.2.2.2.1, .int .i64 x0.2.2.2.2.2.2.1, .int .i64 x0.2.2.2.2.2.2.2.1, .str x0.2.2.2.2.2.2.2.2]] []).bind (decAll [.bool])
noncomputable def F_impl_isPut (x0 : List y_Call) (x1 : y_Call) : Option Bool := (calL fns prims 115 [.lst k_Call x0, .agg [.int .i64 x1.1, .str x1.2.1, .str x1.2.2.1, .int .i64 x1.2.2.2.1, .int .i64 x1.2.2.2.2.1, .int .i64 x1.2.2.2.2.2.1, .int .i64 x1.2.2.2.2.2.2.1, .int .i64 x1.2.2.2.2.2.2.2.1, .str x1.2.2.2.2.2.2.2.2]] []).bind (decAll [.bool])
noncomputable def F_impl_Stamp (x0 : y_Call) : Option Int := (calL fns prims 116 [.agg [.int .i64 x0.1, .str x0.2.1, .str x0.2.2.1, .int .i64 x0.2.2.2.1, .int .i64 x0.2.2.2.2.1, .int .i64 x0.2.2.2.2.2.1, .int .i64 x0.2.2.2.2.2.2.1, .int .i64 x0.2.2.2.2.2.2.2.1, .str x0.2.2.2.2.2.2.2.2]] []).bind (decAll [(.int .i64)])
noncomputable def F_laws_eqCall (x0 : y_Call) (x1 : y_Call) : Option Bool := (calL fns prims 117 [.agg [.int .i64 x0.1, .str x0.2.1, .str x0.2.2.1, .int .i64 x0.2.2.2.1, .int .i64 x0.2.2.2.2.1, .int .i64 x0.2.2.2.2.2.1, .int .i64 x0.2.2.2.2.2.2.1, .int .i64 x0.2.2.2.2.2.2.2.1, .str x0.2.2.2.2.2.2.2.2], .agg [.int .i64 x1.1, .str x1.2.1, .str x1.2.2.1, .int .i64 x1.2.2.2.1, .int .i64 x1.2.2.2.2.1, .int .i64 x1.2.2.2.2.2.1, .int .i64 x1.2.2.2.2.2.2.1, .int .i64 x1.2.2.2.2.2.2.2.1, .str x1.2.2.2.2.2.2.2.2]] []).bind (decAll [.bool])
noncomputable def F_slices_ContainsFunc_impl_Call_impl_Call (x0 : List y_Call) (x1 : y_Call) : Option Bool := (calL fns prims 212 [.lst k_Call x0, .clo 213 k_Call x1] []).bind (decAll [.bool])
noncomputable def F_impl_isPut_1 (x0 : y_Call) (x1 : y_Call) : Option Bool := (calL fns prims 213 [.agg [.int .i64 x0.1, .str x0.2.1, .str x0.2.2.1, .int .i64 x0.2.2.2.1, .int .i64 x0.2.2.2.2.1, .int .i64 x0.2.2.2.2.2.1, .int .i64 x0.2.2.2.2.2.2.1, .int .i64 x0.2.2.2.2.2.2.2.1, .str x0.2.2.2.2.2.2.2.2], .fptr [.int .i64 x1.1, .str x1.2.1, .str x1.2.2.1, .int .i64 x1.2.2.2.1, .int .i64 x1.2.2.2.2.1, .int .i64 x1.2.2.2.2.2.1, .int .i64 x1.2.2.2.2.2.2.1, .int .i64 x1.2.2.2.2.2.2.2.1, .str x1.2.2.2.2.2.2.2.2] 0] []).bind (decAll [.bool])
noncomputable def F_slices_IndexFunc_impl_Call_impl_Call (x0 : List y_Call) (x1 : y_Call) : Option Int := (calL fns prims 246 [.lst k_Call x0, .clo 213 k_Call x1] []).bind (decAll [(.int .i64)])
end Go.Proofs.Ytnbfkndicldppaa.Core
