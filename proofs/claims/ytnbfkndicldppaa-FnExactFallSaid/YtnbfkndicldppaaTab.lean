/- The table of functions, held against the loaded program. Written by a program of this part. -/
import Derived.Test.YtnbfkndicldppaaA0
import Derived.Test.YtnbfkndicldppaaA1
import Derived.Test.YtnbfkndicldppaaA2
import Derived.Test.YtnbfkndicldppaaA3
import Derived.Test.YtnbfkndicldppaaLays
namespace Go.Proofs.Ytnbfkndicldppaa.Core
open Go
set_option linter.unusedVariables false
set_option maxRecDepth 100000

def table : List (Nat × AFn) := [(9, a_laws_FnExactFall), (12, a_laws_FnExactPutItem), (44, a_impl_PutItem), (46, a_impl_ItemsOk), (48, a_spec_PutItem), (49, a_laws_szMember), (50, a_spec_Fall), (51, a_laws_toMember), (52, a_impl_Fall), (53, a_laws_eqMember), (54, a_laws_markMember), (55, a_laws_heldMember), (69, a_laws_szItemS), (70, a_laws_szItem), (71, a_laws_toItemS), (72, a_laws_toItem), (73, a_laws_eqItemS), (74, a_laws_markItemS), (75, a_laws_heldItemS), (105, a_impl_inRange), (106, a_spec_l01In), (134, a_slices_BinarySearchFunc_impl_Item_impl_Item_string), (135, a_impl_PutItem_1), (138, a_impl_isKey), (139, a_spec_ItemsOk), (140, a_laws_szIntS), (141, a_laws_szTask), (142, a_laws_toIntS), (143, a_laws_toTask), (144, a_laws_eqIntS), (145, a_laws_eqTask), (146, a_laws_markIntS), (147, a_laws_markTask), (148, a_laws_heldIntS), (149, a_laws_heldTask), (162, a_laws_eqItem), (163, a_laws_markText)]
def fns (f : Nat) : Option AFn := look f table
theorem b_laws_FnExactFall : afnB Try.prog 9 a_laws_FnExactFall = true := by kernel_rfl
theorem b_laws_FnExactPutItem : afnB Try.prog 12 a_laws_FnExactPutItem = true := by kernel_rfl
theorem b_impl_PutItem : afnB Try.prog 44 a_impl_PutItem = true := by kernel_rfl
theorem b_impl_ItemsOk : afnB Try.prog 46 a_impl_ItemsOk = true := by kernel_rfl
theorem b_spec_PutItem : afnB Try.prog 48 a_spec_PutItem = true := by kernel_rfl
theorem b_laws_szMember : afnB Try.prog 49 a_laws_szMember = true := by kernel_rfl
theorem b_spec_Fall : afnB Try.prog 50 a_spec_Fall = true := by kernel_rfl
theorem b_laws_toMember : afnB Try.prog 51 a_laws_toMember = true := by kernel_rfl
theorem b_impl_Fall : afnB Try.prog 52 a_impl_Fall = true := by kernel_rfl
theorem b_laws_eqMember : afnB Try.prog 53 a_laws_eqMember = true := by kernel_rfl
theorem b_laws_markMember : afnB Try.prog 54 a_laws_markMember = true := by kernel_rfl
theorem b_laws_heldMember : afnB Try.prog 55 a_laws_heldMember = true := by kernel_rfl
theorem b_laws_szItemS : afnB Try.prog 69 a_laws_szItemS = true := by kernel_rfl
theorem b_laws_szItem : afnB Try.prog 70 a_laws_szItem = true := by kernel_rfl
theorem b_laws_toItemS : afnB Try.prog 71 a_laws_toItemS = true := by kernel_rfl
theorem b_laws_toItem : afnB Try.prog 72 a_laws_toItem = true := by kernel_rfl
theorem b_laws_eqItemS : afnB Try.prog 73 a_laws_eqItemS = true := by kernel_rfl
theorem b_laws_markItemS : afnB Try.prog 74 a_laws_markItemS = true := by kernel_rfl
theorem b_laws_heldItemS : afnB Try.prog 75 a_laws_heldItemS = true := by kernel_rfl
theorem b_impl_inRange : afnB Try.prog 105 a_impl_inRange = true := by kernel_rfl
theorem b_spec_l01In : afnB Try.prog 106 a_spec_l01In = true := by kernel_rfl
theorem b_slices_BinarySearchFunc_impl_Item_impl_Item_string : afnB Try.prog 134 a_slices_BinarySearchFunc_impl_Item_impl_Item_string = true := by kernel_rfl
theorem b_impl_PutItem_1 : afnB Try.prog 135 a_impl_PutItem_1 = true := by kernel_rfl
theorem b_impl_isKey : afnB Try.prog 138 a_impl_isKey = true := by kernel_rfl
theorem b_spec_ItemsOk : afnB Try.prog 139 a_spec_ItemsOk = true := by kernel_rfl
theorem b_laws_szIntS : afnB Try.prog 140 a_laws_szIntS = true := by kernel_rfl
theorem b_laws_szTask : afnB Try.prog 141 a_laws_szTask = true := by kernel_rfl
theorem b_laws_toIntS : afnB Try.prog 142 a_laws_toIntS = true := by kernel_rfl
theorem b_laws_toTask : afnB Try.prog 143 a_laws_toTask = true := by kernel_rfl
theorem b_laws_eqIntS : afnB Try.prog 144 a_laws_eqIntS = true := by kernel_rfl
theorem b_laws_eqTask : afnB Try.prog 145 a_laws_eqTask = true := by kernel_rfl
theorem b_laws_markIntS : afnB Try.prog 146 a_laws_markIntS = true := by kernel_rfl
theorem b_laws_markTask : afnB Try.prog 147 a_laws_markTask = true := by kernel_rfl
theorem b_laws_heldIntS : afnB Try.prog 148 a_laws_heldIntS = true := by kernel_rfl
theorem b_laws_heldTask : afnB Try.prog 149 a_laws_heldTask = true := by kernel_rfl
theorem b_laws_eqItem : afnB Try.prog 162 a_laws_eqItem = true := by kernel_rfl
theorem b_laws_markText : afnB Try.prog 163 a_laws_markText = true := by kernel_rfl
theorem tied : Tied Try.prog fns := look_tied (.cons b_laws_FnExactFall <| .cons b_laws_FnExactPutItem <| .cons b_impl_PutItem <| .cons b_impl_ItemsOk <| .cons b_spec_PutItem <| .cons b_laws_szMember <| .cons b_spec_Fall <| .cons b_laws_toMember <| .cons b_impl_Fall <| .cons b_laws_eqMember <| .cons b_laws_markMember <| .cons b_laws_heldMember <| .cons b_laws_szItemS <| .cons b_laws_szItem <| .cons b_laws_toItemS <| .cons b_laws_toItem <| .cons b_laws_eqItemS <| .cons b_laws_markItemS <| .cons b_laws_heldItemS <| .cons b_impl_inRange <| .cons b_spec_l01In <| .cons b_slices_BinarySearchFunc_impl_Item_impl_Item_string <| .cons b_impl_PutItem_1 <| .cons b_impl_isKey <| .cons b_spec_ItemsOk <| .cons b_laws_szIntS <| .cons b_laws_szTask <| .cons b_laws_toIntS <| .cons b_laws_toTask <| .cons b_laws_eqIntS <| .cons b_laws_eqTask <| .cons b_laws_markIntS <| .cons b_laws_markTask <| .cons b_laws_heldIntS <| .cons b_laws_heldTask <| .cons b_laws_eqItem <| .cons b_laws_markText .nil)
def prims : Cal := fun f args bs => if f = 133 then clonE 73 k_Item args bs else if f = 136 then cmpE args bs else if f = 137 then insE 73 k_Item args bs else none
theorem primsOk : CallOk Try.prog prims := fun f args bs rs h => by
  unfold prims at h
  split at h
  · rename_i e; subst e; exact clonE_ok lays_133 el_133 h
  split at h
  · rename_i e; subst e; exact cmpE_ok lays_136 h
  split at h
  · rename_i e; subst e; exact insE_ok lays_137 el_137 h
  cases h

noncomputable def F_laws_FnExactFall (x0 : y_Member) : Option Bool := (calL fns prims 9 [.agg [.int .i64 x0.1, .int .i64 x0.2.1, .bool x0.2.2.1, .bool x0.2.2.2.1, .bool x0.2.2.2.2.1, .bool x0.2.2.2.2.2.1, .lst (.int .i64) x0.2.2.2.2.2.2.1, .lst k_Item x0.2.2.2.2.2.2.2.1, .int .i64 x0.2.2.2.2.2.2.2.2.1, .int .i64 x0.2.2.2.2.2.2.2.2.2.1, .int .i64 x0.2.2.2.2.2.2.2.2.2.2.1, .int .i64 x0.2.2.2.2.2.2.2.2.2.2.2.1, .str x0.2.2.2.2.2.2.2.2.2.2.2.2.1.1, .str x0.2.2.2.2.2.2.2.2.2.2.2.2.1.2.1, .int .i64 x0.2.2.2.2.2.2.2.2.2.2.2.2.1.2.2, .lst (.int .i64) x0.2.2.2.2.2.2.2.2.2.2.2.2.2]] []).bind (decAll [.bool])
noncomputable def F_laws_FnExactPutItem (x0 : List y_Item) (x1 : y_Item) : Option Bool := (calL fns prims 12 [.lst k_Item x0, .agg [.str x1.1, .str x1.2.1, .int .i64 x1.2.2]] []).bind (decAll [.bool])
noncomputable def F_impl_PutItem (x0 : List y_Item) (x1 : y_Item) : Option (List y_Item) := (calL fns prims 44 [.lst k_Item x0, .agg [.str x1.1, .str x1.2.1, .int .i64 x1.2.2]] []).bind (decAll [(.own 73 k_Item)])
noncomputable def F_impl_ItemsOk (x0 : List y_Item) : Option Bool := (calL fns prims 46 [.lst k_Item x0] []).bind (decAll [.bool])
noncomputable def F_spec_PutItem (x0 : List y_Item) (x1 : y_Item) : Option (List y_Item) := (calL fns prims 48 [.lst k_Item x0, .agg [.str x1.1, .str x1.2.1, .int .i64 x1.2.2]] []).bind (decAll [(.own 73 k_Item)])
noncomputable def F_laws_szMember (x0 : y_Member) (x1 : Int) : Option Int := (calL fns prims 49 [.agg [.int .i64 x0.1, .int .i64 x0.2.1, .bool x0.2.2.1, .bool x0.2.2.2.1, .bool x0.2.2.2.2.1, .bool x0.2.2.2.2.2.1, .lst (.int .i64) x0.2.2.2.2.2.2.1, .lst k_Item x0.2.2.2.2.2.2.2.1, .int .i64 x0.2.2.2.2.2.2.2.2.1, .int .i64 x0.2.2.2.2.2.2.2.2.2.1, .int .i64 x0.2.2.2.2.2.2.2.2.2.2.1, .int .i64 x0.2.2.2.2.2.2.2.2.2.2.2.1, .str x0.2.2.2.2.2.2.2.2.2.2.2.2.1.1, .str x0.2.2.2.2.2.2.2.2.2.2.2.2.1.2.1, .int .i64 x0.2.2.2.2.2.2.2.2.2.2.2.2.1.2.2, .lst (.int .i64) x0.2.2.2.2.2.2.2.2.2.2.2.2.2], .int .i64 x1] []).bind (decAll [(.int .i64)])
noncomputable def F_spec_Fall (x0 : y_Member) : Option y_Member := (calL fns prims 50 [.agg [.int .i64 x0.1, .int .i64 x0.2.1, .bool x0.2.2.1, .bool x0.2.2.2.1, .bool x0.2.2.2.2.1, .bool x0.2.2.2.2.2.1, .lst (.int .i64) x0.2.2.2.2.2.2.1, .lst k_Item x0.2.2.2.2.2.2.2.1, .int .i64 x0.2.2.2.2.2.2.2.2.1, .int .i64 x0.2.2.2.2.2.2.2.2.2.1, .int .i64 x0.2.2.2.2.2.2.2.2.2.2.1, .int .i64 x0.2.2.2.2.2.2.2.2.2.2.2.1, .str x0.2.2.2.2.2.2.2.2.2.2.2.2.1.1, .str x0.2.2.2.2.2.2.2.2.2.2.2.2.1.2.1, .int .i64 x0.2.2.2.2.2.2.2.2.2.2.2.2.1.2.2, .lst (.int .i64) x0.2.2.2.2.2.2.2.2.2.2.2.2.2]] []).bind (decAll [k_Member_own])
noncomputable def F_laws_toMember (x0 : y_Member) : Option y_Member := (calL fns prims 51 [.agg [.int .i64 x0.1, .int .i64 x0.2.1, .bool x0.2.2.1, .bool x0.2.2.2.1, .bool x0.2.2.2.2.1, .bool x0.2.2.2.2.2.1, .lst (.int .i64) x0.2.2.2.2.2.2.1, .lst k_Item x0.2.2.2.2.2.2.2.1, .int .i64 x0.2.2.2.2.2.2.2.2.1, .int .i64 x0.2.2.2.2.2.2.2.2.2.1, .int .i64 x0.2.2.2.2.2.2.2.2.2.2.1, .int .i64 x0.2.2.2.2.2.2.2.2.2.2.2.1, .str x0.2.2.2.2.2.2.2.2.2.2.2.2.1.1, .str x0.2.2.2.2.2.2.2.2.2.2.2.2.1.2.1, .int .i64 x0.2.2.2.2.2.2.2.2.2.2.2.2.1.2.2, .lst (.int .i64) x0.2.2.2.2.2.2.2.2.2.2.2.2.2]] []).bind (decAll [k_Member_own])
noncomputable def F_impl_Fall (x0 : y_Member) : Option y_Member := (calL fns prims 52 [.agg [.int .i64 x0.1, .int .i64 x0.2.1, .bool x0.2.2.1, .bool x0.2.2.2.1, .bool x0.2.2.2.2.1, .bool x0.2.2.2.2.2.1, .lst (.int .i64) x0.2.2.2.2.2.2.1, .lst k_Item x0.2.2.2.2.2.2.2.1, .int .i64 x0.2.2.2.2.2.2.2.2.1, .int .i64 x0.2.2.2.2.2.2.2.2.2.1, .int .i64 x0.2.2.2.2.2.2.2.2.2.2.1, .int .i64 x0.2.2.2.2.2.2.2.2.2.2.2.1, .str x0.2.2.2.2.2.2.2.2.2.2.2.2.1.1, .str x0.2.2.2.2.2.2.2.2.2.2.2.2.1.2.1, .int .i64 x0.2.2.2.2.2.2.2.2.2.2.2.2.1.2.2, .lst (.int .i64) x0.2.2.2.2.2.2.2.2.2.2.2.2.2]] []).bind (decAll [k_Member_own])
noncomputable def F_laws_eqMember (x0 : y_Member) (x1 : y_Member) : Option Bool := (calL fns prims 53 [.agg [.int .i64 x0.1, .int .i64 x0.2.1, .bool x0.2.2.1, .bool x0.2.2.2.1, .bool x0.2.2.2.2.1, .bool x0.2.2.2.2.2.1, .lst (.int .i64) x0.2.2.2.2.2.2.1, .lst k_Item x0.2.2.2.2.2.2.2.1, .int .i64 x0.2.2.2.2.2.2.2.2.1, .int .i64 x0.2.2.2.2.2.2.2.2.2.1, .int .i64 x0.2.2.2.2.2.2.2.2.2.2.1, .int .i64 x0.2.2.2.2.2.2.2.2.2.2.2.1, .str x0.2.2.2.2.2.2.2.2.2.2.2.2.1.1, .str x0.2.2.2.2.2.2.2.2.2.2.2.2.1.2.1, .int .i64 x0.2.2.2.2.2.2.2.2.2.2.2.2.1.2.2, .lst (.int .i64) x0.2.2.2.2.2.2.2.2.2.2.2.2.2], .agg [.int .i64 x1.1, .int .i64 x1.2.1, .bool x1.2.2.1, .bool x1.2.2.2.1, .bool x1.2.2.2.2.1, .bool x1.2.2.2.2.2.1, .lst (.int .i64) x1.2.2.2.2.2.2.1, .lst k_Item x1.2.2.2.2.2.2.2.1, .int .i64 x1.2.2.2.2.2.2.2.2.1, .int .i64 x1.2.2.2.2.2.2.2.2.2.1, .int .i64 x1.2.2.2.2.2.2.2.2.2.2.1, .int .i64 x1.2.2.2.2.2.2.2.2.2.2.2.1, .str x1.2.2.2.2.2.2.2.2.2.2.2.2.1.1, .str x1.2.2.2.2.2.2.2.2.2.2.2.2.1.2.1, .int .i64 x1.2.2.2.2.2.2.2.2.2.2.2.2.1.2.2, .lst (.int .i64) x1.2.2.2.2.2.2.2.2.2.2.2.2.2]] []).bind (decAll [.bool])
noncomputable def F_laws_markMember (x0_0 : Int) (x0_1 : Int) (x0_2 : Bool) (x0_3 : Bool) (x0_4 : Bool) (x0_5 : Bool) (x0_8 : Int) (x0_9 : Int) (x0_10 : Int) (x0_11 : Int) (x0_12 : ByteArray) (x0_13 : ByteArray) (x0_14 : Int) (x1 : Int) (b0 : List Int) (b1 : List y_Item) (b2 : List Int) : Option (Int × List Int × List y_Item × List Int) := (calL fns prims 54 [.agg [.int .i64 x0_0, .int .i64 x0_1, .bool x0_2, .bool x0_3, .bool x0_4, .bool x0_5, .row 0, .row 1, .int .i64 x0_8, .int .i64 x0_9, .int .i64 x0_10, .int .i64 x0_11, .str x0_12, .str x0_13, .int .i64 x0_14, .row 2], .int .i64 x1] [.new 3 (.int .i64) b0, .new 73 k_Item b1, .new 3 (.int .i64) b2]).bind (decAll [(.int .i64), (.own 3 (.int .i64)), (.own 73 k_Item), (.own 3 (.int .i64))])
noncomputable def F_laws_heldMember (x0 : y_Member) (x1 : Int) : Option Int := (calL fns prims 55 [.agg [.int .i64 x0.1, .int .i64 x0.2.1, .bool x0.2.2.1, .bool x0.2.2.2.1, .bool x0.2.2.2.2.1, .bool x0.2.2.2.2.2.1, .lst (.int .i64) x0.2.2.2.2.2.2.1, .lst k_Item x0.2.2.2.2.2.2.2.1, .int .i64 x0.2.2.2.2.2.2.2.2.1, .int .i64 x0.2.2.2.2.2.2.2.2.2.1, .int .i64 x0.2.2.2.2.2.2.2.2.2.2.1, .int .i64 x0.2.2.2.2.2.2.2.2.2.2.2.1, .str x0.2.2.2.2.2.2.2.2.2.2.2.2.1.1, .str x0.2.2.2.2.2.2.2.2.2.2.2.2.1.2.1, .int .i64 x0.2.2.2.2.2.2.2.2.2.2.2.2.1.2.2, .lst (.int .i64) x0.2.2.2.2.2.2.2.2.2.2.2.2.2], .int .i64 x1] []).bind (decAll [(.int .i64)])
noncomputable def F_laws_szItemS (x0 : List y_Item) (x1 : Int) : Option Int := (calL fns prims 69 [.lst k_Item x0, .int .i64 x1] []).bind (decAll [(.int .i64)])
noncomputable def F_laws_szItem (x0 : y_Item) (x1 : Int) : Option Int := (calL fns prims 70 [.agg [.str x0.1, .str x0.2.1, .int .i64 x0.2.2], .int .i64 x1] []).bind (decAll [(.int .i64)])
noncomputable def F_laws_toItemS (x0 : List y_Item) : Option (List y_Item) := (calL fns prims 71 [.lst k_Item x0] []).bind (decAll [(.own 73 k_Item)])
noncomputable def F_laws_toItem (x0 : y_Item) : Option y_Item := (calL fns prims 72 [.agg [.str x0.1, .str x0.2.1, .int .i64 x0.2.2]] []).bind (decAll [k_Item])
noncomputable def F_laws_eqItemS (x0 : List y_Item) (x1 : List y_Item) : Option Bool := (calL fns prims 73 [.lst k_Item x0, .lst k_Item x1] []).bind (decAll [.bool])
noncomputable def F_laws_markItemS (x1 : Int) (b0 : List y_Item) : Option (Int × List y_Item) := (calL fns prims 74 [.row 0, .int .i64 x1] [.new 73 k_Item b0]).bind (decAll [(.int .i64), (.own 73 k_Item)])
noncomputable def F_laws_heldItemS (x0 : List y_Item) (x1 : Int) : Option Int := (calL fns prims 75 [.lst k_Item x0, .int .i64 x1] []).bind (decAll [(.int .i64)])
noncomputable def F_impl_inRange (x0 : Int) (x1 : Int) (x2 : Int) : Option Bool := (calL fns prims 105 [.int .i64 x0, .int .i64 x1, .int .i64 x2] []).bind (decAll [.bool])
noncomputable def F_spec_l01In (x0 : Int) (x1 : Int) (x2 : Int) : Option Bool := (calL fns prims 106 [.int .i64 x0, .int .i64 x1, .int .i64 x2] []).bind (decAll [.bool])
noncomputable def F_slices_BinarySearchFunc_impl_Item_impl_Item_string (x0 : List y_Item) (x1 : ByteArray) (x2 : Unit) : Option (Int × Bool) := (calL fns prims 134 [.lst k_Item x0, .str x1, .fn 135 []] []).bind (decAll [(.int .i64), .bool])
noncomputable def F_impl_PutItem_1 (x0 : y_Item) (x1 : ByteArray) : Option Int := (calL fns prims 135 [.agg [.str x0.1, .str x0.2.1, .int .i64 x0.2.2], .str x1] []).bind (decAll [(.int .i64)])
noncomputable def F_impl_isKey (x0 : ByteArray) : Option Bool := (calL fns prims 138 [.str x0] []).bind (decAll [.bool])
noncomputable def F_spec_ItemsOk (x0 : List y_Item) : Option Bool := (calL fns prims 139 [.lst k_Item x0] []).bind (decAll [.bool])
noncomputable def F_laws_szIntS (x0 : List Int) (x1 : Int) : Option Int := (calL fns prims 140 [.lst (.int .i64) x0, .int .i64 x1] []).bind (decAll [(.int .i64)])
noncomputable def F_laws_szTask (x0 : y_Task) (x1 : Int) : Option Int := (calL fns prims 141 [.agg [.int .i64 x0.1, .int .i64 x0.2.1, .int .i64 x0.2.2.1, .str x0.2.2.2.1.1, .str x0.2.2.2.1.2.1, .int .i64 x0.2.2.2.1.2.2, .lst (.int .i64) x0.2.2.2.2], .int .i64 x1] []).bind (decAll [(.int .i64)])
noncomputable def F_laws_toIntS (x0 : List Int) : Option (List Int) := (calL fns prims 142 [.lst (.int .i64) x0] []).bind (decAll [(.own 3 (.int .i64))])
noncomputable def F_laws_toTask (x0 : y_Task) : Option y_Task := (calL fns prims 143 [.agg [.int .i64 x0.1, .int .i64 x0.2.1, .int .i64 x0.2.2.1, .str x0.2.2.2.1.1, .str x0.2.2.2.1.2.1, .int .i64 x0.2.2.2.1.2.2, .lst (.int .i64) x0.2.2.2.2]] []).bind (decAll [k_Task_own])
noncomputable def F_laws_eqIntS (x0 : List Int) (x1 : List Int) : Option Bool := (calL fns prims 144 [.lst (.int .i64) x0, .lst (.int .i64) x1] []).bind (decAll [.bool])
noncomputable def F_laws_eqTask (x0 : y_Task) (x1 : y_Task) : Option Bool := (calL fns prims 145 [.agg [.int .i64 x0.1, .int .i64 x0.2.1, .int .i64 x0.2.2.1, .str x0.2.2.2.1.1, .str x0.2.2.2.1.2.1, .int .i64 x0.2.2.2.1.2.2, .lst (.int .i64) x0.2.2.2.2], .agg [.int .i64 x1.1, .int .i64 x1.2.1, .int .i64 x1.2.2.1, .str x1.2.2.2.1.1, .str x1.2.2.2.1.2.1, .int .i64 x1.2.2.2.1.2.2, .lst (.int .i64) x1.2.2.2.2]] []).bind (decAll [.bool])
noncomputable def F_laws_markIntS (x1 : Int) (b0 : List Int) : Option (Int × List Int) := (calL fns prims 146 [.row 0, .int .i64 x1] [.new 3 (.int .i64) b0]).bind (decAll [(.int .i64), (.own 3 (.int .i64))])
noncomputable def F_laws_markTask (x0_0 : Int) (x0_1 : Int) (x0_2 : Int) (x0_3 : ByteArray) (x0_4 : ByteArray) (x0_5 : Int) (x1 : Int) (b0 : List Int) : Option (Int × List Int) := (calL fns prims 147 [.agg [.int .i64 x0_0, .int .i64 x0_1, .int .i64 x0_2, .str x0_3, .str x0_4, .int .i64 x0_5, .row 0], .int .i64 x1] [.new 3 (.int .i64) b0]).bind (decAll [(.int .i64), (.own 3 (.int .i64))])
noncomputable def F_laws_heldIntS (x0 : List Int) (x1 : Int) : Option Int := (calL fns prims 148 [.lst (.int .i64) x0, .int .i64 x1] []).bind (decAll [(.int .i64)])
noncomputable def F_laws_heldTask (x0 : y_Task) (x1 : Int) : Option Int := (calL fns prims 149 [.agg [.int .i64 x0.1, .int .i64 x0.2.1, .int .i64 x0.2.2.1, .str x0.2.2.2.1.1, .str x0.2.2.2.1.2.1, .int .i64 x0.2.2.2.1.2.2, .lst (.int .i64) x0.2.2.2.2], .int .i64 x1] []).bind (decAll [(.int .i64)])
noncomputable def F_laws_eqItem (x0 : y_Item) (x1 : y_Item) : Option Bool := (calL fns prims 162 [.agg [.str x0.1, .str x0.2.1, .int .i64 x0.2.2], .agg [.str x1.1, .str x1.2.1, .int .i64 x1.2.2]] []).bind (decAll [.bool])
noncomputable def F_laws_markText (x0 : Int) : Option ByteArray := (calL fns prims 163 [.int .i64 x0] []).bind (decAll [.str])
noncomputable def F_slices_Clone_impl_Item_impl_Item : (List y_Item) → Option (List y_Item) := (fun (q0 : List y_Item) => (calL fns prims 133 [.lst k_Item q0] []).bind (decAll [(.own 73 k_Item)]))
noncomputable def F_slices_Insert_impl_Item_impl_Item : (List y_Item) → Int → (List y_Item) → Option (List y_Item) := (fun (q0 : List y_Item) (q1 : Int) (q2 : List y_Item) => (calL fns prims 137 [.new 73 k_Item q0, .int .i64 q1, .new 73 k_Item q2] []).bind (decAll [(.own 73 k_Item)]))
noncomputable def F_strings_Compare : ByteArray → ByteArray → Option Int := (fun (q0 : ByteArray) (q1 : ByteArray) => (calL fns prims 136 [.str q0, .str q1] []).bind (decAll [(.int .i64)]))
theorem f_slices_Clone_impl_Item_impl_Item {x0 : List y_Item} (h : x0.length ≤ 68719476736) : F_slices_Clone_impl_Item_impl_Item x0 = some x0 := by
  unfold F_slices_Clone_impl_Item_impl_Item
  rw [call_prim (r := [.new 73 k_Item x0]) rfl (clonE_at (t := 73) (K := k_Item) (xs := x0) h)]
  rfl
theorem f_strings_Compare {x0 x1 : ByteArray} : F_strings_Compare x0 x1 = some (Go.Lib.compareBytes x0.data.toList x1.data.toList) := by
  unfold F_strings_Compare
  rw [call_prim (r := [.int .i64 (Go.Lib.compareBytes x0.data.toList x1.data.toList)]) rfl rfl]
  rfl
theorem f_slices_Insert_impl_Item_impl_Item {x0 : List y_Item} {i : Nat} {x2 : List y_Item} (h : x0.length + x2.length ≤ 68719476736) (hi : i ≤ x0.length) (hv : x2.length ≠ 0) : F_slices_Insert_impl_Item_impl_Item x0 (i : Int) x2 = some (x0.take i ++ x2 ++ x0.drop i) := by
  unfold F_slices_Insert_impl_Item_impl_Item
  rw [call_prim (r := [.new 73 k_Item (x0.take i ++ x2 ++ x0.drop i)]) rfl (insE_at (t := 73) (K := k_Item) (xs := x0) (vs := x2) (i := i) h hi hv)]
  rfl

end Go.Proofs.Ytnbfkndicldppaa.Core
