/- The table of functions, held against the loaded program. Written by a program of this part. -/
import Derived.Test.YtnbfkndicldppaaA0
import Derived.Test.YtnbfkndicldppaaA1
import Derived.Test.YtnbfkndicldppaaA2
import Derived.Test.YtnbfkndicldppaaLays
namespace Go.Proofs.Ytnbfkndicldppaa.Core
open Go
set_option linter.unusedVariables false
set_option maxRecDepth 100000

def table : List (Nat × AFn) := [(8, a_laws_FnItems), (21, a_laws_big), (43, a_spec_DrawItems), (44, a_impl_PutItem), (45, a_impl_ItemOf), (46, a_impl_ItemsOk), (47, a_laws_sameItems), (48, a_spec_PutItem), (103, a_spec_l01New), (105, a_impl_inRange), (106, a_spec_l01In), (107, a_spec_l01Below), (118, a_spec_l01Byte), (131, a_spec_l13Items), (132, a_spec_l13Item), (134, a_slices_BinarySearchFunc_impl_Item_impl_Item_string), (135, a_impl_PutItem_1), (138, a_impl_isKey), (139, a_spec_ItemsOk), (156, a_spec_l03Key), (221, a_spec_l03Val), (229, a_spec_l01Pick)]
def fns (f : Nat) : Option AFn := look f table
theorem b_laws_FnItems : afnB Try.prog 8 a_laws_FnItems = true := by kernel_rfl
theorem b_laws_big : afnB Try.prog 21 a_laws_big = true := by kernel_rfl
theorem b_spec_DrawItems : afnB Try.prog 43 a_spec_DrawItems = true := by kernel_rfl
theorem b_impl_PutItem : afnB Try.prog 44 a_impl_PutItem = true := by kernel_rfl
theorem b_impl_ItemOf : afnB Try.prog 45 a_impl_ItemOf = true := by kernel_rfl
theorem b_impl_ItemsOk : afnB Try.prog 46 a_impl_ItemsOk = true := by kernel_rfl
theorem b_laws_sameItems : afnB Try.prog 47 a_laws_sameItems = true := by kernel_rfl
theorem b_spec_PutItem : afnB Try.prog 48 a_spec_PutItem = true := by kernel_rfl
theorem b_spec_l01New : afnB Try.prog 103 a_spec_l01New = true := by kernel_rfl
theorem b_impl_inRange : afnB Try.prog 105 a_impl_inRange = true := by kernel_rfl
theorem b_spec_l01In : afnB Try.prog 106 a_spec_l01In = true := by kernel_rfl
theorem b_spec_l01Below : afnB Try.prog 107 a_spec_l01Below = true := by kernel_rfl
theorem b_spec_l01Byte : afnB Try.prog 118 a_spec_l01Byte = true := by kernel_rfl
theorem b_spec_l13Items : afnB Try.prog 131 a_spec_l13Items = true := by kernel_rfl
theorem b_spec_l13Item : afnB Try.prog 132 a_spec_l13Item = true := by kernel_rfl
theorem b_slices_BinarySearchFunc_impl_Item_impl_Item_string : afnB Try.prog 134 a_slices_BinarySearchFunc_impl_Item_impl_Item_string = true := by kernel_rfl
theorem b_impl_PutItem_1 : afnB Try.prog 135 a_impl_PutItem_1 = true := by kernel_rfl
theorem b_impl_isKey : afnB Try.prog 138 a_impl_isKey = true := by kernel_rfl
theorem b_spec_ItemsOk : afnB Try.prog 139 a_spec_ItemsOk = true := by kernel_rfl
theorem b_spec_l03Key : afnB Try.prog 156 a_spec_l03Key = true := by kernel_rfl
theorem b_spec_l03Val : afnB Try.prog 221 a_spec_l03Val = true := by kernel_rfl
theorem b_spec_l01Pick : afnB Try.prog 229 a_spec_l01Pick = true := by kernel_rfl
theorem tied : Tied Try.prog fns := look_tied (.cons b_laws_FnItems <| .cons b_laws_big <| .cons b_spec_DrawItems <| .cons b_impl_PutItem <| .cons b_impl_ItemOf <| .cons b_impl_ItemsOk <| .cons b_laws_sameItems <| .cons b_spec_PutItem <| .cons b_spec_l01New <| .cons b_impl_inRange <| .cons b_spec_l01In <| .cons b_spec_l01Below <| .cons b_spec_l01Byte <| .cons b_spec_l13Items <| .cons b_spec_l13Item <| .cons b_slices_BinarySearchFunc_impl_Item_impl_Item_string <| .cons b_impl_PutItem_1 <| .cons b_impl_isKey <| .cons b_spec_ItemsOk <| .cons b_spec_l03Key <| .cons b_spec_l03Val <| .cons b_spec_l01Pick .nil)
def prims : Cal := fun f args bs => if f = 133 then clonE 73 k_Item args bs else if f = 136 then cmpE args bs else if f = 137 then insE 73 k_Item args bs else none
theorem primsOk : CallOk Try.prog prims := fun f args bs rs h => by
  unfold prims at h
  split at h
  · rename_i e; subst e; exact clonE_ok lays_133 el_133 h
  split at h
  · rename_i e; subst e; exact cmpE_ok lays_136 h
  split at h
  · rename_i e; subst e; exact insE_ok lays_137 el_137 h
  cases h

noncomputable def F_laws_FnItems (x0 : List Int) : Option Bool := (calL fns prims 8 [.lst (.int .u8) x0] []).bind (decAll [.bool])
noncomputable def F_laws_big (x0 : List Int) : Option Bool := (calL fns prims 21 [.lst (.int .u8) x0] []).bind (decAll [.bool])
noncomputable def F_spec_DrawItems (x0 : List Int) : Option (List y_Item × y_Item) := (calL fns prims 43 [.lst (.int .u8) x0] []).bind (decAll [(.slice k_Item), k_Item])
noncomputable def F_impl_PutItem (x0 : List y_Item) (x1 : y_Item) : Option (List y_Item) := (calL fns prims 44 [.lst k_Item x0, .agg [.str x1.1, .str x1.2.1, .int .i64 x1.2.2]] []).bind (decAll [(.slice k_Item)])
noncomputable def F_impl_ItemOf (x0 : List y_Item) (x1 : ByteArray) : Option y_Item := (calL fns prims 45 [.lst k_Item x0, .str x1] []).bind (decAll [k_Item])
noncomputable def F_impl_ItemsOk (x0 : List y_Item) : Option Bool := (calL fns prims 46 [.lst k_Item x0] []).bind (decAll [.bool])
noncomputable def F_laws_sameItems (x0 : List y_Item) (x1 : List y_Item) : Option Bool := (calL fns prims 47 [.lst k_Item x0, .lst k_Item x1] []).bind (decAll [.bool])
noncomputable def F_spec_PutItem (x0 : List y_Item) (x1 : y_Item) : Option (List y_Item) := (calL fns prims 48 [.lst k_Item x0, .agg [.str x1.1, .str x1.2.1, .int .i64 x1.2.2]] []).bind (decAll [(.own 73 k_Item)])
noncomputable def F_spec_l01New (x0 : List Int) : Option y_l01Cur := (calL fns prims 103 [.lst (.int .u8) x0] []).bind (decAll [(.ref k_l01Cur)])
noncomputable def F_impl_inRange (x0 : Int) (x1 : Int) (x2 : Int) : Option Bool := (calL fns prims 105 [.int .i64 x0, .int .i64 x1, .int .i64 x2] []).bind (decAll [.bool])
noncomputable def F_spec_l01In (x0 : Int) (x1 : Int) (x2 : Int) : Option Bool := (calL fns prims 106 [.int .i64 x0, .int .i64 x1, .int .i64 x2] []).bind (decAll [.bool])
noncomputable def F_spec_l01Below (x1 : Int) (b0 : y_l01Cur) : Option (Int × y_l01Cur) := (calL fns prims 107 [.ptr 0 0, .int .i64 x1] [.agg [.lst (.int .u8) b0.1, .int .i64 b0.2.1, .int .i64 b0.2.2]]).bind (decAll [(.int .i64), k_l01Cur])
noncomputable def F_spec_l01Byte (b0 : y_l01Cur) : Option (Int × y_l01Cur) := (calL fns prims 118 [.ptr 0 0] [.agg [.lst (.int .u8) b0.1, .int .i64 b0.2.1, .int .i64 b0.2.2]]).bind (decAll [(.int .i64), k_l01Cur])
noncomputable def F_spec_l13Items (b0 : y_l01Cur) : Option (List y_Item × y_l01Cur) := (calL fns prims 131 [.ptr 0 0] [.agg [.lst (.int .u8) b0.1, .int .i64 b0.2.1, .int .i64 b0.2.2]]).bind (decAll [(.own 73 k_Item), k_l01Cur])
noncomputable def F_spec_l13Item (b0 : y_l01Cur) : Option (y_Item × y_l01Cur) := (calL fns prims 132 [.ptr 0 0] [.agg [.lst (.int .u8) b0.1, .int .i64 b0.2.1, .int .i64 b0.2.2]]).bind (decAll [k_Item, k_l01Cur])
noncomputable def F_slices_BinarySearchFunc_impl_Item_impl_Item_string (x0 : List y_Item) (x1 : ByteArray) (x2 : Unit) : Option (Int × Bool) := (calL fns prims 134 [.lst k_Item x0, .str x1, .fn 135 []] []).bind (decAll [(.int .i64), .bool])
noncomputable def F_impl_PutItem_1 (x0 : y_Item) (x1 : ByteArray) : Option Int := (calL fns prims 135 [.agg [.str x0.1, .str x0.2.1, .int .i64 x0.2.2], .str x1] []).bind (decAll [(.int .i64)])
noncomputable def F_impl_isKey (x0 : ByteArray) : Option Bool := (calL fns prims 138 [.str x0] []).bind (decAll [.bool])
noncomputable def F_spec_ItemsOk (x0 : List y_Item) : Option Bool := (calL fns prims 139 [.lst k_Item x0] []).bind (decAll [.bool])
noncomputable def F_spec_l03Key (b0 : y_l01Cur) : Option (ByteArray × y_l01Cur) := (calL fns prims 156 [.ptr 0 0] [.agg [.lst (.int .u8) b0.1, .int .i64 b0.2.1, .int .i64 b0.2.2]]).bind (decAll [.str, k_l01Cur])
noncomputable def F_spec_l03Val (b0 : y_l01Cur) : Option (ByteArray × y_l01Cur) := (calL fns prims 221 [.ptr 0 0] [.agg [.lst (.int .u8) b0.1, .int .i64 b0.2.1, .int .i64 b0.2.2]]).bind (decAll [.str, k_l01Cur])
noncomputable def F_spec_l01Pick (x1 : List ByteArray) (b0 : y_l01Cur) : Option (ByteArray × y_l01Cur) := (calL fns prims 229 [.ptr 0 0, .lst .str x1] [.agg [.lst (.int .u8) b0.1, .int .i64 b0.2.1, .int .i64 b0.2.2]]).bind (decAll [.str, k_l01Cur])
noncomputable def F_slices_Clone_impl_Item_impl_Item : (List y_Item) → Option (List y_Item) := (fun (q0 : List y_Item) => (calL fns prims 133 [.lst k_Item q0] []).bind (decAll [(.own 73 k_Item)]))
noncomputable def F_slices_Insert_impl_Item_impl_Item : (List y_Item) → Int → (List y_Item) → Option (List y_Item) := (fun (q0 : List y_Item) (q1 : Int) (q2 : List y_Item) => (calL fns prims 137 [.new 73 k_Item q0, .int .i64 q1, .new 73 k_Item q2] []).bind (decAll [(.own 73 k_Item)]))
noncomputable def F_strings_Compare : ByteArray → ByteArray → Option Int := (fun (q0 : ByteArray) (q1 : ByteArray) => (calL fns prims 136 [.str q0, .str q1] []).bind (decAll [(.int .i64)]))
theorem f_slices_Clone_impl_Item_impl_Item {x0 : List y_Item} (h : x0.length ≤ 68719476736) : F_slices_Clone_impl_Item_impl_Item x0 = some x0 := by
  unfold F_slices_Clone_impl_Item_impl_Item
  rw [call_prim (r := [.new 73 k_Item x0]) rfl (clonE_at (t := 73) (K := k_Item) (xs := x0) h)]
  rfl
theorem f_strings_Compare {x0 x1 : ByteArray} : F_strings_Compare x0 x1 = some (Go.Lib.compareBytes x0.data.toList x1.data.toList) := by
  unfold F_strings_Compare
  rw [call_prim (r := [.int .i64 (Go.Lib.compareBytes x0.data.toList x1.data.toList)]) rfl rfl]
  rfl
theorem f_slices_Insert_impl_Item_impl_Item {x0 : List y_Item} {i : Nat} {x2 : List y_Item} (h : x0.length + x2.length ≤ 68719476736) (hi : i ≤ x0.length) (hv : x2.length ≠ 0) : F_slices_Insert_impl_Item_impl_Item x0 (i : Int) x2 = some (x0.take i ++ x2 ++ x0.drop i) := by
  unfold F_slices_Insert_impl_Item_impl_Item
  rw [call_prim (r := [.new 73 k_Item (x0.take i ++ x2 ++ x0.drop i)]) rfl (insE_at (t := 73) (K := k_Item) (xs := x0) (vs := x2) (i := i) h hi hv)]
  rfl

end Go.Proofs.Ytnbfkndicldppaa.Core
