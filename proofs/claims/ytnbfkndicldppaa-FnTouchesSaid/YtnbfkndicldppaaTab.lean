/- The table of functions, held against the loaded program. Written by a program of this part. -/
import Derived.Test.YtnbfkndicldppaaA0
import Derived.Test.YtnbfkndicldppaaA1
import Derived.Test.YtnbfkndicldppaaA2
import Derived.Test.YtnbfkndicldppaaLays
namespace Go.Proofs.Ytnbfkndicldppaa.Core
open Go
set_option linter.unusedVariables false
set_option maxRecDepth 100000

def table : List (Nat × AFn) := [(11, a_laws_FnTouches), (21, a_laws_big), (37, a_laws_sameTexts), (62, a_spec_DrawRightQueue), (63, a_impl_Touch), (64, a_impl_Drop), (65, a_impl_HasKey), (66, a_impl_QueueOk), (67, a_laws_has), (68, a_laws_without), (103, a_spec_l01New), (105, a_impl_inRange), (106, a_spec_l01In), (107, a_spec_l01Below), (118, a_spec_l01Byte), (138, a_impl_isKey), (155, a_spec_Push), (156, a_spec_l03Key), (157, a_impl_copyQueue), (158, a_impl_Queue_touch), (159, a_impl_Queue_drop), (160, a_slices_Contains_string_string), (161, a_slices_Index_string_string), (227, a_spec_QueueOk), (228, a_spec_HasKey), (229, a_spec_l01Pick)]
def fns (f : Nat) : Option AFn := look f table
theorem b_laws_FnTouches : afnB Try.prog 11 a_laws_FnTouches = true := by kernel_rfl
theorem b_laws_big : afnB Try.prog 21 a_laws_big = true := by kernel_rfl
theorem b_laws_sameTexts : afnB Try.prog 37 a_laws_sameTexts = true := by kernel_rfl
theorem b_spec_DrawRightQueue : afnB Try.prog 62 a_spec_DrawRightQueue = true := by kernel_rfl
theorem b_impl_Touch : afnB Try.prog 63 a_impl_Touch = true := by kernel_rfl
theorem b_impl_Drop : afnB Try.prog 64 a_impl_Drop = true := by kernel_rfl
theorem b_impl_HasKey : afnB Try.prog 65 a_impl_HasKey = true := by kernel_rfl
theorem b_impl_QueueOk : afnB Try.prog 66 a_impl_QueueOk = true := by kernel_rfl
theorem b_laws_has : afnB Try.prog 67 a_laws_has = true := by kernel_rfl
theorem b_laws_without : afnB Try.prog 68 a_laws_without = true := by kernel_rfl
theorem b_spec_l01New : afnB Try.prog 103 a_spec_l01New = true := by kernel_rfl
theorem b_impl_inRange : afnB Try.prog 105 a_impl_inRange = true := by kernel_rfl
theorem b_spec_l01In : afnB Try.prog 106 a_spec_l01In = true := by kernel_rfl
theorem b_spec_l01Below : afnB Try.prog 107 a_spec_l01Below = true := by kernel_rfl
theorem b_spec_l01Byte : afnB Try.prog 118 a_spec_l01Byte = true := by kernel_rfl
theorem b_impl_isKey : afnB Try.prog 138 a_impl_isKey = true := by kernel_rfl
theorem b_spec_Push : afnB Try.prog 155 a_spec_Push = true := by kernel_rfl
theorem b_spec_l03Key : afnB Try.prog 156 a_spec_l03Key = true := by kernel_rfl
theorem b_impl_copyQueue : afnB Try.prog 157 a_impl_copyQueue = true := by kernel_rfl
theorem b_impl_Queue_touch : afnB Try.prog 158 a_impl_Queue_touch = true := by kernel_rfl
theorem b_impl_Queue_drop : afnB Try.prog 159 a_impl_Queue_drop = true := by kernel_rfl
theorem b_slices_Contains_string_string : afnB Try.prog 160 a_slices_Contains_string_string = true := by kernel_rfl
theorem b_slices_Index_string_string : afnB Try.prog 161 a_slices_Index_string_string = true := by kernel_rfl
theorem b_spec_QueueOk : afnB Try.prog 227 a_spec_QueueOk = true := by kernel_rfl
theorem b_spec_HasKey : afnB Try.prog 228 a_spec_HasKey = true := by kernel_rfl
theorem b_spec_l01Pick : afnB Try.prog 229 a_spec_l01Pick = true := by kernel_rfl
theorem tied : Tied Try.prog fns := look_tied (.cons b_laws_FnTouches <| .cons b_laws_big <| .cons b_laws_sameTexts <| .cons b_spec_DrawRightQueue <| .cons b_impl_Touch <| .cons b_impl_Drop <| .cons b_impl_HasKey <| .cons b_impl_QueueOk <| .cons b_laws_has <| .cons b_laws_without <| .cons b_spec_l01New <| .cons b_impl_inRange <| .cons b_spec_l01In <| .cons b_spec_l01Below <| .cons b_spec_l01Byte <| .cons b_impl_isKey <| .cons b_spec_Push <| .cons b_spec_l03Key <| .cons b_impl_copyQueue <| .cons b_impl_Queue_touch <| .cons b_impl_Queue_drop <| .cons b_slices_Contains_string_string <| .cons b_slices_Index_string_string <| .cons b_spec_QueueOk <| .cons b_spec_HasKey <| .cons b_spec_l01Pick .nil)
def prims : Cal := fun f args bs => if f = 230 then clonE 9 .str args bs else if f = 231 then insE 9 .str args bs else if f = 232 then delE 9 .str args bs else none
theorem primsOk : CallOk Try.prog prims := fun f args bs rs h => by
  unfold prims at h
  split at h
  · rename_i e; subst e; exact clonE_ok lays_230 el_230 h
  split at h
  · rename_i e; subst e; exact insE_ok lays_231 el_231 h
  split at h
  · rename_i e; subst e; exact delE_ok lays_232 el_232 h
  cases h

noncomputable def F_laws_FnTouches (x0 : List Int) : Option Bool := (calL fns prims 11 [.lst (.int .u8) x0] []).bind (decAll [.bool])
noncomputable def F_laws_big (x0 : List Int) : Option Bool := (calL fns prims 21 [.lst (.int .u8) x0] []).bind (decAll [.bool])
noncomputable def F_laws_sameTexts (x0 : List ByteArray) (x1 : List ByteArray) : Option Bool := (calL fns prims 37 [.lst .str x0, .lst .str x1] []).bind (decAll [.bool])
noncomputable def F_spec_DrawRightQueue (x0 : List Int) : Option (y_Queue × ByteArray) := (calL fns prims 62 [.lst (.int .u8) x0] []).bind (decAll [k_Queue, .str])
noncomputable def F_impl_Touch (x0 : y_Queue) (x1 : ByteArray) : Option (y_Queue × Bool) := (calL fns prims 63 [.agg [.int .i64 x0.1, .lst .str x0.2], .str x1] []).bind (decAll [k_Queue, .bool])
noncomputable def F_impl_Drop (x0 : y_Queue) (x1 : ByteArray) : Option (y_Queue × Bool) := (calL fns prims 64 [.agg [.int .i64 x0.1, .lst .str x0.2], .str x1] []).bind (decAll [k_Queue, .bool])
noncomputable def F_impl_HasKey (x0 : y_Queue) (x1 : ByteArray) : Option Bool := (calL fns prims 65 [.agg [.int .i64 x0.1, .lst .str x0.2], .str x1] []).bind (decAll [.bool])
noncomputable def F_impl_QueueOk (x0 : y_Queue) : Option Bool := (calL fns prims 66 [.agg [.int .i64 x0.1, .lst .str x0.2]] []).bind (decAll [.bool])
noncomputable def F_laws_has (x0 : List ByteArray) (x1 : ByteArray) : Option Bool := (calL fns prims 67 [.lst .str x0, .str x1] []).bind (decAll [.bool])
noncomputable def F_laws_without (x0 : List ByteArray) (x1 : ByteArray) : Option (List ByteArray) := (calL fns prims 68 [.lst .str x0, .str x1] []).bind (decAll [(.slice .str)])
noncomputable def F_spec_l01New (x0 : List Int) : Option y_l01Cur := (calL fns prims 103 [.lst (.int .u8) x0] []).bind (decAll [(.ref k_l01Cur)])
noncomputable def F_impl_inRange (x0 : Int) (x1 : Int) (x2 : Int) : Option Bool := (calL fns prims 105 [.int .i64 x0, .int .i64 x1, .int .i64 x2] []).bind (decAll [.bool])
noncomputable def F_spec_l01In (x0 : Int) (x1 : Int) (x2 : Int) : Option Bool := (calL fns prims 106 [.int .i64 x0, .int .i64 x1, .int .i64 x2] []).bind (decAll [.bool])
noncomputable def F_spec_l01Below (x1 : Int) (b0 : y_l01Cur) : Option (Int × y_l01Cur) := (calL fns prims 107 [.ptr 0 0, .int .i64 x1] [.agg [.lst (.int .u8) b0.1, .int .i64 b0.2.1, .int .i64 b0.2.2]]).bind (decAll [(.int .i64), k_l01Cur])
noncomputable def F_spec_l01Byte (b0 : y_l01Cur) : Option (Int × y_l01Cur) := (calL fns prims 118 [.ptr 0 0] [.agg [.lst (.int .u8) b0.1, .int .i64 b0.2.1, .int .i64 b0.2.2]]).bind (decAll [(.int .i64), k_l01Cur])
noncomputable def F_impl_isKey (x0 : ByteArray) : Option Bool := (calL fns prims 138 [.str x0] []).bind (decAll [.bool])
noncomputable def F_spec_Push (x0 : y_Queue) (x1 : ByteArray) : Option (y_Queue × ByteArray × Bool) := (calL fns prims 155 [.agg [.int .i64 x0.1, .lst .str x0.2], .str x1] []).bind (decAll [k_Queue, .str, .bool])
noncomputable def F_spec_l03Key (b0 : y_l01Cur) : Option (ByteArray × y_l01Cur) := (calL fns prims 156 [.ptr 0 0] [.agg [.lst (.int .u8) b0.1, .int .i64 b0.2.1, .int .i64 b0.2.2]]).bind (decAll [.str, k_l01Cur])
noncomputable def F_impl_copyQueue (x0 : y_Queue) : Option y_Queue := (calL fns prims 157 [.agg [.int .i64 x0.1, .lst .str x0.2]] []).bind (decAll [k_Queue_own])
noncomputable def F_impl_Queue_touch (x1 : ByteArray) (b0 : y_Queue) : Option (Bool × y_Queue) := (calL fns prims 158 [.ptr 0 0, .str x1] [.agg [.int .i64 b0.1, .new 9 .str b0.2]]).bind (decAll [.bool, k_Queue_own])
noncomputable def F_impl_Queue_drop (x1 : ByteArray) (b0 : y_Queue) : Option (Bool × y_Queue) := (calL fns prims 159 [.ptr 0 0, .str x1] [.agg [.int .i64 b0.1, .new 9 .str b0.2]]).bind (decAll [.bool, k_Queue_own])
noncomputable def F_slices_Contains_string_string (x0 : List ByteArray) (x1 : ByteArray) : Option Bool := (calL fns prims 160 [.lst .str x0, .str x1] []).bind (decAll [.bool])
noncomputable def F_slices_Index_string_string (x0 : List ByteArray) (x1 : ByteArray) : Option Int := (calL fns prims 161 [.lst .str x0, .str x1] []).bind (decAll [(.int .i64)])
noncomputable def F_spec_QueueOk (x0 : y_Queue) : Option Bool := (calL fns prims 227 [.agg [.int .i64 x0.1, .lst .str x0.2]] []).bind (decAll [.bool])
noncomputable def F_spec_HasKey (x0 : y_Queue) (x1 : ByteArray) : Option Bool := (calL fns prims 228 [.agg [.int .i64 x0.1, .lst .str x0.2], .str x1] []).bind (decAll [.bool])
noncomputable def F_spec_l01Pick (x1 : List ByteArray) (b0 : y_l01Cur) : Option (ByteArray × y_l01Cur) := (calL fns prims 229 [.ptr 0 0, .lst .str x1] [.agg [.lst (.int .u8) b0.1, .int .i64 b0.2.1, .int .i64 b0.2.2]]).bind (decAll [.str, k_l01Cur])
noncomputable def F_slices_Clone_string_string : (List ByteArray) → Option (List ByteArray) := (fun (q0 : List ByteArray) => (calL fns prims 230 [.lst .str q0] []).bind (decAll [(.own 9 .str)]))
noncomputable def F_slices_Insert_string_string : (List ByteArray) → Int → (List ByteArray) → Option (List ByteArray) := (fun (q0 : List ByteArray) (q1 : Int) (q2 : List ByteArray) => (calL fns prims 231 [.new 9 .str q0, .int .i64 q1, .new 9 .str q2] []).bind (decAll [(.own 9 .str)]))
noncomputable def F_slices_Delete_string_string : (List ByteArray) → Int → Int → Option (List ByteArray) := (fun (q0 : List ByteArray) (q1 : Int) (q2 : Int) => (calL fns prims 232 [.new 9 .str q0, .int .i64 q1, .int .i64 q2] []).bind (decAll [(.own 9 .str)]))
theorem f_slices_Clone_string_string {x0 : List ByteArray} (h : x0.length ≤ 68719476736) : F_slices_Clone_string_string x0 = some x0 := by
  unfold F_slices_Clone_string_string
  rw [call_prim (r := [.new 9 .str x0]) rfl (clonE_at (t := 9) (K := .str) (xs := x0) h)]
  rfl
theorem f_slices_Insert_string_string {x0 : List ByteArray} {i : Nat} {x2 : List ByteArray} (h : x0.length + x2.length ≤ 68719476736) (hi : i ≤ x0.length) (hv : x2.length ≠ 0) : F_slices_Insert_string_string x0 (i : Int) x2 = some (x0.take i ++ x2 ++ x0.drop i) := by
  unfold F_slices_Insert_string_string
  rw [call_prim (r := [.new 9 .str (x0.take i ++ x2 ++ x0.drop i)]) rfl (insE_at (t := 9) (K := .str) (xs := x0) (vs := x2) (i := i) h hi hv)]
  rfl
theorem f_slices_Delete_string_string {x0 : List ByteArray} {i j : Nat} (hi : i ≤ j) (hj : j ≤ x0.length) : F_slices_Delete_string_string x0 (i : Int) (j : Int) = some (x0.take i ++ x0.drop j) := by
  unfold F_slices_Delete_string_string
  rw [call_prim (r := [.new 9 .str (x0.take i ++ x0.drop j)]) rfl (delE_at (t := 9) (K := .str) (xs := x0) hi hj)]
  rfl

end Go.Proofs.Ytnbfkndicldppaa.Core
