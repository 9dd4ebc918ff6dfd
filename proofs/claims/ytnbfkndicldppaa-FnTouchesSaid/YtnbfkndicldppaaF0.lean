/- Equations of the functions, without fuel. Written by a program of this part. -/
import Derived.Test.YtnbfkndicldppaaTab
namespace Go.Proofs.Ytnbfkndicldppaa.Core
open Go
set_option linter.unusedVariables false
set_option maxRecDepth 100000

noncomputable def G_laws_FnTouches_J0 (s : St) : Option (RT (AFn.outs a_laws_FnTouches)) := e_laws_FnTouches_J0 (calL fns prims)  s
noncomputable def W_laws_FnTouches_J0 (x0 : ByteArray) (x1 : Bool) (x2 : Bool) (x3 : y_Queue) (x4 : y_Queue) (x5 : y_Queue) : Option Bool := G_laws_FnTouches_J0 ⟨[(3, .ptr 0 0), (4, .str x0), (5, .ptr 1 0), (6, .bool x1), (7, .ptr 2 0), (43, .bool x2)], [.var [.int .i64 x3.1, .lst .str x3.2], .var [.int .i64 x4.1, .lst .str x4.2], .var [.int .i64 x5.1, .lst .str x5.2]]⟩
theorem w_laws_FnTouches_J0 {x0 : ByteArray} {x1 : Bool} {x2 : Bool} {x3 : y_Queue} {x4 : y_Queue} {x5 : y_Queue} {r : Bool} (h : t_laws_FnTouches_J0 F_laws_big F_laws_sameTexts F_spec_DrawRightQueue F_impl_Touch F_impl_Drop F_impl_HasKey F_impl_QueueOk F_laws_has F_laws_without   x0 x1 x2 x3 x4 x5 = some r) : W_laws_FnTouches_J0 x0 x1 x2 x3 x4 x5 = some r := (h_laws_FnTouches_J0 (calL fns prims)  x0 x1 x2 x3 x4 x5).trans h
theorem f_laws_FnTouches {x0 : List Int} {r : Bool} (h : t_laws_FnTouches F_laws_big F_laws_sameTexts F_spec_DrawRightQueue F_impl_Touch F_impl_Drop F_impl_HasKey F_impl_QueueOk F_laws_has F_laws_without W_laws_FnTouches_J0 x0 = some r) : F_laws_FnTouches x0 = some r := call_typed (fn := a_laws_FnTouches) rfl ⟨rfl, rfl⟩ ((h_laws_FnTouches (calL fns prims) x0).trans h)

theorem f_laws_big {x0 : List Int} {r : Bool} (h : t_laws_big   x0 = some r) : F_laws_big x0 = some r := call_typed (fn := a_laws_big) rfl ⟨rfl, rfl⟩ ((h_laws_big (calL fns prims) x0).trans h)

noncomputable def G_laws_sameTexts_L0 (s : St) : Option (RT (AFn.outs a_laws_sameTexts)) := e_laws_sameTexts_L0 (calL fns prims)  s
noncomputable def W_laws_sameTexts_L0 (x0 : List ByteArray) (x1 : List ByteArray) (x2 : Int) : Option Bool := G_laws_sameTexts_L0 ⟨[(0, .lst .str x0), (1, .lst .str x1), (5, .int .i64 x2)], []⟩
theorem w_laws_sameTexts_L0 {x0 : List ByteArray} {x1 : List ByteArray} {x2 : Int} {r : Bool} (h : t_laws_sameTexts_L0   W_laws_sameTexts_L0 x0 x1 x2 = some r) : W_laws_sameTexts_L0 x0 x1 x2 = some r := loop_step ((h_laws_sameTexts_L0 (calL fns prims) G_laws_sameTexts_L0 x0 x1 x2).trans h)
theorem f_laws_sameTexts {x0 : List ByteArray} {x1 : List ByteArray} {r : Bool} (h : t_laws_sameTexts  W_laws_sameTexts_L0 x0 x1 = some r) : F_laws_sameTexts x0 x1 = some r := call_typed (fn := a_laws_sameTexts) rfl ⟨rfl, rfl⟩ ((h_laws_sameTexts (calL fns prims) x0 x1).trans h)

noncomputable def G_spec_DrawRightQueue_L0 (s : St) : Option (RT (AFn.outs a_spec_DrawRightQueue)) := e_spec_DrawRightQueue_L0 (calL fns prims)  s
noncomputable def W_spec_DrawRightQueue_L0 (x0 : Int) (x1 : y_Queue) (x2 : y_l01Cur) (x3 : y_Queue) : Option (y_Queue × ByteArray) := G_spec_DrawRightQueue_L0 ⟨[(2, .ptr 0 0), (4, .ptr 1 0), (5, .ptr 2 0), (6, .int .i64 x0)], [.var [.int .i64 x1.1, .lst .str x1.2], .var [.lst (.int .u8) x2.1, .int .i64 x2.2.1, .int .i64 x2.2.2], .var [.int .i64 x3.1, .lst .str x3.2]]⟩
theorem w_spec_DrawRightQueue_L0 {x0 : Int} {x1 : y_Queue} {x2 : y_l01Cur} {x3 : y_Queue} {r : y_Queue × ByteArray} (h : t_spec_DrawRightQueue_L0 F_spec_l01New F_spec_l01Below F_spec_Push F_spec_l03Key  W_spec_DrawRightQueue_L0 x0 x1 x2 x3 = some r) : W_spec_DrawRightQueue_L0 x0 x1 x2 x3 = some r := loop_step ((h_spec_DrawRightQueue_L0 (calL fns prims) G_spec_DrawRightQueue_L0 x0 x1 x2 x3).trans h)
theorem f_spec_DrawRightQueue {x0 : List Int} {r : y_Queue × ByteArray} (h : t_spec_DrawRightQueue F_spec_l01New F_spec_l01Below F_spec_Push F_spec_l03Key W_spec_DrawRightQueue_L0 x0 = some r) : F_spec_DrawRightQueue x0 = some r := call_typed (fn := a_spec_DrawRightQueue) rfl ⟨rfl, rfl⟩ ((h_spec_DrawRightQueue (calL fns prims) x0).trans h)

theorem f_impl_Touch {x0 : y_Queue} {x1 : ByteArray} {r : y_Queue × Bool} (h : t_impl_Touch F_impl_QueueOk F_impl_copyQueue F_impl_Queue_touch  x0 x1 = some r) : F_impl_Touch x0 x1 = some r := call_typed (fn := a_impl_Touch) rfl ⟨rfl, rfl⟩ ((h_impl_Touch (calL fns prims) x0 x1).trans h)

theorem f_impl_Drop {x0 : y_Queue} {x1 : ByteArray} {r : y_Queue × Bool} (h : t_impl_Drop F_impl_QueueOk F_impl_copyQueue F_impl_Queue_drop  x0 x1 = some r) : F_impl_Drop x0 x1 = some r := call_typed (fn := a_impl_Drop) rfl ⟨rfl, rfl⟩ ((h_impl_Drop (calL fns prims) x0 x1).trans h)

theorem f_impl_HasKey {x0 : y_Queue} {x1 : ByteArray} {r : Bool} (h : t_impl_HasKey F_slices_Contains_string_string  x0 x1 = some r) : F_impl_HasKey x0 x1 = some r := call_typed (fn := a_impl_HasKey) rfl ⟨rfl, rfl⟩ ((h_impl_HasKey (calL fns prims) x0 x1).trans h)

noncomputable def G_impl_QueueOk_J1 (s : St) : Option (RT (AFn.outs a_impl_QueueOk)) := e_impl_QueueOk_J1 (calL fns prims)  s
noncomputable def W_impl_QueueOk_J1 (x0 : Int) (x1 : List ByteArray) : Option Bool := G_impl_QueueOk_J1 ⟨[(1, .ptr 0 0)], [.var [.int .i64 x0, .lst .str x1]]⟩
noncomputable def G_impl_QueueOk_L0 (s : St) : Option (RT (AFn.outs a_impl_QueueOk)) := e_impl_QueueOk_L0 (calL fns prims)  s
noncomputable def W_impl_QueueOk_L0 (x0 : List ByteArray) (x1 : Int) (x2 : Int) (x3 : Int) (x4 : List ByteArray) : Option Bool := G_impl_QueueOk_L0 ⟨[(1, .ptr 0 0), (6, .lst .str x0), (7, .int .i64 x1), (8, .int .i64 x2)], [.var [.int .i64 x3, .lst .str x4]]⟩
theorem w_impl_QueueOk_J1 {x0 : Int} {x1 : List ByteArray} {r : Bool} (h : t_impl_QueueOk_J1 F_impl_inRange F_impl_isKey F_slices_Index_string_string   x0 x1 = some r) : W_impl_QueueOk_J1 x0 x1 = some r := (h_impl_QueueOk_J1 (calL fns prims)  x0 x1).trans h
theorem w_impl_QueueOk_L0 {x0 : List ByteArray} {x1 : Int} {x2 : Int} {x3 : Int} {x4 : List ByteArray} {r : Bool} (h : t_impl_QueueOk_L0 F_impl_inRange F_impl_isKey F_slices_Index_string_string W_impl_QueueOk_J1 W_impl_QueueOk_L0 x0 x1 x2 x3 x4 = some r) : W_impl_QueueOk_L0 x0 x1 x2 x3 x4 = some r := loop_step ((h_impl_QueueOk_L0 (calL fns prims) G_impl_QueueOk_L0 x0 x1 x2 x3 x4).trans h)
theorem f_impl_QueueOk {x0 : y_Queue} {r : Bool} (h : t_impl_QueueOk F_impl_inRange F_impl_isKey F_slices_Index_string_string W_impl_QueueOk_L0 x0 = some r) : F_impl_QueueOk x0 = some r := call_typed (fn := a_impl_QueueOk) rfl ⟨rfl, rfl⟩ ((h_impl_QueueOk (calL fns prims) x0).trans h)

noncomputable def G_laws_has_L0 (s : St) : Option (RT (AFn.outs a_laws_has)) := e_laws_has_L0 (calL fns prims)  s
noncomputable def W_laws_has_L0 (x0 : List ByteArray) (x1 : ByteArray) (x2 : Int) : Option Bool := G_laws_has_L0 ⟨[(0, .lst .str x0), (1, .str x1), (5, .int .i64 x2)], []⟩
theorem w_laws_has_L0 {x0 : List ByteArray} {x1 : ByteArray} {x2 : Int} {r : Bool} (h : t_laws_has_L0   W_laws_has_L0 x0 x1 x2 = some r) : W_laws_has_L0 x0 x1 x2 = some r := loop_step ((h_laws_has_L0 (calL fns prims) G_laws_has_L0 x0 x1 x2).trans h)
theorem f_laws_has {x0 : List ByteArray} {x1 : ByteArray} {r : Bool} (h : t_laws_has  W_laws_has_L0 x0 x1 = some r) : F_laws_has x0 x1 = some r := call_typed (fn := a_laws_has) rfl ⟨rfl, rfl⟩ ((h_laws_has (calL fns prims) x0 x1).trans h)

noncomputable def G_laws_without_L0 (s : St) : Option (RT (AFn.outs a_laws_without)) := e_laws_without_L0 (calL fns prims)  s
noncomputable def W_laws_without_L0 (x0 : List ByteArray) (x1 : ByteArray) (x2 : Int) (x3 : List ByteArray) : Option (List ByteArray) := G_laws_without_L0 ⟨[(0, .lst .str x0), (1, .str x1), (5, .row 0), (6, .int .i64 x2)], [.rows 9 .str x3]⟩
theorem w_laws_without_L0 {x0 : List ByteArray} {x1 : ByteArray} {x2 : Int} {x3 : List ByteArray} {r : List ByteArray} (h : t_laws_without_L0   W_laws_without_L0 x0 x1 x2 x3 = some r) : W_laws_without_L0 x0 x1 x2 x3 = some r := loop_step ((h_laws_without_L0 (calL fns prims) G_laws_without_L0 x0 x1 x2 x3).trans h)
theorem f_laws_without {x0 : List ByteArray} {x1 : ByteArray} {r : List ByteArray} (h : t_laws_without  W_laws_without_L0 x0 x1 = some r) : F_laws_without x0 x1 = some r := call_typed (fn := a_laws_without) rfl ⟨rfl, rfl⟩ ((h_laws_without (calL fns prims) x0 x1).trans h)

noncomputable def G_spec_l01New_L0 (s : St) : Option (RT (AFn.outs a_spec_l01New)) := e_spec_l01New_L0 (calL fns prims)  s
noncomputable def W_spec_l01New_L0 (x0 : List Int) (x1 : Int) (x2 : Int) : Option y_l01Cur := G_spec_l01New_L0 ⟨[(0, .lst (.int .u8) x0), (3, .int .i64 x1), (4, .int .i64 x2)], []⟩
noncomputable def G_spec_l01New_J1 (s : St) : Option (RT (AFn.outs a_spec_l01New)) := e_spec_l01New_J1 (calL fns prims) G_spec_l01New_L0 s
noncomputable def W_spec_l01New_J1 (x0 : List Int) (x1 : Int) (x2 : Int) (x3 : Bool) : Option y_l01Cur := G_spec_l01New_J1 ⟨[(0, .lst (.int .u8) x0), (3, .int .i64 x1), (4, .int .i64 x2), (15, .bool x3)], []⟩
theorem w_spec_l01New_J1 {x0 : List Int} {x1 : Int} {x2 : Int} {x3 : Bool} {r : y_l01Cur} (h : t_spec_l01New_J1   W_spec_l01New_L0 x0 x1 x2 x3 = some r) : W_spec_l01New_J1 x0 x1 x2 x3 = some r := (h_spec_l01New_J1 (calL fns prims) G_spec_l01New_L0 x0 x1 x2 x3).trans h
theorem w_spec_l01New_L0 {x0 : List Int} {x1 : Int} {x2 : Int} {r : y_l01Cur} (h : t_spec_l01New_L0  W_spec_l01New_J1 W_spec_l01New_L0 x0 x1 x2 = some r) : W_spec_l01New_L0 x0 x1 x2 = some r := loop_step ((h_spec_l01New_L0 (calL fns prims) G_spec_l01New_L0 x0 x1 x2).trans h)
theorem f_spec_l01New {x0 : List Int} {r : y_l01Cur} (h : t_spec_l01New  W_spec_l01New_L0 x0 = some r) : F_spec_l01New x0 = some r := call_typed (fn := a_spec_l01New) rfl ⟨rfl, rfl⟩ ((h_spec_l01New (calL fns prims) x0).trans h)

theorem f_impl_inRange {x0 : Int} {x1 : Int} {x2 : Int} {r : Bool} (h : t_impl_inRange   x0 x1 x2 = some r) : F_impl_inRange x0 x1 x2 = some r := call_typed (fn := a_impl_inRange) rfl ⟨rfl, rfl⟩ ((h_impl_inRange (calL fns prims) x0 x1 x2).trans h)

theorem f_spec_l01In {x0 : Int} {x1 : Int} {x2 : Int} {r : Bool} (h : t_spec_l01In   x0 x1 x2 = some r) : F_spec_l01In x0 x1 x2 = some r := call_typed (fn := a_spec_l01In) rfl ⟨rfl, rfl⟩ ((h_spec_l01In (calL fns prims) x0 x1 x2).trans h)

theorem f_spec_l01Below {x1 : Int} {b0 : y_l01Cur} {r : Int × y_l01Cur} (h : t_spec_l01Below F_spec_l01Byte  x1 b0 = some r) : F_spec_l01Below x1 b0 = some r := call_typed (fn := a_spec_l01Below) rfl ⟨rfl, rfl⟩ ((h_spec_l01Below (calL fns prims) x1 b0).trans h)

theorem f_spec_l01Byte {b0 : y_l01Cur} {r : Int × y_l01Cur} (h : t_spec_l01Byte   b0 = some r) : F_spec_l01Byte b0 = some r := call_typed (fn := a_spec_l01Byte) rfl ⟨rfl, rfl⟩ ((h_spec_l01Byte (calL fns prims) b0).trans h)

theorem f_impl_isKey {x0 : ByteArray} {r : Bool} (h : t_impl_isKey F_impl_inRange  x0 = some r) : F_impl_isKey x0 = some r := call_typed (fn := a_impl_isKey) rfl ⟨rfl, rfl⟩ ((h_impl_isKey (calL fns prims) x0).trans h)

noncomputable def G_spec_Push_J1 (s : St) : Option (RT (AFn.outs a_spec_Push)) := e_spec_Push_J1 (calL fns prims)  s
noncomputable def W_spec_Push_J1 (x0 : List ByteArray) (x1 : ByteArray) (x2 : y_Queue) (x3 : y_Queue) (x4 : List ByteArray) : Option (y_Queue × ByteArray × Bool) := G_spec_Push_J1 ⟨[(2, .ptr 0 0), (4, .ptr 1 0), (7, .lst .str x0), (8, .str x1)], [.var [.int .i64 x2.1, .lst .str x2.2], .var [.int .i64 x3.1, .lst .str x3.2], .frz .str x4]⟩
noncomputable def G_spec_Push_J0 (s : St) : Option (RT (AFn.outs a_spec_Push)) := e_spec_Push_J0 (calL fns prims)  s
noncomputable def W_spec_Push_J0 (x0 : ByteArray) (x1 : Bool) (x2 : y_Queue) (x3 : y_Queue) : Option (y_Queue × ByteArray × Bool) := G_spec_Push_J0 ⟨[(1, .str x0), (2, .ptr 0 0), (4, .ptr 1 0), (27, .bool x1)], [.var [.int .i64 x2.1, .lst .str x2.2], .var [.int .i64 x3.1, .lst .str x3.2]]⟩
theorem w_spec_Push_J1 {x0 : List ByteArray} {x1 : ByteArray} {x2 : y_Queue} {x3 : y_Queue} {x4 : List ByteArray} {r : y_Queue × ByteArray × Bool} (h : t_spec_Push_J1 F_spec_l01In F_spec_QueueOk F_spec_HasKey   x0 x1 x2 x3 x4 = some r) : W_spec_Push_J1 x0 x1 x2 x3 x4 = some r := (h_spec_Push_J1 (calL fns prims)  x0 x1 x2 x3 x4).trans h
theorem w_spec_Push_J0 {x0 : ByteArray} {x1 : Bool} {x2 : y_Queue} {x3 : y_Queue} {r : y_Queue × ByteArray × Bool} (h : t_spec_Push_J0 F_spec_l01In F_spec_QueueOk F_spec_HasKey W_spec_Push_J1  x0 x1 x2 x3 = some r) : W_spec_Push_J0 x0 x1 x2 x3 = some r := (h_spec_Push_J0 (calL fns prims)  x0 x1 x2 x3).trans h
theorem f_spec_Push {x0 : y_Queue} {x1 : ByteArray} {r : y_Queue × ByteArray × Bool} (h : t_spec_Push F_spec_l01In F_spec_QueueOk F_spec_HasKey W_spec_Push_J0 x0 x1 = some r) : F_spec_Push x0 x1 = some r := call_typed (fn := a_spec_Push) rfl ⟨rfl, rfl⟩ ((h_spec_Push (calL fns prims) x0 x1).trans h)

theorem f_spec_l03Key {b0 : y_l01Cur} {r : ByteArray × y_l01Cur} (h : t_spec_l03Key F_spec_l01Pick  b0 = some r) : F_spec_l03Key b0 = some r := call_typed (fn := a_spec_l03Key) rfl ⟨rfl, rfl⟩ ((h_spec_l03Key (calL fns prims) b0).trans h)

theorem f_impl_copyQueue {x0 : y_Queue} {r : y_Queue} (h : t_impl_copyQueue F_slices_Clone_string_string  x0 = some r) : F_impl_copyQueue x0 = some r := call_typed (fn := a_impl_copyQueue) rfl ⟨rfl, rfl⟩ ((h_impl_copyQueue (calL fns prims) x0).trans h)

theorem f_impl_Queue_touch {x1 : ByteArray} {b0 : y_Queue} {r : Bool × y_Queue} (h : t_impl_Queue_touch F_impl_Queue_drop F_slices_Insert_string_string  x1 b0 = some r) : F_impl_Queue_touch x1 b0 = some r := call_typed (fn := a_impl_Queue_touch) rfl ⟨rfl, rfl⟩ ((h_impl_Queue_touch (calL fns prims) x1 b0).trans h)

theorem f_impl_Queue_drop {x1 : ByteArray} {b0 : y_Queue} {r : Bool × y_Queue} (h : t_impl_Queue_drop F_slices_Index_string_string F_slices_Delete_string_string  x1 b0 = some r) : F_impl_Queue_drop x1 b0 = some r := call_typed (fn := a_impl_Queue_drop) rfl ⟨rfl, rfl⟩ ((h_impl_Queue_drop (calL fns prims) x1 b0).trans h)

theorem f_slices_Contains_string_string {x0 : List ByteArray} {x1 : ByteArray} {r : Bool} (h : t_slices_Contains_string_string F_slices_Index_string_string  x0 x1 = some r) : F_slices_Contains_string_string x0 x1 = some r := call_typed (fn := a_slices_Contains_string_string) rfl ⟨rfl, rfl⟩ ((h_slices_Contains_string_string (calL fns prims) x0 x1).trans h)

noncomputable def G_slices_Index_string_string_L0 (s : St) : Option (RT (AFn.outs a_slices_Index_string_string)) := e_slices_Index_string_string_L0 (calL fns prims)  s
noncomputable def W_slices_Index_string_string_L0 (x0 : List ByteArray) (x1 : ByteArray) (x2 : Int) (x3 : Int) : Option Int := G_slices_Index_string_string_L0 ⟨[(0, .lst .str x0), (1, .str x1), (7, .int .i64 x2), (8, .int .i64 x3)], []⟩
theorem w_slices_Index_string_string_L0 {x0 : List ByteArray} {x1 : ByteArray} {x2 : Int} {x3 : Int} {r : Int} (h : t_slices_Index_string_string_L0   W_slices_Index_string_string_L0 x0 x1 x2 x3 = some r) : W_slices_Index_string_string_L0 x0 x1 x2 x3 = some r := loop_step ((h_slices_Index_string_string_L0 (calL fns prims) G_slices_Index_string_string_L0 x0 x1 x2 x3).trans h)
theorem f_slices_Index_string_string {x0 : List ByteArray} {x1 : ByteArray} {r : Int} (h : t_slices_Index_string_string  W_slices_Index_string_string_L0 x0 x1 = some r) : F_slices_Index_string_string x0 x1 = some r := call_typed (fn := a_slices_Index_string_string) rfl ⟨rfl, rfl⟩ ((h_slices_Index_string_string (calL fns prims) x0 x1).trans h)

noncomputable def G_spec_QueueOk_L0 (s : St) : Option (RT (AFn.outs a_spec_QueueOk)) := e_spec_QueueOk_L0 (calL fns prims)  s
noncomputable def W_spec_QueueOk_L0 (x0 : Int) (x1 : y_Queue) : Option Bool := G_spec_QueueOk_L0 ⟨[(1, .ptr 0 0), (3, .int .i64 x0)], [.var [.int .i64 x1.1, .lst .str x1.2]]⟩
noncomputable def G_spec_QueueOk_L1 (s : St) : Option (RT (AFn.outs a_spec_QueueOk)) := e_spec_QueueOk_L1 (calL fns prims) G_spec_QueueOk_L0 s
noncomputable def W_spec_QueueOk_L1 (x0 : Int) (x1 : Int) (x2 : y_Queue) : Option Bool := G_spec_QueueOk_L1 ⟨[(1, .ptr 0 0), (3, .int .i64 x0), (4, .int .i64 x1)], [.var [.int .i64 x2.1, .lst .str x2.2]]⟩
theorem w_spec_QueueOk_L1 {x0 : Int} {x1 : Int} {x2 : y_Queue} {r : Bool} (h : t_spec_QueueOk_L1 F_spec_l01In  W_spec_QueueOk_L0 W_spec_QueueOk_L1 x0 x1 x2 = some r) : W_spec_QueueOk_L1 x0 x1 x2 = some r := loop_step ((h_spec_QueueOk_L1 (calL fns prims) G_spec_QueueOk_L0 G_spec_QueueOk_L1 x0 x1 x2).trans h)
theorem w_spec_QueueOk_L0 {x0 : Int} {x1 : y_Queue} {r : Bool} (h : t_spec_QueueOk_L0 F_spec_l01In W_spec_QueueOk_L1 W_spec_QueueOk_L0 x0 x1 = some r) : W_spec_QueueOk_L0 x0 x1 = some r := loop_step ((h_spec_QueueOk_L0 (calL fns prims) G_spec_QueueOk_L0 x0 x1).trans h)
theorem f_spec_QueueOk {x0 : y_Queue} {r : Bool} (h : t_spec_QueueOk F_spec_l01In W_spec_QueueOk_L0 x0 = some r) : F_spec_QueueOk x0 = some r := call_typed (fn := a_spec_QueueOk) rfl ⟨rfl, rfl⟩ ((h_spec_QueueOk (calL fns prims) x0).trans h)

noncomputable def G_spec_HasKey_L0 (s : St) : Option (RT (AFn.outs a_spec_HasKey)) := e_spec_HasKey_L0 (calL fns prims)  s
noncomputable def W_spec_HasKey_L0 (x0 : ByteArray) (x1 : Int) (x2 : y_Queue) : Option Bool := G_spec_HasKey_L0 ⟨[(1, .str x0), (2, .ptr 0 0), (5, .int .i64 x1)], [.var [.int .i64 x2.1, .lst .str x2.2]]⟩
theorem w_spec_HasKey_L0 {x0 : ByteArray} {x1 : Int} {x2 : y_Queue} {r : Bool} (h : t_spec_HasKey_L0   W_spec_HasKey_L0 x0 x1 x2 = some r) : W_spec_HasKey_L0 x0 x1 x2 = some r := loop_step ((h_spec_HasKey_L0 (calL fns prims) G_spec_HasKey_L0 x0 x1 x2).trans h)
theorem f_spec_HasKey {x0 : y_Queue} {x1 : ByteArray} {r : Bool} (h : t_spec_HasKey  W_spec_HasKey_L0 x0 x1 = some r) : F_spec_HasKey x0 x1 = some r := call_typed (fn := a_spec_HasKey) rfl ⟨rfl, rfl⟩ ((h_spec_HasKey (calL fns prims) x0 x1).trans h)

theorem f_spec_l01Pick {x1 : List ByteArray} {b0 : y_l01Cur} {r : ByteArray × y_l01Cur} (h : t_spec_l01Pick F_spec_l01Below  x1 b0 = some r) : F_spec_l01Pick x1 b0 = some r := call_typed (fn := a_spec_l01Pick) rfl ⟨rfl, rfl⟩ ((h_spec_l01Pick (calL fns prims) x1 b0).trans h)
end Go.Proofs.Ytnbfkndicldppaa.Core
