/- Equations of the functions, without fuel. Written by a program of this part. -/
import Derived.Test.YtnbfkndicldppaaTab
namespace Go.Proofs.Ytnbfkndicldppaa.Core
open Go
set_option linter.unusedVariables false
set_option maxRecDepth 100000

noncomputable def G_laws_FnItems_J2 (s : St) : Option (RT (AFn.outs a_laws_FnItems)) := e_laws_FnItems_J2 (calL fns prims)  s
noncomputable def W_laws_FnItems_J2 (x0 : List y_Item) (x1 : List y_Item) (x2 : y_Item) (x3 : y_Item) (x4 : y_Item) : Option Bool := G_laws_FnItems_J2 ⟨[(3, .lst k_Item x0), (4, .ptr 0 0), (5, .lst k_Item x1)], [.var [.str x2.1, .str x2.2.1, .int .i64 x2.2.2], .var [.str x3.1, .str x3.2.1, .int .i64 x3.2.2], .var [.str x4.1, .str x4.2.1, .int .i64 x4.2.2]]⟩
noncomputable def G_laws_FnItems_L1 (s : St) : Option (RT (AFn.outs a_laws_FnItems)) := e_laws_FnItems_L1 (calL fns prims)  s
noncomputable def W_laws_FnItems_L1 (x0 : List y_Item) (x1 : List y_Item) (x2 : Int) (x3 : y_Item) (x4 : y_Item) (x5 : y_Item) : Option Bool := G_laws_FnItems_L1 ⟨[(3, .lst k_Item x0), (4, .ptr 0 0), (5, .lst k_Item x1), (8, .int .i64 x2)], [.var [.str x3.1, .str x3.2.1, .int .i64 x3.2.2], .var [.str x4.1, .str x4.2.1, .int .i64 x4.2.2], .var [.str x5.1, .str x5.2.1, .int .i64 x5.2.2]]⟩
noncomputable def G_laws_FnItems_J0 (s : St) : Option (RT (AFn.outs a_laws_FnItems)) := e_laws_FnItems_J0 (calL fns prims)  s
noncomputable def W_laws_FnItems_J0 (x0 : List y_Item) (x1 : List y_Item) (x2 : Bool) (x3 : y_Item) (x4 : y_Item) (x5 : y_Item) : Option Bool := G_laws_FnItems_J0 ⟨[(3, .lst k_Item x0), (4, .ptr 0 0), (5, .lst k_Item x1), (53, .bool x2)], [.var [.str x3.1, .str x3.2.1, .int .i64 x3.2.2], .var [.str x4.1, .str x4.2.1, .int .i64 x4.2.2], .var [.str x5.1, .str x5.2.1, .int .i64 x5.2.2]]⟩
theorem w_laws_FnItems_J2 {x0 : List y_Item} {x1 : List y_Item} {x2 : y_Item} {x3 : y_Item} {x4 : y_Item} {r : Bool} (h : t_laws_FnItems_J2 F_laws_big F_spec_DrawItems F_impl_PutItem F_impl_ItemOf F_impl_ItemsOk F_laws_sameItems F_spec_PutItem   x0 x1 x2 x3 x4 = some r) : W_laws_FnItems_J2 x0 x1 x2 x3 x4 = some r := (h_laws_FnItems_J2 (calL fns prims)  x0 x1 x2 x3 x4).trans h
theorem w_laws_FnItems_L1 {x0 : List y_Item} {x1 : List y_Item} {x2 : Int} {x3 : y_Item} {x4 : y_Item} {x5 : y_Item} {r : Bool} (h : t_laws_FnItems_L1 F_laws_big F_spec_DrawItems F_impl_PutItem F_impl_ItemOf F_impl_ItemsOk F_laws_sameItems F_spec_PutItem W_laws_FnItems_J2 W_laws_FnItems_L1 x0 x1 x2 x3 x4 x5 = some r) : W_laws_FnItems_L1 x0 x1 x2 x3 x4 x5 = some r := loop_step ((h_laws_FnItems_L1 (calL fns prims) G_laws_FnItems_L1 x0 x1 x2 x3 x4 x5).trans h)
theorem w_laws_FnItems_J0 {x0 : List y_Item} {x1 : List y_Item} {x2 : Bool} {x3 : y_Item} {x4 : y_Item} {x5 : y_Item} {r : Bool} (h : t_laws_FnItems_J0 F_laws_big F_spec_DrawItems F_impl_PutItem F_impl_ItemOf F_impl_ItemsOk F_laws_sameItems F_spec_PutItem W_laws_FnItems_L1  x0 x1 x2 x3 x4 x5 = some r) : W_laws_FnItems_J0 x0 x1 x2 x3 x4 x5 = some r := (h_laws_FnItems_J0 (calL fns prims)  x0 x1 x2 x3 x4 x5).trans h
theorem f_laws_FnItems {x0 : List Int} {r : Bool} (h : t_laws_FnItems F_laws_big F_spec_DrawItems F_impl_PutItem F_impl_ItemOf F_impl_ItemsOk F_laws_sameItems F_spec_PutItem W_laws_FnItems_J0 x0 = some r) : F_laws_FnItems x0 = some r := call_typed (fn := a_laws_FnItems) rfl ⟨rfl, rfl⟩ ((h_laws_FnItems (calL fns prims) x0).trans h)

theorem f_laws_big {x0 : List Int} {r : Bool} (h : t_laws_big   x0 = some r) : F_laws_big x0 = some r := call_typed (fn := a_laws_big) rfl ⟨rfl, rfl⟩ ((h_laws_big (calL fns prims) x0).trans h)

theorem f_spec_DrawItems {x0 : List Int} {r : List y_Item × y_Item} (h : t_spec_DrawItems F_spec_l01New F_spec_l13Items F_spec_l13Item  x0 = some r) : F_spec_DrawItems x0 = some r := call_typed (fn := a_spec_DrawItems) rfl ⟨rfl, rfl⟩ ((h_spec_DrawItems (calL fns prims) x0).trans h)

noncomputable def G_impl_PutItem_J1 (s : St) : Option (RT (AFn.outs a_impl_PutItem)) := e_impl_PutItem_J1 (calL fns prims)  s
noncomputable def W_impl_PutItem_J1 (x0 : List y_Item) (x1 : y_Item) (x2 : List y_Item) : Option (List y_Item) := G_impl_PutItem_J1 ⟨[(0, .lst k_Item x0), (5, .row 1)], [.var [.str x1.1, .str x1.2.1, .int .i64 x1.2.2], .rows 73 k_Item x2]⟩
noncomputable def G_impl_PutItem_J0 (s : St) : Option (RT (AFn.outs a_impl_PutItem)) := e_impl_PutItem_J0 (calL fns prims)  s
noncomputable def W_impl_PutItem_J0 (x0 : List y_Item) (x1 : Int) (x2 : Bool) (x3 : Bool) (x4 : y_Item) (x5 : List y_Item) : Option (List y_Item) := G_impl_PutItem_J0 ⟨[(0, .lst k_Item x0), (3, .ptr 0 0), (5, .row 1), (6, .int .i64 x1), (7, .bool x2), (32, .bool x3)], [.var [.str x4.1, .str x4.2.1, .int .i64 x4.2.2], .rows 73 k_Item x5]⟩
theorem w_impl_PutItem_J1 {x0 : List y_Item} {x1 : y_Item} {x2 : List y_Item} {r : List y_Item} (h : t_impl_PutItem_J1 F_impl_ItemsOk F_slices_Clone_impl_Item_impl_Item F_slices_BinarySearchFunc_impl_Item_impl_Item_string F_slices_Insert_impl_Item_impl_Item   x0 x1 x2 = some r) : W_impl_PutItem_J1 x0 x1 x2 = some r := (h_impl_PutItem_J1 (calL fns prims)  x0 x1 x2).trans h
theorem w_impl_PutItem_J0 {x0 : List y_Item} {x1 : Int} {x2 : Bool} {x3 : Bool} {x4 : y_Item} {x5 : List y_Item} {r : List y_Item} (h : t_impl_PutItem_J0 F_impl_ItemsOk F_slices_Clone_impl_Item_impl_Item F_slices_BinarySearchFunc_impl_Item_impl_Item_string F_slices_Insert_impl_Item_impl_Item W_impl_PutItem_J1  x0 x1 x2 x3 x4 x5 = some r) : W_impl_PutItem_J0 x0 x1 x2 x3 x4 x5 = some r := (h_impl_PutItem_J0 (calL fns prims)  x0 x1 x2 x3 x4 x5).trans h
theorem f_impl_PutItem {x0 : List y_Item} {x1 : y_Item} {r : List y_Item} (h : t_impl_PutItem F_impl_ItemsOk F_slices_Clone_impl_Item_impl_Item F_slices_BinarySearchFunc_impl_Item_impl_Item_string F_slices_Insert_impl_Item_impl_Item W_impl_PutItem_J0 x0 x1 = some r) : F_impl_PutItem x0 x1 = some r := call_typed (fn := a_impl_PutItem) rfl ⟨rfl, rfl⟩ ((h_impl_PutItem (calL fns prims) x0 x1).trans h)

noncomputable def G_impl_ItemOf_L0 (s : St) : Option (RT (AFn.outs a_impl_ItemOf)) := e_impl_ItemOf_L0 (calL fns prims)  s
noncomputable def W_impl_ItemOf_L0 (x0 : ByteArray) (x1 : List y_Item) (x2 : Int) (x3 : Int) (x4 : y_Item) : Option y_Item := G_impl_ItemOf_L0 ⟨[(1, .str x0), (4, .ptr 0 0), (7, .lst k_Item x1), (8, .int .i64 x2), (9, .int .i64 x3)], [.var [.str x4.1, .str x4.2.1, .int .i64 x4.2.2]]⟩
theorem w_impl_ItemOf_L0 {x0 : ByteArray} {x1 : List y_Item} {x2 : Int} {x3 : Int} {x4 : y_Item} {r : y_Item} (h : t_impl_ItemOf_L0   W_impl_ItemOf_L0 x0 x1 x2 x3 x4 = some r) : W_impl_ItemOf_L0 x0 x1 x2 x3 x4 = some r := loop_step ((h_impl_ItemOf_L0 (calL fns prims) G_impl_ItemOf_L0 x0 x1 x2 x3 x4).trans h)
theorem f_impl_ItemOf {x0 : List y_Item} {x1 : ByteArray} {r : y_Item} (h : t_impl_ItemOf  W_impl_ItemOf_L0 x0 x1 = some r) : F_impl_ItemOf x0 x1 = some r := call_typed (fn := a_impl_ItemOf) rfl ⟨rfl, rfl⟩ ((h_impl_ItemOf (calL fns prims) x0 x1).trans h)

noncomputable def G_impl_ItemsOk_L0 (s : St) : Option (RT (AFn.outs a_impl_ItemsOk)) := e_impl_ItemsOk_L0 (calL fns prims)  s
noncomputable def W_impl_ItemsOk_L0 (x0 : List y_Item) (x1 : List y_Item) (x2 : Int) (x3 : Int) : Option Bool := G_impl_ItemsOk_L0 ⟨[(0, .lst k_Item x0), (5, .lst k_Item x1), (6, .int .i64 x2), (7, .int .i64 x3)], []⟩
theorem w_impl_ItemsOk_L0 {x0 : List y_Item} {x1 : List y_Item} {x2 : Int} {x3 : Int} {r : Bool} (h : t_impl_ItemsOk_L0 F_impl_inRange F_impl_isKey  W_impl_ItemsOk_L0 x0 x1 x2 x3 = some r) : W_impl_ItemsOk_L0 x0 x1 x2 x3 = some r := loop_step ((h_impl_ItemsOk_L0 (calL fns prims) G_impl_ItemsOk_L0 x0 x1 x2 x3).trans h)
theorem f_impl_ItemsOk {x0 : List y_Item} {r : Bool} (h : t_impl_ItemsOk F_impl_inRange F_impl_isKey W_impl_ItemsOk_L0 x0 = some r) : F_impl_ItemsOk x0 = some r := call_typed (fn := a_impl_ItemsOk) rfl ⟨rfl, rfl⟩ ((h_impl_ItemsOk (calL fns prims) x0).trans h)

noncomputable def G_laws_sameItems_L0 (s : St) : Option (RT (AFn.outs a_laws_sameItems)) := e_laws_sameItems_L0 (calL fns prims)  s
noncomputable def W_laws_sameItems_L0 (x0 : List y_Item) (x1 : List y_Item) (x2 : Int) : Option Bool := G_laws_sameItems_L0 ⟨[(0, .lst k_Item x0), (1, .lst k_Item x1), (5, .int .i64 x2)], []⟩
theorem w_laws_sameItems_L0 {x0 : List y_Item} {x1 : List y_Item} {x2 : Int} {r : Bool} (h : t_laws_sameItems_L0   W_laws_sameItems_L0 x0 x1 x2 = some r) : W_laws_sameItems_L0 x0 x1 x2 = some r := loop_step ((h_laws_sameItems_L0 (calL fns prims) G_laws_sameItems_L0 x0 x1 x2).trans h)
theorem f_laws_sameItems {x0 : List y_Item} {x1 : List y_Item} {r : Bool} (h : t_laws_sameItems  W_laws_sameItems_L0 x0 x1 = some r) : F_laws_sameItems x0 x1 = some r := call_typed (fn := a_laws_sameItems) rfl ⟨rfl, rfl⟩ ((h_laws_sameItems (calL fns prims) x0 x1).trans h)

noncomputable def G_spec_PutItem_J4 (s : St) : Option (RT (AFn.outs a_spec_PutItem)) := e_spec_PutItem_J4 (calL fns prims)  s
noncomputable def W_spec_PutItem_J4 (x0 : List y_Item) (x1 : y_Item) (x2 : List y_Item) (x3 : List y_Item) : Option (List y_Item) := G_spec_PutItem_J4 ⟨[(0, .lst k_Item x0), (5, .row 1), (6, .row 2)], [.var [.str x1.1, .str x1.2.1, .int .i64 x1.2.2], .rows 73 k_Item x2, .rows 73 k_Item x3]⟩
noncomputable def G_spec_PutItem_L3 (s : St) : Option (RT (AFn.outs a_spec_PutItem)) := e_spec_PutItem_L3 (calL fns prims)  s
noncomputable def W_spec_PutItem_L3 (x0 : List y_Item) (x1 : Int) (x2 : y_Item) (x3 : List y_Item) (x4 : List y_Item) : Option (List y_Item) := G_spec_PutItem_L3 ⟨[(0, .lst k_Item x0), (3, .ptr 0 0), (5, .row 1), (6, .row 2), (8, .int .i64 x1)], [.var [.str x2.1, .str x2.2.1, .int .i64 x2.2.2], .rows 73 k_Item x3, .rows 73 k_Item x4]⟩
noncomputable def G_spec_PutItem_J2 (s : St) : Option (RT (AFn.outs a_spec_PutItem)) := e_spec_PutItem_J2 (calL fns prims)  s
noncomputable def W_spec_PutItem_J2 (x0 : List y_Item) (x1 : y_Item) (x2 : List y_Item) (x3 : List y_Item) : Option (List y_Item) := G_spec_PutItem_J2 ⟨[(0, .lst k_Item x0), (3, .ptr 0 0), (5, .row 1), (6, .row 2)], [.var [.str x1.1, .str x1.2.1, .int .i64 x1.2.2], .rows 73 k_Item x2, .rows 73 k_Item x3]⟩
noncomputable def G_spec_PutItem_L0 (s : St) : Option (RT (AFn.outs a_spec_PutItem)) := e_spec_PutItem_L0 (calL fns prims)  s
noncomputable def W_spec_PutItem_L0 (x0 : List y_Item) (x1 : Int) (x2 : y_Item) (x3 : List y_Item) (x4 : List y_Item) : Option (List y_Item) := G_spec_PutItem_L0 ⟨[(0, .lst k_Item x0), (3, .ptr 0 0), (5, .row 1), (6, .row 2), (7, .int .i64 x1)], [.var [.str x2.1, .str x2.2.1, .int .i64 x2.2.2], .rows 73 k_Item x3, .rows 73 k_Item x4]⟩
noncomputable def G_spec_PutItem_J1 (s : St) : Option (RT (AFn.outs a_spec_PutItem)) := e_spec_PutItem_J1 (calL fns prims) G_spec_PutItem_L0 s
noncomputable def W_spec_PutItem_J1 (x0 : List y_Item) (x1 : Int) (x2 : y_Item) (x3 : List y_Item) (x4 : List y_Item) : Option (List y_Item) := G_spec_PutItem_J1 ⟨[(0, .lst k_Item x0), (3, .ptr 0 0), (5, .row 1), (6, .row 2), (7, .int .i64 x1)], [.var [.str x2.1, .str x2.2.1, .int .i64 x2.2.2], .rows 73 k_Item x3, .rows 73 k_Item x4]⟩
theorem w_spec_PutItem_J1 {x0 : List y_Item} {x1 : Int} {x2 : y_Item} {x3 : List y_Item} {x4 : List y_Item} {r : List y_Item} (h : t_spec_PutItem_J1 F_spec_ItemsOk  W_spec_PutItem_L0 x0 x1 x2 x3 x4 = some r) : W_spec_PutItem_J1 x0 x1 x2 x3 x4 = some r := (h_spec_PutItem_J1 (calL fns prims) G_spec_PutItem_L0 x0 x1 x2 x3 x4).trans h
theorem w_spec_PutItem_J4 {x0 : List y_Item} {x1 : y_Item} {x2 : List y_Item} {x3 : List y_Item} {r : List y_Item} (h : t_spec_PutItem_J4 F_spec_ItemsOk   x0 x1 x2 x3 = some r) : W_spec_PutItem_J4 x0 x1 x2 x3 = some r := (h_spec_PutItem_J4 (calL fns prims)  x0 x1 x2 x3).trans h
theorem w_spec_PutItem_L3 {x0 : List y_Item} {x1 : Int} {x2 : y_Item} {x3 : List y_Item} {x4 : List y_Item} {r : List y_Item} (h : t_spec_PutItem_L3 F_spec_ItemsOk W_spec_PutItem_J4 W_spec_PutItem_L3 x0 x1 x2 x3 x4 = some r) : W_spec_PutItem_L3 x0 x1 x2 x3 x4 = some r := loop_step ((h_spec_PutItem_L3 (calL fns prims) G_spec_PutItem_L3 x0 x1 x2 x3 x4).trans h)
theorem w_spec_PutItem_J2 {x0 : List y_Item} {x1 : y_Item} {x2 : List y_Item} {x3 : List y_Item} {r : List y_Item} (h : t_spec_PutItem_J2 F_spec_ItemsOk W_spec_PutItem_L3  x0 x1 x2 x3 = some r) : W_spec_PutItem_J2 x0 x1 x2 x3 = some r := (h_spec_PutItem_J2 (calL fns prims)  x0 x1 x2 x3).trans h
theorem w_spec_PutItem_L0 {x0 : List y_Item} {x1 : Int} {x2 : y_Item} {x3 : List y_Item} {x4 : List y_Item} {r : List y_Item} (h : t_spec_PutItem_L0 F_spec_ItemsOk W_spec_PutItem_J1 W_spec_PutItem_J2 W_spec_PutItem_L0 x0 x1 x2 x3 x4 = some r) : W_spec_PutItem_L0 x0 x1 x2 x3 x4 = some r := loop_step ((h_spec_PutItem_L0 (calL fns prims) G_spec_PutItem_L0 x0 x1 x2 x3 x4).trans h)
theorem f_spec_PutItem {x0 : List y_Item} {x1 : y_Item} {r : List y_Item} (h : t_spec_PutItem F_spec_ItemsOk W_spec_PutItem_L0 x0 x1 = some r) : F_spec_PutItem x0 x1 = some r := call_typed (fn := a_spec_PutItem) rfl ⟨rfl, rfl⟩ ((h_spec_PutItem (calL fns prims) x0 x1).trans h)

noncomputable def G_spec_l01New_L0 (s : St) : Option (RT (AFn.outs a_spec_l01New)) := e_spec_l01New_L0 (calL fns prims)  s
noncomputable def W_spec_l01New_L0 (x0 : List Int) (x1 : Int) (x2 : Int) : Option y_l01Cur := G_spec_l01New_L0 ⟨[(0, .lst (.int .u8) x0), (3, .int .i64 x1), (4, .int .i64 x2)], []⟩
noncomputable def G_spec_l01New_J1 (s : St) : Option (RT (AFn.outs a_spec_l01New)) := e_spec_l01New_J1 (calL fns prims) G_spec_l01New_L0 s
noncomputable def W_spec_l01New_J1 (x0 : List Int) (x1 : Int) (x2 : Int) (x3 : Bool) : Option y_l01Cur := G_spec_l01New_J1 ⟨[(0, .lst (.int .u8) x0), (3, .int .i64 x1), (4, .int .i64 x2), (15, .bool x3)], []⟩
theorem w_spec_l01New_J1 {x0 : List Int} {x1 : Int} {x2 : Int} {x3 : Bool} {r : y_l01Cur} (h : t_spec_l01New_J1   W_spec_l01New_L0 x0 x1 x2 x3 = some r) : W_spec_l01New_J1 x0 x1 x2 x3 = some r := (h_spec_l01New_J1 (calL fns prims) G_spec_l01New_L0 x0 x1 x2 x3).trans h
theorem w_spec_l01New_L0 {x0 : List Int} {x1 : Int} {x2 : Int} {r : y_l01Cur} (h : t_spec_l01New_L0  W_spec_l01New_J1 W_spec_l01New_L0 x0 x1 x2 = some r) : W_spec_l01New_L0 x0 x1 x2 = some r := loop_step ((h_spec_l01New_L0 (calL fns prims) G_spec_l01New_L0 x0 x1 x2).trans h)
theorem f_spec_l01New {x0 : List Int} {r : y_l01Cur} (h : t_spec_l01New  W_spec_l01New_L0 x0 = some r) : F_spec_l01New x0 = some r := call_typed (fn := a_spec_l01New) rfl ⟨rfl, rfl⟩ ((h_spec_l01New (calL fns prims) x0).trans h)

theorem f_impl_inRange {x0 : Int} {x1 : Int} {x2 : Int} {r : Bool} (h : t_impl_inRange   x0 x1 x2 = some r) : F_impl_inRange x0 x1 x2 = some r := call_typed (fn := a_impl_inRange) rfl ⟨rfl, rfl⟩ ((h_impl_inRange (calL fns prims) x0 x1 x2).trans h)

theorem f_spec_l01In {x0 : Int} {x1 : Int} {x2 : Int} {r : Bool} (h : t_spec_l01In   x0 x1 x2 = some r) : F_spec_l01In x0 x1 x2 = some r := call_typed (fn := a_spec_l01In) rfl ⟨rfl, rfl⟩ ((h_spec_l01In (calL fns prims) x0 x1 x2).trans h)

theorem f_spec_l01Below {x1 : Int} {b0 : y_l01Cur} {r : Int × y_l01Cur} (h : t_spec_l01Below F_spec_l01Byte  x1 b0 = some r) : F_spec_l01Below x1 b0 = some r := call_typed (fn := a_spec_l01Below) rfl ⟨rfl, rfl⟩ ((h_spec_l01Below (calL fns prims) x1 b0).trans h)

theorem f_spec_l01Byte {b0 : y_l01Cur} {r : Int × y_l01Cur} (h : t_spec_l01Byte   b0 = some r) : F_spec_l01Byte b0 = some r := call_typed (fn := a_spec_l01Byte) rfl ⟨rfl, rfl⟩ ((h_spec_l01Byte (calL fns prims) b0).trans h)

noncomputable def G_spec_l13Items_L0 (s : St) : Option (RT (AFn.outs a_spec_l13Items)) := e_spec_l13Items_L0 (calL fns prims)  s
noncomputable def W_spec_l13Items_L0 (x0 : Int) (x1 : y_l01Cur) (x2 : List y_Item) : Option (List y_Item × y_l01Cur) := G_spec_l13Items_L0 ⟨[(0, .ptr 0 0), (3, .row 1), (4, .int .i64 x0)], [.var [.lst (.int .u8) x1.1, .int .i64 x1.2.1, .int .i64 x1.2.2], .rows 73 k_Item x2]⟩
theorem w_spec_l13Items_L0 {x0 : Int} {x1 : y_l01Cur} {x2 : List y_Item} {r : List y_Item × y_l01Cur} (h : t_spec_l13Items_L0 F_spec_PutItem F_spec_l01Below F_spec_l13Item  W_spec_l13Items_L0 x0 x1 x2 = some r) : W_spec_l13Items_L0 x0 x1 x2 = some r := loop_step ((h_spec_l13Items_L0 (calL fns prims) G_spec_l13Items_L0 x0 x1 x2).trans h)
theorem f_spec_l13Items {b0 : y_l01Cur} {r : List y_Item × y_l01Cur} (h : t_spec_l13Items F_spec_PutItem F_spec_l01Below F_spec_l13Item W_spec_l13Items_L0 b0 = some r) : F_spec_l13Items b0 = some r := call_typed (fn := a_spec_l13Items) rfl ⟨rfl, rfl⟩ ((h_spec_l13Items (calL fns prims) b0).trans h)

theorem f_spec_l13Item {b0 : y_l01Cur} {r : y_Item × y_l01Cur} (h : t_spec_l13Item F_spec_l01Below F_spec_l03Key F_spec_l03Val  b0 = some r) : F_spec_l13Item b0 = some r := call_typed (fn := a_spec_l13Item) rfl ⟨rfl, rfl⟩ ((h_spec_l13Item (calL fns prims) b0).trans h)

noncomputable def G_slices_BinarySearchFunc_impl_Item_impl_Item_string_J1 (s : St) : Option (RT (AFn.outs a_slices_BinarySearchFunc_impl_Item_impl_Item_string)) := e_slices_BinarySearchFunc_impl_Item_impl_Item_string_J1 (calL fns prims)  s
noncomputable def W_slices_BinarySearchFunc_impl_Item_impl_Item_string_J1 (x0 : List y_Item) (x1 : ByteArray) (x2 : Int) (x3 : Int) : Option (Int × Bool) := G_slices_BinarySearchFunc_impl_Item_impl_Item_string_J1 ⟨[(0, .lst k_Item x0), (1, .str x1), (2, .fn 135 []), (8, .int .i64 x2), (9, .int .i64 x3)], []⟩
noncomputable def G_slices_BinarySearchFunc_impl_Item_impl_Item_string_L0 (s : St) : Option (RT (AFn.outs a_slices_BinarySearchFunc_impl_Item_impl_Item_string)) := e_slices_BinarySearchFunc_impl_Item_impl_Item_string_L0 (calL fns prims)  s
noncomputable def W_slices_BinarySearchFunc_impl_Item_impl_Item_string_L0 (x0 : List y_Item) (x1 : ByteArray) (x2 : Int) (x3 : Int) (x4 : Int) : Option (Int × Bool) := G_slices_BinarySearchFunc_impl_Item_impl_Item_string_L0 ⟨[(0, .lst k_Item x0), (1, .str x1), (2, .fn 135 []), (8, .int .i64 x2), (9, .int .i64 x3), (10, .int .i64 x4)], []⟩
theorem w_slices_BinarySearchFunc_impl_Item_impl_Item_string_J1 {x0 : List y_Item} {x1 : ByteArray} {x2 : Int} {x3 : Int} {r : Int × Bool} (h : t_slices_BinarySearchFunc_impl_Item_impl_Item_string_J1 F_impl_PutItem_1   x0 x1 x2 x3 = some r) : W_slices_BinarySearchFunc_impl_Item_impl_Item_string_J1 x0 x1 x2 x3 = some r := (h_slices_BinarySearchFunc_impl_Item_impl_Item_string_J1 (calL fns prims)  x0 x1 x2 x3).trans h
theorem w_slices_BinarySearchFunc_impl_Item_impl_Item_string_L0 {x0 : List y_Item} {x1 : ByteArray} {x2 : Int} {x3 : Int} {x4 : Int} {r : Int × Bool} (h : t_slices_BinarySearchFunc_impl_Item_impl_Item_string_L0 F_impl_PutItem_1 W_slices_BinarySearchFunc_impl_Item_impl_Item_string_J1 W_slices_BinarySearchFunc_impl_Item_impl_Item_string_L0 x0 x1 x2 x3 x4 = some r) : W_slices_BinarySearchFunc_impl_Item_impl_Item_string_L0 x0 x1 x2 x3 x4 = some r := loop_step ((h_slices_BinarySearchFunc_impl_Item_impl_Item_string_L0 (calL fns prims) G_slices_BinarySearchFunc_impl_Item_impl_Item_string_L0 x0 x1 x2 x3 x4).trans h)
theorem f_slices_BinarySearchFunc_impl_Item_impl_Item_string {x0 : List y_Item} {x1 : ByteArray} {x2 : Unit} {r : Int × Bool} (h : t_slices_BinarySearchFunc_impl_Item_impl_Item_string F_impl_PutItem_1 W_slices_BinarySearchFunc_impl_Item_impl_Item_string_L0 x0 x1 x2 = some r) : F_slices_BinarySearchFunc_impl_Item_impl_Item_string x0 x1 x2 = some r := call_typed (fn := a_slices_BinarySearchFunc_impl_Item_impl_Item_string) rfl ⟨rfl, rfl⟩ ((h_slices_BinarySearchFunc_impl_Item_impl_Item_string (calL fns prims) x0 x1 x2).trans h)

theorem f_impl_PutItem_1 {x0 : y_Item} {x1 : ByteArray} {r : Int} (h : t_impl_PutItem_1 F_strings_Compare  x0 x1 = some r) : F_impl_PutItem_1 x0 x1 = some r := call_typed (fn := a_impl_PutItem_1) rfl ⟨rfl, rfl⟩ ((h_impl_PutItem_1 (calL fns prims) x0 x1).trans h)

theorem f_impl_isKey {x0 : ByteArray} {r : Bool} (h : t_impl_isKey F_impl_inRange  x0 = some r) : F_impl_isKey x0 = some r := call_typed (fn := a_impl_isKey) rfl ⟨rfl, rfl⟩ ((h_impl_isKey (calL fns prims) x0).trans h)

noncomputable def G_spec_ItemsOk_L0 (s : St) : Option (RT (AFn.outs a_spec_ItemsOk)) := e_spec_ItemsOk_L0 (calL fns prims)  s
noncomputable def W_spec_ItemsOk_L0 (x0 : List y_Item) (x1 : Int) : Option Bool := G_spec_ItemsOk_L0 ⟨[(0, .lst k_Item x0), (3, .int .i64 x1)], []⟩
theorem w_spec_ItemsOk_L0 {x0 : List y_Item} {x1 : Int} {r : Bool} (h : t_spec_ItemsOk_L0 F_spec_l01In  W_spec_ItemsOk_L0 x0 x1 = some r) : W_spec_ItemsOk_L0 x0 x1 = some r := loop_step ((h_spec_ItemsOk_L0 (calL fns prims) G_spec_ItemsOk_L0 x0 x1).trans h)
theorem f_spec_ItemsOk {x0 : List y_Item} {r : Bool} (h : t_spec_ItemsOk F_spec_l01In W_spec_ItemsOk_L0 x0 = some r) : F_spec_ItemsOk x0 = some r := call_typed (fn := a_spec_ItemsOk) rfl ⟨rfl, rfl⟩ ((h_spec_ItemsOk (calL fns prims) x0).trans h)

theorem f_spec_l03Key {b0 : y_l01Cur} {r : ByteArray × y_l01Cur} (h : t_spec_l03Key F_spec_l01Pick  b0 = some r) : F_spec_l03Key b0 = some r := call_typed (fn := a_spec_l03Key) rfl ⟨rfl, rfl⟩ ((h_spec_l03Key (calL fns prims) b0).trans h)

theorem f_spec_l03Val {b0 : y_l01Cur} {r : ByteArray × y_l01Cur} (h : t_spec_l03Val F_spec_l01Pick  b0 = some r) : F_spec_l03Val b0 = some r := call_typed (fn := a_spec_l03Val) rfl ⟨rfl, rfl⟩ ((h_spec_l03Val (calL fns prims) b0).trans h)

theorem f_spec_l01Pick {x1 : List ByteArray} {b0 : y_l01Cur} {r : ByteArray × y_l01Cur} (h : t_spec_l01Pick F_spec_l01Below  x1 b0 = some r) : F_spec_l01Pick x1 b0 = some r := call_typed (fn := a_spec_l01Pick) rfl ⟨rfl, rfl⟩ ((h_spec_l01Pick (calL fns prims) x1 b0).trans h)
end Go.Proofs.Ytnbfkndicldppaa.Core
