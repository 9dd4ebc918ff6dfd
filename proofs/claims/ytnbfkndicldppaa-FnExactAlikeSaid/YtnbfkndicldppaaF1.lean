/- Equations of the functions, without fuel. Written by a program of this part. -/
import Derived.Test.YtnbfkndicldppaaTab
namespace Go.Proofs.Ytnbfkndicldppaa.Core
open Go
set_option linter.unusedVariables false
set_option maxRecDepth 100000

noncomputable def G_laws_eqMemberS_L0 (s : St) : Option (RT (AFn.outs a_laws_eqMemberS)) := e_laws_eqMemberS_L0 (calL fns prims)  s
noncomputable def W_laws_eqMemberS_L0 (x0 : List y_Member) (x1 : List y_Member) (x2 : Int) : Option Bool := G_laws_eqMemberS_L0 ⟨[(0, .lst k_Member x0), (1, .lst k_Member x1), (5, .int .i64 x2)], []⟩
theorem w_laws_eqMemberS_L0 {x0 : List y_Member} {x1 : List y_Member} {x2 : Int} {r : Bool} (h : t_laws_eqMemberS_L0 F_laws_eqMember  W_laws_eqMemberS_L0 x0 x1 x2 = some r) : W_laws_eqMemberS_L0 x0 x1 x2 = some r := loop_step ((h_laws_eqMemberS_L0 (calL fns prims) G_laws_eqMemberS_L0 x0 x1 x2).trans h)
theorem f_laws_eqMemberS {x0 : List y_Member} {x1 : List y_Member} {r : Bool} (h : t_laws_eqMemberS F_laws_eqMember W_laws_eqMemberS_L0 x0 x1 = some r) : F_laws_eqMemberS x0 x1 = some r := call_typed (fn := a_laws_eqMemberS) rfl ⟨rfl, rfl⟩ ((h_laws_eqMemberS (calL fns prims) x0 x1).trans h)

noncomputable def G_laws_eqMsgS_L0 (s : St) : Option (RT (AFn.outs a_laws_eqMsgS)) := e_laws_eqMsgS_L0 (calL fns prims)  s
noncomputable def W_laws_eqMsgS_L0 (x0 : List y_Msg) (x1 : List y_Msg) (x2 : Int) : Option Bool := G_laws_eqMsgS_L0 ⟨[(0, .lst k_Msg x0), (1, .lst k_Msg x1), (5, .int .i64 x2)], []⟩
theorem w_laws_eqMsgS_L0 {x0 : List y_Msg} {x1 : List y_Msg} {x2 : Int} {r : Bool} (h : t_laws_eqMsgS_L0 F_laws_eqMsg  W_laws_eqMsgS_L0 x0 x1 x2 = some r) : W_laws_eqMsgS_L0 x0 x1 x2 = some r := loop_step ((h_laws_eqMsgS_L0 (calL fns prims) G_laws_eqMsgS_L0 x0 x1 x2).trans h)
theorem f_laws_eqMsgS {x0 : List y_Msg} {x1 : List y_Msg} {r : Bool} (h : t_laws_eqMsgS F_laws_eqMsg W_laws_eqMsgS_L0 x0 x1 = some r) : F_laws_eqMsgS x0 x1 = some r := call_typed (fn := a_laws_eqMsgS) rfl ⟨rfl, rfl⟩ ((h_laws_eqMsgS (calL fns prims) x0 x1).trans h)

noncomputable def G_spec_l16SameItems_L0 (s : St) : Option (RT (AFn.outs a_spec_l16SameItems)) := e_spec_l16SameItems_L0 (calL fns prims)  s
noncomputable def W_spec_l16SameItems_L0 (x0 : List y_Item) (x1 : List y_Item) (x2 : Int) : Option Bool := G_spec_l16SameItems_L0 ⟨[(0, .lst k_Item x0), (1, .lst k_Item x1), (5, .int .i64 x2)], []⟩
theorem w_spec_l16SameItems_L0 {x0 : List y_Item} {x1 : List y_Item} {x2 : Int} {r : Bool} (h : t_spec_l16SameItems_L0   W_spec_l16SameItems_L0 x0 x1 x2 = some r) : W_spec_l16SameItems_L0 x0 x1 x2 = some r := loop_step ((h_spec_l16SameItems_L0 (calL fns prims) G_spec_l16SameItems_L0 x0 x1 x2).trans h)
theorem f_spec_l16SameItems {x0 : List y_Item} {x1 : List y_Item} {r : Bool} (h : t_spec_l16SameItems  W_spec_l16SameItems_L0 x0 x1 = some r) : F_spec_l16SameItems x0 x1 = some r := call_typed (fn := a_spec_l16SameItems) rfl ⟨rfl, rfl⟩ ((h_spec_l16SameItems (calL fns prims) x0 x1).trans h)

noncomputable def G_slices_Equal_impl_Item_impl_Item_L0 (s : St) : Option (RT (AFn.outs a_slices_Equal_impl_Item_impl_Item)) := e_slices_Equal_impl_Item_impl_Item_L0 (calL fns prims)  s
noncomputable def W_slices_Equal_impl_Item_impl_Item_L0 (x0 : List y_Item) (x1 : List y_Item) (x2 : Int) (x3 : Int) : Option Bool := G_slices_Equal_impl_Item_impl_Item_L0 ⟨[(0, .lst k_Item x0), (1, .lst k_Item x1), (12, .int .i64 x2), (13, .int .i64 x3)], []⟩
theorem w_slices_Equal_impl_Item_impl_Item_L0 {x0 : List y_Item} {x1 : List y_Item} {x2 : Int} {x3 : Int} {r : Bool} (h : t_slices_Equal_impl_Item_impl_Item_L0   W_slices_Equal_impl_Item_impl_Item_L0 x0 x1 x2 x3 = some r) : W_slices_Equal_impl_Item_impl_Item_L0 x0 x1 x2 x3 = some r := loop_step ((h_slices_Equal_impl_Item_impl_Item_L0 (calL fns prims) G_slices_Equal_impl_Item_impl_Item_L0 x0 x1 x2 x3).trans h)
theorem f_slices_Equal_impl_Item_impl_Item {x0 : List y_Item} {x1 : List y_Item} {r : Bool} (h : t_slices_Equal_impl_Item_impl_Item  W_slices_Equal_impl_Item_impl_Item_L0 x0 x1 = some r) : F_slices_Equal_impl_Item_impl_Item x0 x1 = some r := call_typed (fn := a_slices_Equal_impl_Item_impl_Item) rfl ⟨rfl, rfl⟩ ((h_slices_Equal_impl_Item_impl_Item (calL fns prims) x0 x1).trans h)

theorem f_spec_l01Once {x1 : Int} {b0 : y_l01Cur} {r : Bool × y_l01Cur} (h : t_spec_l01Once F_spec_l01Below  x1 b0 = some r) : F_spec_l01Once x1 b0 = some r := call_typed (fn := a_spec_l01Once) rfl ⟨rfl, rfl⟩ ((h_spec_l01Once (calL fns prims) x1 b0).trans h)

theorem f_spec_l01PickInt {x1 : List Int} {b0 : y_l01Cur} {r : Int × y_l01Cur} (h : t_spec_l01PickInt F_spec_l01Below  x1 b0 = some r) : F_spec_l01PickInt x1 b0 = some r := call_typed (fn := a_spec_l01PickInt) rfl ⟨rfl, rfl⟩ ((h_spec_l01PickInt (calL fns prims) x1 b0).trans h)

theorem f_spec_l11Value {b0 : y_l01Cur} {r : ByteArray × y_l01Cur} (h : t_spec_l11Value F_spec_l01Pick  b0 = some r) : F_spec_l11Value b0 = some r := call_typed (fn := a_spec_l11Value) rfl ⟨rfl, rfl⟩ ((h_spec_l11Value (calL fns prims) b0).trans h)

noncomputable def G_spec_l01Long_L0 (s : St) : Option (RT (AFn.outs a_spec_l01Long)) := e_spec_l01Long_L0 (calL fns prims)  s
noncomputable def W_spec_l01Long_L0 (x0 : Int) (x1 : Int) (x2 : Int) (x3 : List Int) : Option ByteArray := G_spec_l01Long_L0 ⟨[(0, .int .i64 x0), (1, .int .u8 x1), (5, .row 0), (6, .int .i64 x2)], [.rows 5 (.int .u8) x3]⟩
theorem w_spec_l01Long_L0 {x0 : Int} {x1 : Int} {x2 : Int} {x3 : List Int} {r : ByteArray} (h : t_spec_l01Long_L0   W_spec_l01Long_L0 x0 x1 x2 x3 = some r) : W_spec_l01Long_L0 x0 x1 x2 x3 = some r := loop_step ((h_spec_l01Long_L0 (calL fns prims) G_spec_l01Long_L0 x0 x1 x2 x3).trans h)
theorem f_spec_l01Long {x0 : Int} {x1 : Int} {r : ByteArray} (h : t_spec_l01Long  W_spec_l01Long_L0 x0 x1 = some r) : F_spec_l01Long x0 x1 = some r := call_typed (fn := a_spec_l01Long) rfl ⟨rfl, rfl⟩ ((h_spec_l01Long (calL fns prims) x0 x1).trans h)

noncomputable def G_slices_Index_int_int_L0 (s : St) : Option (RT (AFn.outs a_slices_Index_int_int)) := e_slices_Index_int_int_L0 (calL fns prims)  s
noncomputable def W_slices_Index_int_int_L0 (x0 : List Int) (x1 : Int) (x2 : Int) (x3 : Int) : Option Int := G_slices_Index_int_int_L0 ⟨[(0, .lst (.int .i64) x0), (1, .int .i64 x1), (7, .int .i64 x2), (8, .int .i64 x3)], []⟩
theorem w_slices_Index_int_int_L0 {x0 : List Int} {x1 : Int} {x2 : Int} {x3 : Int} {r : Int} (h : t_slices_Index_int_int_L0   W_slices_Index_int_int_L0 x0 x1 x2 x3 = some r) : W_slices_Index_int_int_L0 x0 x1 x2 x3 = some r := loop_step ((h_slices_Index_int_int_L0 (calL fns prims) G_slices_Index_int_int_L0 x0 x1 x2 x3).trans h)
theorem f_slices_Index_int_int {x0 : List Int} {x1 : Int} {r : Int} (h : t_slices_Index_int_int  W_slices_Index_int_int_L0 x0 x1 = some r) : F_slices_Index_int_int x0 x1 = some r := call_typed (fn := a_slices_Index_int_int) rfl ⟨rfl, rfl⟩ ((h_slices_Index_int_int (calL fns prims) x0 x1).trans h)

theorem f_spec_l01Pick {x1 : List ByteArray} {b0 : y_l01Cur} {r : ByteArray × y_l01Cur} (h : t_spec_l01Pick F_spec_l01Below  x1 b0 = some r) : F_spec_l01Pick x1 b0 = some r := call_typed (fn := a_spec_l01Pick) rfl ⟨rfl, rfl⟩ ((h_spec_l01Pick (calL fns prims) x1 b0).trans h)
end Go.Proofs.Ytnbfkndicldppaa.Core
