/- Equations of the functions, without fuel. Written by a program of this part. -/
import Derived.Test.YtnbfkndicldppaaTab
namespace Go.Proofs.Ytnbfkndicldppaa.Core
open Go
set_option linter.unusedVariables false
set_option maxRecDepth 100000

theorem f_laws_FnExactReads {x0 : List y_Call} {r : Bool} (h : t_laws_FnExactReads F_laws_szCallS F_spec_Reads F_laws_toCallS F_impl_Reads F_laws_eqCallS  x0 = some r) : F_laws_FnExactReads x0 = some r := call_typed (fn := a_laws_FnExactReads) rfl ⟨rfl, rfl⟩ ((h_laws_FnExactReads (calL fns prims) x0).trans h)

noncomputable def G_laws_szCallS_L0 (s : St) : Option (RT (AFn.outs a_laws_szCallS)) := e_laws_szCallS_L0 (calL fns prims)  s
noncomputable def W_laws_szCallS_L0 (x0 : List y_Call) (x1 : Int) (x2 : Int) : Option Int := G_laws_szCallS_L0 ⟨[(0, .lst k_Call x0), (1, .int .i64 x1), (5, .int .i64 x2)], []⟩
theorem w_laws_szCallS_L0 {x0 : List y_Call} {x1 : Int} {x2 : Int} {r : Int} (h : t_laws_szCallS_L0 F_laws_szCall  W_laws_szCallS_L0 x0 x1 x2 = some r) : W_laws_szCallS_L0 x0 x1 x2 = some r := loop_step ((h_laws_szCallS_L0 (calL fns prims) G_laws_szCallS_L0 x0 x1 x2).trans h)
theorem f_laws_szCallS {x0 : List y_Call} {x1 : Int} {r : Int} (h : t_laws_szCallS F_laws_szCall W_laws_szCallS_L0 x0 x1 = some r) : F_laws_szCallS x0 x1 = some r := call_typed (fn := a_laws_szCallS) rfl ⟨rfl, rfl⟩ ((h_laws_szCallS (calL fns prims) x0 x1).trans h)

noncomputable def G_spec_Reads_L0 (s : St) : Option (RT (AFn.outs a_spec_Reads)) := e_spec_Reads_L0 (calL fns prims)  s
noncomputable def W_spec_Reads_L0 (x0 : List y_Call) (x1 : Int) : Option Bool := G_spec_Reads_L0 ⟨[(0, .lst k_Call x0), (3, .int .i64 x1)], []⟩
noncomputable def G_spec_Reads_J3 (s : St) : Option (RT (AFn.outs a_spec_Reads)) := e_spec_Reads_J3 (calL fns prims) G_spec_Reads_L0 s
noncomputable def W_spec_Reads_J3 (x0 : List y_Call) (x1 : Int) (x2 : Bool) (x3 : y_Call) : Option Bool := G_spec_Reads_J3 ⟨[(0, .lst k_Call x0), (3, .int .i64 x1), (4, .ptr 0 0), (5, .bool x2)], [.var [.int .i64 x3.1, .str x3.2.1, .str x3.2.2.1, .int .i64 x3.2.2.2.1, .int .i64 x3.2.2.2.2.1, .int .i64 x3.2.2.2.2.2.1, .int .i64 x3.2.2.2.2.2.2.1, .int .i64 x3.2.2.2.2.2.2.2.1, .str x3.2.2.2.2.2.2.2.2]]⟩
noncomputable def G_spec_Reads_L2 (s : St) : Option (RT (AFn.outs a_spec_Reads)) := e_spec_Reads_L2 (calL fns prims) G_spec_Reads_L0 s
noncomputable def W_spec_Reads_L2 (x0 : List y_Call) (x1 : Int) (x2 : Bool) (x3 : Int) (x4 : y_Call) : Option Bool := G_spec_Reads_L2 ⟨[(0, .lst k_Call x0), (3, .int .i64 x1), (4, .ptr 0 0), (5, .bool x2), (6, .int .i64 x3)], [.var [.int .i64 x4.1, .str x4.2.1, .str x4.2.2.1, .int .i64 x4.2.2.2.1, .int .i64 x4.2.2.2.2.1, .int .i64 x4.2.2.2.2.2.1, .int .i64 x4.2.2.2.2.2.2.1, .int .i64 x4.2.2.2.2.2.2.2.1, .str x4.2.2.2.2.2.2.2.2]]⟩
noncomputable def G_spec_Reads_J1 (s : St) : Option (RT (AFn.outs a_spec_Reads)) := e_spec_Reads_J1 (calL fns prims) G_spec_Reads_L0 s
noncomputable def W_spec_Reads_J1 (x0 : List y_Call) (x1 : Int) (x2 : Bool) (x3 : y_Call) : Option Bool := G_spec_Reads_J1 ⟨[(0, .lst k_Call x0), (3, .int .i64 x1), (4, .ptr 0 0), (24, .bool x2)], [.var [.int .i64 x3.1, .str x3.2.1, .str x3.2.2.1, .int .i64 x3.2.2.2.1, .int .i64 x3.2.2.2.2.1, .int .i64 x3.2.2.2.2.2.1, .int .i64 x3.2.2.2.2.2.2.1, .int .i64 x3.2.2.2.2.2.2.2.1, .str x3.2.2.2.2.2.2.2.2]]⟩
theorem w_spec_Reads_J3 {x0 : List y_Call} {x1 : Int} {x2 : Bool} {x3 : y_Call} {r : Bool} (h : t_spec_Reads_J3 F_spec_l16Put F_spec_Stamp  W_spec_Reads_L0 x0 x1 x2 x3 = some r) : W_spec_Reads_J3 x0 x1 x2 x3 = some r := (h_spec_Reads_J3 (calL fns prims) G_spec_Reads_L0 x0 x1 x2 x3).trans h
theorem w_spec_Reads_L2 {x0 : List y_Call} {x1 : Int} {x2 : Bool} {x3 : Int} {x4 : y_Call} {r : Bool} (h : t_spec_Reads_L2 F_spec_l16Put F_spec_Stamp W_spec_Reads_J3 W_spec_Reads_L0 W_spec_Reads_L2 x0 x1 x2 x3 x4 = some r) : W_spec_Reads_L2 x0 x1 x2 x3 x4 = some r := loop_step ((h_spec_Reads_L2 (calL fns prims) G_spec_Reads_L0 G_spec_Reads_L2 x0 x1 x2 x3 x4).trans h)
theorem w_spec_Reads_J1 {x0 : List y_Call} {x1 : Int} {x2 : Bool} {x3 : y_Call} {r : Bool} (h : t_spec_Reads_J1 F_spec_l16Put F_spec_Stamp W_spec_Reads_L2 W_spec_Reads_L0 x0 x1 x2 x3 = some r) : W_spec_Reads_J1 x0 x1 x2 x3 = some r := (h_spec_Reads_J1 (calL fns prims) G_spec_Reads_L0 x0 x1 x2 x3).trans h
theorem w_spec_Reads_L0 {x0 : List y_Call} {x1 : Int} {r : Bool} (h : t_spec_Reads_L0 F_spec_l16Put F_spec_Stamp W_spec_Reads_J1 W_spec_Reads_L0 x0 x1 = some r) : W_spec_Reads_L0 x0 x1 = some r := loop_step ((h_spec_Reads_L0 (calL fns prims) G_spec_Reads_L0 x0 x1).trans h)
theorem f_spec_Reads {x0 : List y_Call} {r : Bool} (h : t_spec_Reads F_spec_l16Put F_spec_Stamp W_spec_Reads_L0 x0 = some r) : F_spec_Reads x0 = some r := call_typed (fn := a_spec_Reads) rfl ⟨rfl, rfl⟩ ((h_spec_Reads (calL fns prims) x0).trans h)

noncomputable def G_laws_toCallS_L0 (s : St) : Option (RT (AFn.outs a_laws_toCallS)) := e_laws_toCallS_L0 (calL fns prims)  s
noncomputable def W_laws_toCallS_L0 (x0 : List y_Call) (x1 : Int) (x2 : List y_Call) : Option (List y_Call) := G_laws_toCallS_L0 ⟨[(0, .lst k_Call x0), (3, .row 0), (4, .int .i64 x1)], [.rows 157 k_Call x2]⟩
theorem w_laws_toCallS_L0 {x0 : List y_Call} {x1 : Int} {x2 : List y_Call} {r : List y_Call} (h : t_laws_toCallS_L0 F_laws_toCall  W_laws_toCallS_L0 x0 x1 x2 = some r) : W_laws_toCallS_L0 x0 x1 x2 = some r := loop_step ((h_laws_toCallS_L0 (calL fns prims) G_laws_toCallS_L0 x0 x1 x2).trans h)
theorem f_laws_toCallS {x0 : List y_Call} {r : List y_Call} (h : t_laws_toCallS F_laws_toCall W_laws_toCallS_L0 x0 = some r) : F_laws_toCallS x0 = some r := call_typed (fn := a_laws_toCallS) rfl ⟨rfl, rfl⟩ ((h_laws_toCallS (calL fns prims) x0).trans h)

noncomputable def G_impl_Reads_L0 (s : St) : Option (RT (AFn.outs a_impl_Reads)) := e_impl_Reads_L0 (calL fns prims)  s
noncomputable def W_impl_Reads_L0 (x0 : List y_Call) (x1 : List y_Call) (x2 : Int) (x3 : Int) : Option Bool := G_impl_Reads_L0 ⟨[(0, .lst k_Call x0), (5, .lst k_Call x1), (6, .int .i64 x2), (7, .int .i64 x3)], []⟩
noncomputable def G_impl_Reads_J1 (s : St) : Option (RT (AFn.outs a_impl_Reads)) := e_impl_Reads_J1 (calL fns prims) G_impl_Reads_L0 s
noncomputable def W_impl_Reads_J1 (x0 : List y_Call) (x1 : List y_Call) (x2 : Int) (x3 : Int) (x4 : Bool) (x5 : y_Call) : Option Bool := G_impl_Reads_J1 ⟨[(0, .lst k_Call x0), (4, .ptr 0 0), (5, .lst k_Call x1), (6, .int .i64 x2), (7, .int .i64 x3), (18, .bool x4)], [.var [.int .i64 x5.1, .str x5.2.1, .str x5.2.2.1, .int .i64 x5.2.2.2.1, .int .i64 x5.2.2.2.2.1, .int .i64 x5.2.2.2.2.2.1, .int .i64 x5.2.2.2.2.2.2.1, .int .i64 x5.2.2.2.2.2.2.2.1, .str x5.2.2.2.2.2.2.2.2]]⟩
theorem w_impl_Reads_J1 {x0 : List y_Call} {x1 : List y_Call} {x2 : Int} {x3 : Int} {x4 : Bool} {x5 : y_Call} {r : Bool} (h : t_impl_Reads_J1 F_impl_isDone F_impl_isPut F_impl_Stamp  W_impl_Reads_L0 x0 x1 x2 x3 x4 x5 = some r) : W_impl_Reads_J1 x0 x1 x2 x3 x4 x5 = some r := (h_impl_Reads_J1 (calL fns prims) G_impl_Reads_L0 x0 x1 x2 x3 x4 x5).trans h
theorem w_impl_Reads_L0 {x0 : List y_Call} {x1 : List y_Call} {x2 : Int} {x3 : Int} {r : Bool} (h : t_impl_Reads_L0 F_impl_isDone F_impl_isPut F_impl_Stamp W_impl_Reads_J1 W_impl_Reads_L0 x0 x1 x2 x3 = some r) : W_impl_Reads_L0 x0 x1 x2 x3 = some r := loop_step ((h_impl_Reads_L0 (calL fns prims) G_impl_Reads_L0 x0 x1 x2 x3).trans h)
theorem f_impl_Reads {x0 : List y_Call} {r : Bool} (h : t_impl_Reads F_impl_isDone F_impl_isPut F_impl_Stamp W_impl_Reads_L0 x0 = some r) : F_impl_Reads x0 = some r := call_typed (fn := a_impl_Reads) rfl ⟨rfl, rfl⟩ ((h_impl_Reads (calL fns prims) x0).trans h)

noncomputable def G_laws_eqCallS_L0 (s : St) : Option (RT (AFn.outs a_laws_eqCallS)) := e_laws_eqCallS_L0 (calL fns prims)  s
noncomputable def W_laws_eqCallS_L0 (x0 : List y_Call) (x1 : List y_Call) (x2 : Int) : Option Bool := G_laws_eqCallS_L0 ⟨[(0, .lst k_Call x0), (1, .lst k_Call x1), (5, .int .i64 x2)], []⟩
theorem w_laws_eqCallS_L0 {x0 : List y_Call} {x1 : List y_Call} {x2 : Int} {r : Bool} (h : t_laws_eqCallS_L0 F_laws_eqCall  W_laws_eqCallS_L0 x0 x1 x2 = some r) : W_laws_eqCallS_L0 x0 x1 x2 = some r := loop_step ((h_laws_eqCallS_L0 (calL fns prims) G_laws_eqCallS_L0 x0 x1 x2).trans h)
theorem f_laws_eqCallS {x0 : List y_Call} {x1 : List y_Call} {r : Bool} (h : t_laws_eqCallS F_laws_eqCall W_laws_eqCallS_L0 x0 x1 = some r) : F_laws_eqCallS x0 x1 = some r := call_typed (fn := a_laws_eqCallS) rfl ⟨rfl, rfl⟩ ((h_laws_eqCallS (calL fns prims) x0 x1).trans h)

theorem f_impl_inRange {x0 : Int} {x1 : Int} {x2 : Int} {r : Bool} (h : t_impl_inRange   x0 x1 x2 = some r) : F_impl_inRange x0 x1 x2 = some r := call_typed (fn := a_impl_inRange) rfl ⟨rfl, rfl⟩ ((h_impl_inRange (calL fns prims) x0 x1 x2).trans h)

theorem f_spec_l01In {x0 : Int} {x1 : Int} {x2 : Int} {r : Bool} (h : t_spec_l01In   x0 x1 x2 = some r) : F_spec_l01In x0 x1 x2 = some r := call_typed (fn := a_spec_l01In) rfl ⟨rfl, rfl⟩ ((h_spec_l01In (calL fns prims) x0 x1 x2).trans h)

theorem f_laws_szCall {x0 : y_Call} {x1 : Int} {r : Int} (h : t_laws_szCall   x0 x1 = some r) : F_laws_szCall x0 x1 = some r := call_typed (fn := a_laws_szCall) rfl ⟨rfl, rfl⟩ ((h_laws_szCall (calL fns prims) x0 x1).trans h)

theorem f_spec_l16Put {x0 : y_Call} {x1 : y_Call} {r : Bool} (h : t_spec_l16Put   x0 x1 = some r) : F_spec_l16Put x0 x1 = some r := call_typed (fn := a_spec_l16Put) rfl ⟨rfl, rfl⟩ ((h_spec_l16Put (calL fns prims) x0 x1).trans h)

theorem f_spec_Stamp {x0 : y_Call} {r : Int} (h : t_spec_Stamp F_spec_l01In  x0 = some r) : F_spec_Stamp x0 = some r := call_typed (fn := a_spec_Stamp) rfl ⟨rfl, rfl⟩ ((h_spec_Stamp (calL fns prims) x0).trans h)

theorem f_laws_toCall {x0 : y_Call} {r : y_Call} (h : t_laws_toCall   x0 = some r) : F_laws_toCall x0 = some r := call_typed (fn := a_laws_toCall) rfl ⟨rfl, rfl⟩ ((h_laws_toCall (calL fns prims) x0).trans h)

theorem f_impl_isDone {x0 : y_Call} {r : Bool} (h : t_impl_isDone   x0 = some r) : F_impl_isDone x0 = some r := call_typed (fn := a_impl_isDone) rfl ⟨rfl, rfl⟩ ((h_impl_isDone (calL fns prims) x0).trans h)

theorem f_impl_isPut {x0 : List y_Call} {x1 : y_Call} {r : Bool} (h : t_impl_isPut F_slices_ContainsFunc_impl_Call_impl_Call  x0 x1 = some r) : F_impl_isPut x0 x1 = some r := call_typed (fn := a_impl_isPut) rfl ⟨rfl, rfl⟩ ((h_impl_isPut (calL fns prims) x0 x1).trans h)

theorem f_impl_Stamp {x0 : y_Call} {r : Int} (h : t_impl_Stamp F_impl_inRange  x0 = some r) : F_impl_Stamp x0 = some r := call_typed (fn := a_impl_Stamp) rfl ⟨rfl, rfl⟩ ((h_impl_Stamp (calL fns prims) x0).trans h)

theorem f_laws_eqCall {x0 : y_Call} {x1 : y_Call} {r : Bool} (h : t_laws_eqCall   x0 x1 = some r) : F_laws_eqCall x0 x1 = some r := call_typed (fn := a_laws_eqCall) rfl ⟨rfl, rfl⟩ ((h_laws_eqCall (calL fns prims) x0 x1).trans h)

theorem f_slices_ContainsFunc_impl_Call_impl_Call {x0 : List y_Call} {x1 : y_Call} {r : Bool} (h : t_slices_ContainsFunc_impl_Call_impl_Call F_slices_IndexFunc_impl_Call_impl_Call  x0 x1 = some r) : F_slices_ContainsFunc_impl_Call_impl_Call x0 x1 = some r := call_typed (fn := a_slices_ContainsFunc_impl_Call_impl_Call) rfl ⟨rfl, rfl⟩ ((h_slices_ContainsFunc_impl_Call_impl_Call (calL fns prims) x0 x1).trans h)

theorem f_impl_isPut_1 {x0 : y_Call} {x1 : y_Call} {r : Bool} (h : t_impl_isPut_1 F_impl_isDone  x0 x1 = some r) : F_impl_isPut_1 x0 x1 = some r := call_typed (fn := a_impl_isPut_1) rfl ⟨rfl, rfl⟩ ((h_impl_isPut_1 (calL fns prims) x0 x1).trans h)

noncomputable def G_slices_IndexFunc_impl_Call_impl_Call_L0 (s : St) : Option (RT (AFn.outs a_slices_IndexFunc_impl_Call_impl_Call)) := e_slices_IndexFunc_impl_Call_impl_Call_L0 (calL fns prims)  s
noncomputable def W_slices_IndexFunc_impl_Call_impl_Call_L0 (x0 : List y_Call) (x1 : y_Call) (x2 : Int) (x3 : Int) : Option Int := G_slices_IndexFunc_impl_Call_impl_Call_L0 ⟨[(0, .lst k_Call x0), (1, .clo 213 k_Call x1), (7, .int .i64 x2), (8, .int .i64 x3)], []⟩
theorem w_slices_IndexFunc_impl_Call_impl_Call_L0 {x0 : List y_Call} {x1 : y_Call} {x2 : Int} {x3 : Int} {r : Int} (h : t_slices_IndexFunc_impl_Call_impl_Call_L0 F_impl_isPut_1  W_slices_IndexFunc_impl_Call_impl_Call_L0 x0 x1 x2 x3 = some r) : W_slices_IndexFunc_impl_Call_impl_Call_L0 x0 x1 x2 x3 = some r := loop_step ((h_slices_IndexFunc_impl_Call_impl_Call_L0 (calL fns prims) G_slices_IndexFunc_impl_Call_impl_Call_L0 x0 x1 x2 x3).trans h)
theorem f_slices_IndexFunc_impl_Call_impl_Call {x0 : List y_Call} {x1 : y_Call} {r : Int} (h : t_slices_IndexFunc_impl_Call_impl_Call F_impl_isPut_1 W_slices_IndexFunc_impl_Call_impl_Call_L0 x0 x1 = some r) : F_slices_IndexFunc_impl_Call_impl_Call x0 x1 = some r := call_typed (fn := a_slices_IndexFunc_impl_Call_impl_Call) rfl ⟨rfl, rfl⟩ ((h_slices_IndexFunc_impl_Call_impl_Call (calL fns prims) x0 x1).trans h)
end Go.Proofs.Ytnbfkndicldppaa.Core
