/- Code and typed functions. Written by a program of this part. -/
import Derived.Test.YtnbfkndicldppaaKinds
namespace Go.Proofs.Ytnbfkndicldppaa.Core
open Go
set_option linter.unusedVariables false
set_option maxRecDepth 100000

/-! 113 loop.example/g00180/laws.toCall -/
def c_laws_toCall_0 : ACode := (.seq (.region [.load 31 (.t 3) (some 9), .store (.t 2) (.t 31) 9 false] [2]) .ret)
def c_laws_toCall_1 : ACode := (.seq (.region [.fld 28 (.t 1) 8, .load 29 (.t 28) none, .fld 30 (.t 3) 8, .store (.t 30) (.t 29) 1 false] [2, 3]) c_laws_toCall_0)
def c_laws_toCall_2 : ACode := (.seq (.region [.fld 25 (.t 1) 7, .load 26 (.t 25) none, .fld 27 (.t 3) 7, .store (.t 27) (.t 26) 1 false] [1, 2, 3]) c_laws_toCall_1)
def c_laws_toCall_3 : ACode := (.seq (.region [.fld 22 (.t 1) 6, .load 23 (.t 22) none, .fld 24 (.t 3) 6, .store (.t 24) (.t 23) 1 false] [1, 2, 3]) c_laws_toCall_2)
def c_laws_toCall_4 : ACode := (.seq (.region [.fld 19 (.t 1) 5, .load 20 (.t 19) none, .fld 21 (.t 3) 5, .store (.t 21) (.t 20) 1 false] [1, 2, 3]) c_laws_toCall_3)
def c_laws_toCall_5 : ACode := (.seq (.region [.fld 16 (.t 1) 4, .load 17 (.t 16) none, .fld 18 (.t 3) 4, .store (.t 18) (.t 17) 1 false] [1, 2, 3]) c_laws_toCall_4)
def c_laws_toCall_6 : ACode := (.seq (.region [.fld 13 (.t 1) 3, .load 14 (.t 13) none, .fld 15 (.t 3) 3, .store (.t 15) (.t 14) 1 false] [1, 2, 3]) c_laws_toCall_5)
def c_laws_toCall_7 : ACode := (.seq (.region [.fld 10 (.t 1) 2, .load 11 (.t 10) none, .fld 12 (.t 3) 2, .store (.t 12) (.t 11) 1 false] [1, 2, 3]) c_laws_toCall_6)
def c_laws_toCall_8 : ACode := (.seq (.region [.fld 7 (.t 1) 1, .load 8 (.t 7) none, .fld 9 (.t 3) 1, .store (.t 9) (.t 8) 1 false] [1, 2, 3]) c_laws_toCall_7)
def c_laws_toCall_9 : ACode := (.seq (.region [.fld 4 (.t 1) 0, .load 5 (.t 4) none, .fld 6 (.t 3) 0, .store (.t 6) (.t 5) 1 false] [1, 2, 3]) c_laws_toCall_8)
def c_laws_toCall_10 : ACode := (.seq (.region [.alloc 3 [.int .i64 0, .str ByteArray.empty, .str ByteArray.empty, .int .i64 0, .int .i64 0, .int .i64 0, .int .i64 0, .int .i64 0, .str ByteArray.empty]] [1, 2, 3]) c_laws_toCall_9)
def a_laws_toCall : AFn := ⟨[.val k_Call], [⟨2, true, k_Call⟩], (.seq (.region [.box 1 (.t 0) false, .alloc 2 [.int .i64 0, .str ByteArray.empty, .str ByteArray.empty, .int .i64 0, .int .i64 0, .int .i64 0, .int .i64 0, .int .i64 0, .str ByteArray.empty]] [1, 2]) c_laws_toCall_10)⟩
def t_laws_toCall   (x0 : y_Call) : Option y_Call := (some x0)
theorem h_laws_toCall (cal : Cal) (x0 : y_Call) :
    bodyL cal a_laws_toCall [.agg [.int .i64 x0.1, .str x0.2.1, .str x0.2.2.1, .int .i64 x0.2.2.2.1, .int .i64 x0.2.2.2.2.1, .int .i64 x0.2.2.2.2.2.1, .int .i64 x0.2.2.2.2.2.2.1, .int .i64 x0.2.2.2.2.2.2.2.1, .str x0.2.2.2.2.2.2.2.2]] [] =
    t_laws_toCall   x0 := by kernel_rfl

/-! 114 loop.example/g00180/impl.isDone -/
def c_impl_isDone_0 : ACode := (.seq (.region [.fld 3 (.t 1) 4, .load 4 (.t 3) none, .bin 5 .geq (.t 4) (.c (.int .i64 0)), .mv 2 (.t 5)] [2]) .ret)
def a_impl_isDone : AFn := ⟨[.val k_Call], [⟨2, false, .bool⟩], (.seq (.region [.box 1 (.t 0) false, .mv 2 (.c (.bool false))] [1]) c_impl_isDone_0)⟩
def t_impl_isDone   (x0 : y_Call) : Option Bool := (some (decide (x0.2.2.2.2.1 ≥ (0 : Int))))
theorem h_impl_isDone (cal : Cal) (x0 : y_Call) :
    bodyL cal a_impl_isDone [.agg [.int .i64 x0.1, .str x0.2.1, .str x0.2.2.1, .int .i64 x0.2.2.2.1, .int .i64 x0.2.2.2.2.1, .int .i64 x0.2.2.2.2.2.1, .int .i64 x0.2.2.2.2.2.2.1, .int .i64 x0.2.2.2.2.2.2.2.1, .str x0.2.2.2.2.2.2.2.2]] [] =
    t_impl_isDone   x0 := by kernel_rfl

/-! 115 loop.example/g00180/impl.isPut -/
def c_impl_isPut_0 : ACode := (.seq (.region [.mv 5 (.t 0), .clo 6 213 k_Call (.t 3), .call (some 7) 212 [(.t 5, .bor (.slice k_Call)), (.t 6, .val (.clo 213 k_Call))] [.bool], .mv 4 (.t 7)] [4]) .ret)
def a_impl_isPut : AFn := ⟨[.val (.slice k_Call), .val k_Call], [⟨4, false, .bool⟩], (.seq (.region [.fbox 3 (.t 1), .mv 4 (.c (.bool false))] [0, 3]) c_impl_isPut_0)⟩
def t_impl_isPut (C_slices_ContainsFunc_impl_Call_impl_Call : (List y_Call) → y_Call → Option Bool)  (x0 : List y_Call) (x1 : y_Call) : Option Bool := ((C_slices_ContainsFunc_impl_Call_impl_Call x0 x1).bind fun y1 => (some y1))
theorem h_impl_isPut (cal : Cal) (x0 : List y_Call) (x1 : y_Call) :
    bodyL cal a_impl_isPut [.lst k_Call x0, .agg [.int .i64 x1.1, .str x1.2.1, .str x1.2.2.1, .int .i64 x1.2.2.2.1, .int .i64 x1.2.2.2.2.1, .int .i64 x1.2.2.2.2.2.1, .int .i64 x1.2.2.2.2.2.2.1, .int .i64 x1.2.2.2.2.2.2.2.1, .str x1.2.2.2.2.2.2.2.2]] [] =
    t_impl_isPut (fun (q0 : List y_Call) (q1 : y_Call) => (cal 212 [.lst k_Call q0, .clo 213 k_Call q1] []).bind (decAll [.bool]))  x0 x1 := by kernel_rfl

/-! 116 loop.example/g00180/impl.Stamp -/
def c_impl_Stamp_0 : ACode := (.cond (.t 12) (.seq (.region [.mv 2 (.c (.int .i64 0))] [2]) .ret) .skip)
def c_impl_Stamp_1 : ACode := (.seq (.region [.fld 13 (.t 1) 6, .load 14 (.t 13) none, .bin 15 .mul (.c (.int .i64 1000)) (.t 14), .fld 16 (.t 1) 7, .load 17 (.t 16) none, .bin 18 .add (.t 15) (.t 17), .mv 2 (.t 18)] [2]) .ret)
def c_impl_Stamp_2 : ACode := (.seq (.seq (.region [.fld 3 (.t 1) 6, .load 4 (.t 3) none, .call (some 5) 105 [(.t 4, .val (.int .i64)), (.c (.int .i64 0), .val (.int .i64)), (.c (.int .i64 9), .val (.int .i64))] [.bool], .un 6 .not (.t 5), .mv 7 (.t 6), .sc 7 false [.fld 8 (.t 1) 7, .load 9 (.t 8) none, .call (some 10) 105 [(.t 9, .val (.int .i64)), (.c (.int .i64 0), .val (.int .i64)), (.c (.int .i64 999), .val (.int .i64))] [.bool], .un 11 .not (.t 10)] 12 (.c (.bool true)) (.t 11)] [1, 12]) c_impl_Stamp_0) c_impl_Stamp_1)
def a_impl_Stamp : AFn := ⟨[.val k_Call], [⟨2, false, (.int .i64)⟩], (.seq (.region [.box 1 (.t 0) false, .mv 2 (.c (.int .i64 0))] [1]) c_impl_Stamp_2)⟩
def t_impl_Stamp (C_impl_inRange : Int → Int → Int → Option Bool)  (x0 : y_Call) : Option Int := ((C_impl_inRange x0.2.2.2.2.2.2.1 (0 : Int) (9 : Int)).bind fun y1 => (if (!y1) = false then ((C_impl_inRange x0.2.2.2.2.2.2.2.1 (0 : Int) (999 : Int)).bind fun y2 => (if (!y2) = true then (some (0 : Int)) else (some (IntKind.i64.wrap ((IntKind.i64.wrap ((1000 : Int) * x0.2.2.2.2.2.2.1)) + x0.2.2.2.2.2.2.2.1))))) else (some (0 : Int))))
theorem h_impl_Stamp (cal : Cal) (x0 : y_Call) :
    bodyL cal a_impl_Stamp [.agg [.int .i64 x0.1, .str x0.2.1, .str x0.2.2.1, .int .i64 x0.2.2.2.1, .int .i64 x0.2.2.2.2.1, .int .i64 x0.2.2.2.2.2.1, .int .i64 x0.2.2.2.2.2.2.1, .int .i64 x0.2.2.2.2.2.2.2.1, .str x0.2.2.2.2.2.2.2.2]] [] =
    t_impl_Stamp (fun (q0 : Int) (q1 : Int) (q2 : Int) => (cal 105 [.int .i64 q0, .int .i64 q1, .int .i64 q2] []).bind (decAll [.bool]))  x0 := by kernel_rfl

/-! 117 loop.example/g00180/laws.eqCall -/
def c_laws_eqCall_0 : ACode := (.cond (.t 9) (.seq (.region [.mv 4 (.c (.bool false))] [4]) .ret) .skip)
def c_laws_eqCall_1 : ACode := (.cond (.t 14) (.seq (.region [.mv 4 (.c (.bool false))] [4]) .ret) .skip)
def c_laws_eqCall_2 : ACode := (.cond (.t 19) (.seq (.region [.mv 4 (.c (.bool false))] [4]) .ret) .skip)
def c_laws_eqCall_3 : ACode := (.cond (.t 24) (.seq (.region [.mv 4 (.c (.bool false))] [4]) .ret) .skip)
def c_laws_eqCall_4 : ACode := (.cond (.t 29) (.seq (.region [.mv 4 (.c (.bool false))] [4]) .ret) .skip)
def c_laws_eqCall_5 : ACode := (.cond (.t 34) (.seq (.region [.mv 4 (.c (.bool false))] [4]) .ret) .skip)
def c_laws_eqCall_6 : ACode := (.cond (.t 39) (.seq (.region [.mv 4 (.c (.bool false))] [4]) .ret) .skip)
def c_laws_eqCall_7 : ACode := (.cond (.t 44) (.seq (.region [.mv 4 (.c (.bool false))] [4]) .ret) .skip)
def c_laws_eqCall_8 : ACode := (.cond (.t 49) (.seq (.region [.mv 4 (.c (.bool false))] [4]) .ret) .skip)
def c_laws_eqCall_9 : ACode := (.seq (.region [.mv 4 (.c (.bool true))] [4]) .ret)
def c_laws_eqCall_10 : ACode := (.seq (.seq (.region [.fld 45 (.t 2) 8, .load 46 (.t 45) none, .fld 47 (.t 3) 8, .load 48 (.t 47) none, .bin 49 .neq (.t 46) (.t 48)] [49]) c_laws_eqCall_8) c_laws_eqCall_9)
def c_laws_eqCall_11 : ACode := (.seq (.seq (.region [.fld 40 (.t 2) 7, .load 41 (.t 40) none, .fld 42 (.t 3) 7, .load 43 (.t 42) none, .bin 44 .neq (.t 41) (.t 43)] [2, 3, 44]) c_laws_eqCall_7) c_laws_eqCall_10)
def c_laws_eqCall_12 : ACode := (.seq (.seq (.region [.fld 35 (.t 2) 6, .load 36 (.t 35) none, .fld 37 (.t 3) 6, .load 38 (.t 37) none, .bin 39 .neq (.t 36) (.t 38)] [2, 3, 39]) c_laws_eqCall_6) c_laws_eqCall_11)
def c_laws_eqCall_13 : ACode := (.seq (.seq (.region [.fld 30 (.t 2) 5, .load 31 (.t 30) none, .fld 32 (.t 3) 5, .load 33 (.t 32) none, .bin 34 .neq (.t 31) (.t 33)] [2, 3, 34]) c_laws_eqCall_5) c_laws_eqCall_12)
def c_laws_eqCall_14 : ACode := (.seq (.seq (.region [.fld 25 (.t 2) 4, .load 26 (.t 25) none, .fld 27 (.t 3) 4, .load 28 (.t 27) none, .bin 29 .neq (.t 26) (.t 28)] [2, 3, 29]) c_laws_eqCall_4) c_laws_eqCall_13)
def c_laws_eqCall_15 : ACode := (.seq (.seq (.region [.fld 20 (.t 2) 3, .load 21 (.t 20) none, .fld 22 (.t 3) 3, .load 23 (.t 22) none, .bin 24 .neq (.t 21) (.t 23)] [2, 3, 24]) c_laws_eqCall_3) c_laws_eqCall_14)
def c_laws_eqCall_16 : ACode := (.seq (.seq (.region [.fld 15 (.t 2) 2, .load 16 (.t 15) none, .fld 17 (.t 3) 2, .load 18 (.t 17) none, .bin 19 .neq (.t 16) (.t 18)] [2, 3, 19]) c_laws_eqCall_2) c_laws_eqCall_15)
def c_laws_eqCall_17 : ACode := (.seq (.seq (.region [.fld 10 (.t 2) 1, .load 11 (.t 10) none, .fld 12 (.t 3) 1, .load 13 (.t 12) none, .bin 14 .neq (.t 11) (.t 13)] [2, 3, 14]) c_laws_eqCall_1) c_laws_eqCall_16)
def c_laws_eqCall_18 : ACode := (.seq (.seq (.region [.fld 5 (.t 2) 0, .load 6 (.t 5) none, .fld 7 (.t 3) 0, .load 8 (.t 7) none, .bin 9 .neq (.t 6) (.t 8)] [2, 3, 9]) c_laws_eqCall_0) c_laws_eqCall_17)
def a_laws_eqCall : AFn := ⟨[.val k_Call, .val k_Call], [⟨4, false, .bool⟩], (.seq (.region [.box 2 (.t 0) false, .box 3 (.t 1) false, .mv 4 (.c (.bool false))] [2, 3]) c_laws_eqCall_18)⟩
def t_laws_eqCall   (x0 : y_Call) (x1 : y_Call) : Option Bool := (if (x0.1 != x1.1) = true then (some false) else (if (!(x0.2.1.toList == x1.2.1.toList)) = true then (some false) else (if (!(x0.2.2.1.toList == x1.2.2.1.toList)) = true then (some false) else (if (x0.2.2.2.1 != x1.2.2.2.1) = true then (some false) else (if (x0.2.2.2.2.1 != x1.2.2.2.2.1) = true then (some false) else (if (x0.2.2.2.2.2.1 != x1.2.2.2.2.2.1) = true then (some false) else (if (x0.2.2.2.2.2.2.1 != x1.2.2.2.2.2.2.1) = true then (some false) else (if (x0.2.2.2.2.2.2.2.1 != x1.2.2.2.2.2.2.2.1) = true then (some false) else (if (!(x0.2.2.2.2.2.2.2.2.toList == x1.2.2.2.2.2.2.2.2.toList)) = true then (some false) else (some true))))))))))
theorem h_laws_eqCall (cal : Cal) (x0 : y_Call) (x1 : y_Call) :
    bodyL cal a_laws_eqCall [.agg [.int .i64 x0.1, .str x0.2.1, .str x0.2.2.1, .int .i64 x0.2.2.2.1, .int .i64 x0.2.2.2.2.1, .int .i64 x0.2.2.2.2.2.1, .int .i64 x0.2.2.2.2.2.2.1, .int .i64 x0.2.2.2.2.2.2.2.1, .str x0.2.2.2.2.2.2.2.2], .agg [.int .i64 x1.1, .str x1.2.1, .str x1.2.2.1, .int .i64 x1.2.2.2.1, .int .i64 x1.2.2.2.2.1, .int .i64 x1.2.2.2.2.2.1, .int .i64 x1.2.2.2.2.2.2.1, .int .i64 x1.2.2.2.2.2.2.2.1, .str x1.2.2.2.2.2.2.2.2]] [] =
    t_laws_eqCall   x0 x1 := by kernel_rfl

/-! 212 slices.ContainsFunc[[]loop.example/g00180/impl.Call,loop.example/g00180/impl.Call] -/
def c_slices_ContainsFunc_impl_Call_impl_Call_0 : ACode := (.seq (.region [.mv 5 (.t 0), .mv 6 (.t 1), .call (some 7) 246 [(.t 5, .bor (.slice k_Call)), (.t 6, .val (.clo 213 k_Call))] [(.int .i64)], .bin 8 .geq (.t 7) (.c (.int .i64 0)), .mv 4 (.t 8)] [4]) .ret)
def a_slices_ContainsFunc_impl_Call_impl_Call : AFn := ⟨[.val (.slice k_Call), .val (.clo 213 k_Call)], [⟨4, false, .bool⟩], (.seq (.region [.mv 4 (.c (.bool false))] [0, 1]) c_slices_ContainsFunc_impl_Call_impl_Call_0)⟩
def t_slices_ContainsFunc_impl_Call_impl_Call (C_slices_IndexFunc_impl_Call_impl_Call : (List y_Call) → y_Call → Option Int)  (x0 : List y_Call) (x1 : y_Call) : Option Bool := ((C_slices_IndexFunc_impl_Call_impl_Call x0 x1).bind fun y1 => (some (decide (y1 ≥ (0 : Int)))))
theorem h_slices_ContainsFunc_impl_Call_impl_Call (cal : Cal) (x0 : List y_Call) (x1 : y_Call) :
    bodyL cal a_slices_ContainsFunc_impl_Call_impl_Call [.lst k_Call x0, .clo 213 k_Call x1] [] =
    t_slices_ContainsFunc_impl_Call_impl_Call (fun (q0 : List y_Call) (q1 : y_Call) => (cal 246 [.lst k_Call q0, .clo 213 k_Call q1] []).bind (decAll [(.int .i64)]))  x0 x1 := by kernel_rfl

/-! 213 loop.example/g00180/impl.isPut$1 -/
def c_impl_isPut_1_0 : ACode := (.seq (.region [.fld 4 (.t 2) 0, .load 5 (.t 4) none, .bin 6 .eql (.t 5) (.c (.int .i64 1)), .mv 7 (.t 6), .sc 7 true [.fld 8 (.t 2) 1, .load 9 (.t 8) none, .fld 10 (.t 1) 1, .load 11 (.t 10) none, .bin 12 .eql (.t 9) (.t 11)] 13 (.t 12) (.c (.bool false)), .mv 14 (.t 13), .sc 14 true [.fld 15 (.t 2) 2, .load 16 (.t 15) none, .fld 17 (.t 1) 8, .load 18 (.t 17) none, .bin 19 .eql (.t 16) (.t 18)] 20 (.t 19) (.c (.bool false)), .mv 21 (.t 20), .sc 21 true [.load 22 (.t 2) (some 9), .call (some 23) 114 [(.t 22, .val k_Call)] [.bool], .un 24 .not (.t 23), .mv 25 (.t 24), .sc 25 false [.fld 26 (.t 2) 5, .load 27 (.t 26) none, .fld 28 (.t 1) 5, .load 29 (.t 28) none, .bin 30 .eql (.t 27) (.t 29)] 31 (.c (.bool true)) (.t 30)] 32 (.t 31) (.c (.bool false)), .mv 3 (.t 32)] [3]) .ret)
def a_impl_isPut_1 : AFn := ⟨[.val k_Call, .val k_Call], [⟨3, false, .bool⟩], (.seq (.region [.box 2 (.t 0) false, .mv 3 (.c (.bool false))] [1, 2]) c_impl_isPut_1_0)⟩
def t_impl_isPut_1 (C_impl_isDone : y_Call → Option Bool)  (x0 : y_Call) (x1 : y_Call) : Option Bool := (if (x0.1 == (1 : Int)) = true then (if (x0.2.1.toList == x1.2.1.toList) = true then (if (x0.2.2.1.toList == x1.2.2.2.2.2.2.2.2.toList) = true then ((C_impl_isDone x0).bind fun y1 => (if (!y1) = false then (some (x0.2.2.2.2.2.1 == x1.2.2.2.2.2.1)) else (some true))) else (some false)) else (some false)) else (some false))
theorem h_impl_isPut_1 (cal : Cal) (x0 : y_Call) (x1 : y_Call) :
    bodyL cal a_impl_isPut_1 [.agg [.int .i64 x0.1, .str x0.2.1, .str x0.2.2.1, .int .i64 x0.2.2.2.1, .int .i64 x0.2.2.2.2.1, .int .i64 x0.2.2.2.2.2.1, .int .i64 x0.2.2.2.2.2.2.1, .int .i64 x0.2.2.2.2.2.2.2.1, .str x0.2.2.2.2.2.2.2.2], .fptr [.int .i64 x1.1, .str x1.2.1, .str x1.2.2.1, .int .i64 x1.2.2.2.1, .int .i64 x1.2.2.2.2.1, .int .i64 x1.2.2.2.2.2.1, .int .i64 x1.2.2.2.2.2.2.1, .int .i64 x1.2.2.2.2.2.2.2.1, .str x1.2.2.2.2.2.2.2.2] 0] [] =
    t_impl_isPut_1 (fun (q0 : y_Call) => (cal 114 [.agg [.int .i64 q0.1, .str q0.2.1, .str q0.2.2.1, .int .i64 q0.2.2.2.1, .int .i64 q0.2.2.2.2.1, .int .i64 q0.2.2.2.2.2.1, .int .i64 q0.2.2.2.2.2.2.1, .int .i64 q0.2.2.2.2.2.2.2.1, .str q0.2.2.2.2.2.2.2.2]] []).bind (decAll [.bool]))  x0 x1 := by kernel_rfl

/-! 246 slices.IndexFunc[[]loop.example/g00180/impl.Call,loop.example/g00180/impl.Call] -/
def c_slices_IndexFunc_impl_Call_impl_Call_0 : ACode := (.cond (.t 16) (.seq (.region [.mv 17 (.t 5), .mv 4 (.t 17)] [4]) .ret) .skip)
def c_slices_IndexFunc_impl_Call_impl_Call_1 : ACode := (.seq (.region [.mv 11 (.t 1), .mv 12 (.t 0), .mv 13 (.t 5), .idx 14 9 (.t 12) (.t 13), .load 15 (.t 14) (some 9), .call (some 16) 213 [(.t 15, .val k_Call), (.t 11, .cap 213 k_Call)] [.bool]] [0, 1, 5, 7, 8, 16]) c_slices_IndexFunc_impl_Call_impl_Call_0)
def c_slices_IndexFunc_impl_Call_impl_Call_2 : ACode := (.region [.bin 18 .add (.t 8) (.c (.int .i64 1)), .mv 8 (.t 18)] [0, 1, 7, 8])
def c_slices_IndexFunc_impl_Call_impl_Call_3 : ACode := (.seq (.block 1 [0, 1, 7, 8] (.seq (.region [.mv 10 (.t 8), .mv 5 (.t 10)] [0, 1, 5, 7, 8]) c_slices_IndexFunc_impl_Call_impl_Call_1)) c_slices_IndexFunc_impl_Call_impl_Call_2)
def c_slices_IndexFunc_impl_Call_impl_Call_4 : ACode := (.seq (.cond (.t 9) .skip (.exit 0)) c_slices_IndexFunc_impl_Call_impl_Call_3)
def c_slices_IndexFunc_impl_Call_impl_Call_5 : ACode := (.seq (.region [.bin 9 .lss (.t 8) (.t 7)] [0, 1, 7, 8, 9]) c_slices_IndexFunc_impl_Call_impl_Call_4)
def c_slices_IndexFunc_impl_Call_impl_Call_6 : ACode := (.block 0 [] (.loop [0, 1, 7, 8] c_slices_IndexFunc_impl_Call_impl_Call_5))
def c_slices_IndexFunc_impl_Call_impl_Call_7 : ACode := (.seq (.region [.mv 4 (.c (.int .i64 (-1)))] [4]) .ret)
def c_slices_IndexFunc_impl_Call_impl_Call_8 : ACode := (.seq (.seq (.region [.mv 6 (.t 0), .len 7 false (.t 6), .mv 8 (.c (.int .i64 0))] [0, 1, 7, 8]) c_slices_IndexFunc_impl_Call_impl_Call_6) c_slices_IndexFunc_impl_Call_impl_Call_7)
def a_slices_IndexFunc_impl_Call_impl_Call : AFn := ⟨[.val (.slice k_Call), .val (.clo 213 k_Call)], [⟨4, false, (.int .i64)⟩], (.seq (.region [.mv 4 (.c (.int .i64 0))] [0, 1]) c_slices_IndexFunc_impl_Call_impl_Call_8)⟩
def t_slices_IndexFunc_impl_Call_impl_Call_L0 (C_impl_isPut_1 : y_Call → y_Call → Option Bool)  (goL0 : (List y_Call) → y_Call → Int → Int → Option Int) (x0 : List y_Call) (x1 : y_Call) (x2 : Int) (x3 : Int) : Option Int := (if (decide (x3 < x2)) = true then (if 0 ≤ x3 then (if x3 < (x0.length : Int) then ((C_impl_isPut_1 (x0.getD x3.toNat ((0 : Int), ByteArray.empty, ByteArray.empty, (0 : Int), (0 : Int), (0 : Int), (0 : Int), (0 : Int), ByteArray.empty)) x1).bind fun y1 => (if y1 = true then (some x3) else (goL0 x0 x1 x2 (IntKind.i64.wrap (x3 + (1 : Int)))))) else none) else none) else (some (-1 : Int)))
def t_slices_IndexFunc_impl_Call_impl_Call (C_impl_isPut_1 : y_Call → y_Call → Option Bool) (L0 : (List y_Call) → y_Call → Int → Int → Option Int) (x0 : List y_Call) (x1 : y_Call) : Option Int := (L0 x0 x1 (x0.length : Int) (0 : Int))
noncomputable def e_slices_IndexFunc_impl_Call_impl_Call_L0 (cal : Cal)  (s : St) : Option (RT (AFn.outs a_slices_IndexFunc_impl_Call_impl_Call)) := loopL (fun goL0 s' => codeG cal loopL c_slices_IndexFunc_impl_Call_impl_Call_5 (fun s'' => goL0 (s''.cutH [] [0, 1, 7, 8] 0)) (retK a_slices_IndexFunc_impl_Call_impl_Call) (fun i s' => if i = 0 then (fun s' => codeG cal loopL c_slices_IndexFunc_impl_Call_impl_Call_7 (retK a_slices_IndexFunc_impl_Call_impl_Call) (retK a_slices_IndexFunc_impl_Call_impl_Call) (fun _ _ => none) s') (s'.cutH [] [] 0) else (fun _ _ => none) i s') s') s
theorem h_slices_IndexFunc_impl_Call_impl_Call_L0 (cal : Cal) (goL0 : St → Option (RT (AFn.outs a_slices_IndexFunc_impl_Call_impl_Call))) (x0 : List y_Call) (x1 : y_Call) (x2 : Int) (x3 : Int) :
    codeG cal loopL c_slices_IndexFunc_impl_Call_impl_Call_5 (fun s'' => goL0 (s''.cutH [] [0, 1, 7, 8] 0)) (retK a_slices_IndexFunc_impl_Call_impl_Call) (fun i s' => if i = 0 then (fun s' => codeG cal loopL c_slices_IndexFunc_impl_Call_impl_Call_7 (retK a_slices_IndexFunc_impl_Call_impl_Call) (retK a_slices_IndexFunc_impl_Call_impl_Call) (fun _ _ => none) s') (s'.cutH [] [] 0) else (fun _ _ => none) i s') ⟨[(0, .lst k_Call x0), (1, .clo 213 k_Call x1), (7, .int .i64 x2), (8, .int .i64 x3)], []⟩ =
    t_slices_IndexFunc_impl_Call_impl_Call_L0 (fun (q0 : y_Call) (q1 : y_Call) => (cal 213 [.agg [.int .i64 q0.1, .str q0.2.1, .str q0.2.2.1, .int .i64 q0.2.2.2.1, .int .i64 q0.2.2.2.2.1, .int .i64 q0.2.2.2.2.2.1, .int .i64 q0.2.2.2.2.2.2.1, .int .i64 q0.2.2.2.2.2.2.2.1, .str q0.2.2.2.2.2.2.2.2], .fptr [.int .i64 q1.1, .str q1.2.1, .str q1.2.2.1, .int .i64 q1.2.2.2.1, .int .i64 q1.2.2.2.2.1, .int .i64 q1.2.2.2.2.2.1, .int .i64 q1.2.2.2.2.2.2.1, .int .i64 q1.2.2.2.2.2.2.2.1, .str q1.2.2.2.2.2.2.2.2] 0] []).bind (decAll [.bool]))  (fun (x0 : List y_Call) (x1 : y_Call) (x2 : Int) (x3 : Int) => goL0 ⟨[(0, .lst k_Call x0), (1, .clo 213 k_Call x1), (7, .int .i64 x2), (8, .int .i64 x3)], []⟩) x0 x1 x2 x3 := by kernel_rfl
theorem h_slices_IndexFunc_impl_Call_impl_Call (cal : Cal) (x0 : List y_Call) (x1 : y_Call) :
    bodyL cal a_slices_IndexFunc_impl_Call_impl_Call [.lst k_Call x0, .clo 213 k_Call x1] [] =
    t_slices_IndexFunc_impl_Call_impl_Call (fun (q0 : y_Call) (q1 : y_Call) => (cal 213 [.agg [.int .i64 q0.1, .str q0.2.1, .str q0.2.2.1, .int .i64 q0.2.2.2.1, .int .i64 q0.2.2.2.2.1, .int .i64 q0.2.2.2.2.2.1, .int .i64 q0.2.2.2.2.2.2.1, .int .i64 q0.2.2.2.2.2.2.2.1, .str q0.2.2.2.2.2.2.2.2], .fptr [.int .i64 q1.1, .str q1.2.1, .str q1.2.2.1, .int .i64 q1.2.2.2.1, .int .i64 q1.2.2.2.2.1, .int .i64 q1.2.2.2.2.2.1, .int .i64 q1.2.2.2.2.2.2.1, .int .i64 q1.2.2.2.2.2.2.2.1, .str q1.2.2.2.2.2.2.2.2] 0] []).bind (decAll [.bool])) (fun (x0 : List y_Call) (x1 : y_Call) (x2 : Int) (x3 : Int) => e_slices_IndexFunc_impl_Call_impl_Call_L0 cal  ⟨[(0, .lst k_Call x0), (1, .clo 213 k_Call x1), (7, .int .i64 x2), (8, .int .i64 x3)], []⟩) x0 x1 := by kernel_rfl
end Go.Proofs.Ytnbfkndicldppaa.Core
