/- Code and typed functions. Written by a program of this part. -/
import Derived.Test.YtnbfkndicldppaaKinds
namespace Go.Proofs.Ytnbfkndicldppaa.Core
open Go
set_option linter.unusedVariables false
set_option maxRecDepth 100000

/-! 117 loop.example/g00180/laws.eqCall -/
def c_laws_eqCall_0 : ACode := (.cond (.t 9) (.seq (.region [.mv 4 (.c (.bool false))] [4]) .ret) .skip)
def c_laws_eqCall_1 : ACode := (.cond (.t 14) (.seq (.region [.mv 4 (.c (.bool false))] [4]) .ret) .skip)
def c_laws_eqCall_2 : ACode := (.cond (.t 19) (.seq (.region [.mv 4 (.c (.bool false))] [4]) .ret) .skip)
def c_laws_eqCall_3 : ACode := (.cond (.t 24) (.seq (.region [.mv 4 (.c (.bool false))] [4]) .ret) .skip)
def c_laws_eqCall_4 : ACode := (.cond (.t 29) (.seq (.region [.mv 4 (.c (.bool false))] [4]) .ret) .skip)
def c_laws_eqCall_5 : ACode := (.cond (.t 34) (.seq (.region [.mv 4 (.c (.bool false))] [4]) .ret) .skip)
def c_laws_eqCall_6 : ACode := (.cond (.t 39) (.seq (.region [.mv 4 (.c (.bool false))] [4]) .ret) .skip)
def c_laws_eqCall_7 : ACode := (.cond (.t 44) (.seq (.region [.mv 4 (.c (.bool false))] [4]) .ret) .skip)
def c_laws_eqCall_8 : ACode := (.cond (.t 49) (.seq (.region [.mv 4 (.c (.bool false))] [4]) .ret) .skip)
def c_laws_eqCall_9 : ACode := (.seq (.region [.mv 4 (.c (.bool true))] [4]) .ret)
def c_laws_eqCall_10 : ACode := (.seq (.seq (.region [.fld 45 (.t 2) 8, .load 46 (.t 45) none, .fld 47 (.t 3) 8, .load 48 (.t 47) none, .bin 49 .neq (.t 46) (.t 48)] [49]) c_laws_eqCall_8) c_laws_eqCall_9)
def c_laws_eqCall_11 : ACode := (.seq (.seq (.region [.fld 40 (.t 2) 7, .load 41 (.t 40) none, .fld 42 (.t 3) 7, .load 43 (.t 42) none, .bin 44 .neq (.t 41) (.t 43)] [2, 3, 44]) c_laws_eqCall_7) c_laws_eqCall_10)
def c_laws_eqCall_12 : ACode := (.seq (.seq (.region [.fld 35 (.t 2) 6, .load 36 (.t 35) none, .fld 37 (.t 3) 6, .load 38 (.t 37) none, .bin 39 .neq (.t 36) (.t 38)] [2, 3, 39]) c_laws_eqCall_6) c_laws_eqCall_11)
def c_laws_eqCall_13 : ACode := (.seq (.seq (.region [.fld 30 (.t 2) 5, .load 31 (.t 30) none, .fld 32 (.t 3) 5, .load 33 (.t 32) none, .bin 34 .neq (.t 31) (.t 33)] [2, 3, 34]) c_laws_eqCall_5) c_laws_eqCall_12)
def c_laws_eqCall_14 : ACode := (.seq (.seq (.region [.fld 25 (.t 2) 4, .load 26 (.t 25) none, .fld 27 (.t 3) 4, .load 28 (.t 27) none, .bin 29 .neq (.t 26) (.t 28)] [2, 3, 29]) c_laws_eqCall_4) c_laws_eqCall_13)
def c_laws_eqCall_15 : ACode := (.seq (.seq (.region [.fld 20 (.t 2) 3, .load 21 (.t 20) none, .fld 22 (.t 3) 3, .load 23 (.t 22) none, .bin 24 .neq (.t 21) (.t 23)] [2, 3, 24]) c_laws_eqCall_3) c_laws_eqCall_14)
def c_laws_eqCall_16 : ACode := (.seq (.seq (.region [.fld 15 (.t 2) 2, .load 16 (.t 15) none, .fld 17 (.t 3) 2, .load 18 (.t 17) none, .bin 19 .neq (.t 16) (.t 18)] [2, 3, 19]) c_laws_eqCall_2) c_laws_eqCall_15)
def c_laws_eqCall_17 : ACode := (.seq (.seq (.region [.fld 10 (.t 2) 1, .load 11 (.t 10) none, .fld 12 (.t 3) 1, .load 13 (.t 12) none, .bin 14 .neq (.t 11) (.t 13)] [2, 3, 14]) c_laws_eqCall_1) c_laws_eqCall_16)
def c_laws_eqCall_18 : ACode := (.seq (.seq (.region [.fld 5 (.t 2) 0, .load 6 (.t 5) none, .fld 7 (.t 3) 0, .load 8 (.t 7) none, .bin 9 .neq (.t 6) (.t 8)] [2, 3, 9]) c_laws_eqCall_0) c_laws_eqCall_17)
def a_laws_eqCall : AFn := ⟨[.val k_Call, .val k_Call], [⟨4, false, .bool⟩], (.seq (.region [.box 2 (.t 0) false, .box 3 (.t 1) false, .mv 4 (.c (.bool false))] [2, 3]) c_laws_eqCall_18)⟩
def t_laws_eqCall   (x0 : y_Call) (x1 : y_Call) : Option Bool := (if (x0.1 != x1.1) = true then (some false) else (if (!(x0.2.1.toList == x1.2.1.toList)) = true then (some false) else (if (!(x0.2.2.1.toList == x1.2.2.1.toList)) = true then (some false) else (if (x0.2.2.2.1 != x1.2.2.2.1) = true then (some false) else (if (x0.2.2.2.2.1 != x1.2.2.2.2.1) = true then (some false) else (if (x0.2.2.2.2.2.1 != x1.2.2.2.2.2.1) = true then (some false) else (if (x0.2.2.2.2.2.2.1 != x1.2.2.2.2.2.2.1) = true then (some false) else (if (x0.2.2.2.2.2.2.2.1 != x1.2.2.2.2.2.2.2.1) = true then (some false) else (if (!(x0.2.2.2.2.2.2.2.2.toList == x1.2.2.2.2.2.2.2.2.toList)) = true then (some false) else (some true))))))))))
theorem h_laws_eqCall (cal : Cal) (x0 : y_Call) (x1 : y_Call) :
    bodyL cal a_laws_eqCall [.agg [.int .i64 x0.1, .str x0.2.1, .str x0.2.2.1, .int .i64 x0.2.2.2.1, .int .i64 x0.2.2.2.2.1, .int .i64 x0.2.2.2.2.2.1, .int .i64 x0.2.2.2.2.2.2.1, .int .i64 x0.2.2.2.2.2.2.2.1, .str x0.2.2.2.2.2.2.2.2], .agg [.int .i64 x1.1, .str x1.2.1, .str x1.2.2.1, .int .i64 x1.2.2.2.1, .int .i64 x1.2.2.2.2.1, .int .i64 x1.2.2.2.2.2.1, .int .i64 x1.2.2.2.2.2.2.1, .int .i64 x1.2.2.2.2.2.2.2.1, .str x1.2.2.2.2.2.2.2.2]] [] =
    t_laws_eqCall   x0 x1 := by kernel_rfl

/-! 118 loop.example/g00180/spec.l01Byte -/
def c_spec_l01Byte_0 : ACode := (.region [.mv 49 (.t 0), .mv 50 (.t 0), .nilc 51 (.t 50), .fld 52 (.t 51) 1, .load 53 (.t 52) none, .bin 54 .add (.t 53) (.c (.int .i64 1)), .nilc 55 (.t 49), .fld 56 (.t 55) 1, .store (.t 56) (.t 54) 1 false] [3])
def c_spec_l01Byte_1 : ACode := (.cond (.t 34) (.seq (.draw [[], [], [1], [1, 2], [1, 2, 3], [], [5], [5, 6], [5, 6, 7], [1, 2, 3, 4, 5, 6, 7, 8], [1, 2, 3, 4, 5, 6, 7, 8, 9], [1, 2, 3, 4, 5, 6, 7, 8, 9, 10], [0, 1, 2, 3, 4, 5, 6, 7, 8, 9, 10, 11], [0, 1, 2, 3, 4, 5, 6, 7, 8, 9, 10, 11, 12], [0, 1, 2, 3, 4, 5, 6, 7, 8, 9, 10, 11, 12, 13]] (.take 0 none (.mv 35 (.t 3)) (.take 1 none (.mv 36 (.t 0)) (.take 2 none (.nilc 37 (.t 36)) (.take 3 none (.fld 38 (.t 37) 0) (.take 4 none (.load 39 (.t 38) none) (.take 5 none (.mv 40 (.t 0)) (.take 6 none (.nilc 41 (.t 40)) (.take 7 none (.fld 42 (.t 41) 1) (.take 8 none (.load 43 (.t 42) none) (.take 9 none (.idx 44 1 (.t 39) (.t 43)) (.take 10 none (.load 45 (.t 44) none) (.take 11 none (.cvi 46 .i64 (.t 45)) (.take 12 none (.bin 47 .add (.t 35) (.t 46)) (.take 13 none (.bin 48 .and (.t 47) (.c (.int .i64 255))) (.take 14 none (.mv 3 (.t 48)) .done))))))))))))))) [0, 3]) c_spec_l01Byte_0) .skip)
def c_spec_l01Byte_2 : ACode := (.seq (.region [.mv 57 (.t 3), .mv 2 (.t 57)] [2]) .ret)
def c_spec_l01Byte_3 : ACode := (.seqc [3] (.seq (.draw [[], [0], [0, 1], [0, 1, 2], [], [4], [4, 5], [4, 5, 6], [4, 5, 6, 7], [0, 1, 2, 3, 4, 5, 6, 7, 8]] (.take 0 none (.mv 25 (.t 0)) (.take 1 none (.nilc 26 (.t 25)) (.take 2 none (.fld 27 (.t 26) 1) (.take 3 none (.load 28 (.t 27) none) (.take 4 none (.mv 29 (.t 0)) (.take 5 none (.nilc 30 (.t 29)) (.take 6 none (.fld 31 (.t 30) 0) (.take 7 none (.load 32 (.t 31) none) (.take 8 none (.len 33 false (.t 32)) (.take 9 none (.bin 34 .lss (.t 28) (.t 33)) .done)))))))))) [0, 3, 34]) c_spec_l01Byte_1) c_spec_l01Byte_2)
def c_spec_l01Byte_4 : ACode := (.seq (.draw [[], [0], [0, 1], [0, 1, 2], [0, 1, 2, 3], [], [5], [5, 6], [5, 6, 7], [5, 6, 7, 8], [0, 1, 2, 3, 4, 5, 6, 7, 8, 9], [0, 1, 2, 3, 4, 5, 6, 7, 8, 9, 10], [0, 1, 2, 3, 4, 5, 6, 7, 8, 9, 10, 11]] (.take 0 none (.mv 13 (.t 0)) (.take 1 none (.nilc 14 (.t 13)) (.take 2 none (.fld 15 (.t 14) 2) (.take 3 none (.load 16 (.t 15) none) (.take 4 none (.bin 17 .shr (.t 16) (.c (.int .u64 33))) (.take 5 none (.mv 18 (.t 0)) (.take 6 none (.nilc 19 (.t 18)) (.take 7 none (.fld 20 (.t 19) 2) (.take 8 none (.load 21 (.t 20) none) (.take 9 none (.bin 22 .shr (.t 21) (.c (.int .u64 45))) (.take 10 none (.bin 23 .xor (.t 17) (.t 22)) (.take 11 none (.bin 24 .and (.t 23) (.c (.int .i64 255))) (.take 12 none (.mv 3 (.t 24)) .done))))))))))))) [0, 3]) c_spec_l01Byte_3)
def c_spec_l01Byte_5 : ACode := (.seq (.region [.mv 4 (.t 0), .mv 5 (.t 0), .nilc 6 (.t 5), .fld 7 (.t 6) 2, .load 8 (.t 7) none, .bin 9 .mul (.t 8) (.c (.int .i64 6364136223846793005)), .bin 10 .add (.t 9) (.c (.int .i64 1442695040888963407)), .nilc 11 (.t 4), .fld 12 (.t 11) 2, .store (.t 12) (.t 10) 1 false] [0]) c_spec_l01Byte_4)
def a_spec_l01Byte : AFn := ⟨[.ptr k_l01Cur], [⟨2, false, (.int .i64)⟩], (.seq (.region [.mv 2 (.c (.int .i64 0))] [0]) c_spec_l01Byte_5)⟩
def t_spec_l01Byte   (b0 : y_l01Cur) : Option (Int × y_l01Cur) := (if (33 : Int) < 0 then none else (if (45 : Int) < 0 then none else (if (decide (b0.2.1 < (b0.1.length : Int))) = true then (if 0 ≤ b0.2.1 then (if b0.2.1 < (b0.1.length : Int) then (some ((bitsAnd .i64 (IntKind.i64.wrap ((bitsAnd .i64 (bitsXor .i64 (Int.fdiv (IntKind.i64.wrap ((IntKind.i64.wrap (b0.2.2 * (6364136223846793005 : Int))) + (1442695040888963407 : Int))) (2 ^ (min (33 : Int).toNat (IntKind.bits .i64)))) (Int.fdiv (IntKind.i64.wrap ((IntKind.i64.wrap (b0.2.2 * (6364136223846793005 : Int))) + (1442695040888963407 : Int))) (2 ^ (min (45 : Int).toNat (IntKind.bits .i64))))) (255 : Int)) + (IntKind.i64.wrap (b0.1.getD b0.2.1.toNat (0 : Int))))) (255 : Int)), (b0.1, (IntKind.i64.wrap (b0.2.1 + (1 : Int))), (IntKind.i64.wrap ((IntKind.i64.wrap (b0.2.2 * (6364136223846793005 : Int))) + (1442695040888963407 : Int)))))) else none) else none) else (some ((bitsAnd .i64 (bitsXor .i64 (Int.fdiv (IntKind.i64.wrap ((IntKind.i64.wrap (b0.2.2 * (6364136223846793005 : Int))) + (1442695040888963407 : Int))) (2 ^ (min (33 : Int).toNat (IntKind.bits .i64)))) (Int.fdiv (IntKind.i64.wrap ((IntKind.i64.wrap (b0.2.2 * (6364136223846793005 : Int))) + (1442695040888963407 : Int))) (2 ^ (min (45 : Int).toNat (IntKind.bits .i64))))) (255 : Int)), (b0.1, b0.2.1, (IntKind.i64.wrap ((IntKind.i64.wrap (b0.2.2 * (6364136223846793005 : Int))) + (1442695040888963407 : Int)))))))))
theorem h_spec_l01Byte (cal : Cal) (b0 : y_l01Cur) :
    bodyL cal a_spec_l01Byte [.ptr 0 0] [.agg [.lst (.int .u8) b0.1, .int .i64 b0.2.1, .int .i64 b0.2.2]] =
    t_spec_l01Byte   b0 := by kernel_rfl

/-! 140 loop.example/g00180/laws.szIntS -/
def c_laws_szIntS_0 : ACode := (.cond (.t 10) (.seq (.region [.mv 4 (.c (.int .i64 (-1)))] [4]) .ret) .skip)
def c_laws_szIntS_1 : ACode := (.seq (.region [.mv 11 (.t 1), .mv 4 (.t 11)] [4]) .ret)
def c_laws_szIntS_2 : ACode := (.seq (.seq (.region [.mv 9 (.t 1), .bin 10 .lss (.t 9) (.c (.int .i64 0))] [1, 10]) c_laws_szIntS_0) c_laws_szIntS_1)
def c_laws_szIntS_3 : ACode := (.seq (.region [.mv 5 (.t 1), .mv 6 (.t 0), .len 7 false (.t 6), .bin 8 .sub (.t 5) (.t 7), .mv 1 (.t 8)] [1]) c_laws_szIntS_2)
def a_laws_szIntS : AFn := ⟨[.val (.slice (.int .i64)), .val (.int .i64)], [⟨4, false, (.int .i64)⟩], (.seq (.region [.mv 4 (.c (.int .i64 0))] [0, 1]) c_laws_szIntS_3)⟩
def t_laws_szIntS   (x0 : List Int) (x1 : Int) : Option Int := (if (decide ((IntKind.i64.wrap (x1 - (x0.length : Int))) < (0 : Int))) = true then (some (-1 : Int)) else (some (IntKind.i64.wrap (x1 - (x0.length : Int)))))
theorem h_laws_szIntS (cal : Cal) (x0 : List Int) (x1 : Int) :
    bodyL cal a_laws_szIntS [.lst (.int .i64) x0, .int .i64 x1] [] =
    t_laws_szIntS   x0 x1 := by kernel_rfl

/-! 141 loop.example/g00180/laws.szTask -/
def c_laws_szTask_0 : ACode := (.cond (.t 10) (.seq (.region [.mv 4 (.c (.int .i64 (-1)))] [4]) .ret) .skip)
def c_laws_szTask_1 : ACode := (.cond (.t 16) (.seq (.region [.mv 4 (.c (.int .i64 (-1)))] [4]) .ret) .skip)
def c_laws_szTask_2 : ACode := (.seq (.region [.mv 17 (.t 1), .mv 4 (.t 17)] [4]) .ret)
def c_laws_szTask_3 : ACode := (.seq (.seq (.region [.mv 15 (.t 1), .bin 16 .lss (.t 15) (.c (.int .i64 0))] [1, 16]) c_laws_szTask_1) c_laws_szTask_2)
def c_laws_szTask_4 : ACode := (.seq (.region [.fld 11 (.t 2) 6, .load 12 (.t 11) none, .mv 13 (.t 1), .call (some 14) 140 [(.t 12, .bor (.slice (.int .i64))), (.t 13, .val (.int .i64))] [(.int .i64)], .mv 1 (.t 14)] [1]) c_laws_szTask_3)
def c_laws_szTask_5 : ACode := (.seq (.seq (.region [.mv 9 (.t 1), .bin 10 .lss (.t 9) (.c (.int .i64 0))] [1, 2, 10]) c_laws_szTask_0) c_laws_szTask_4)
def c_laws_szTask_6 : ACode := (.seq (.region [.fld 5 (.t 2) 3, .load 6 (.t 5) (some 3), .mv 7 (.t 1), .call (some 8) 70 [(.t 6, .val k_Item), (.t 7, .val (.int .i64))] [(.int .i64)], .mv 1 (.t 8)] [1, 2]) c_laws_szTask_5)
def a_laws_szTask : AFn := ⟨[.val k_Task, .val (.int .i64)], [⟨4, false, (.int .i64)⟩], (.seq (.region [.box 2 (.t 0) false, .mv 4 (.c (.int .i64 0))] [1, 2]) c_laws_szTask_6)⟩
def t_laws_szTask (C_laws_szItem : y_Item → Int → Option Int) (C_laws_szIntS : (List Int) → Int → Option Int)  (x0 : y_Task) (x1 : Int) : Option Int := ((C_laws_szItem x0.2.2.2.1 x1).bind fun y1 => (if (decide (y1 < (0 : Int))) = true then (some (-1 : Int)) else ((C_laws_szIntS x0.2.2.2.2 y1).bind fun y2 => (if (decide (y2 < (0 : Int))) = true then (some (-1 : Int)) else (some y2)))))
theorem h_laws_szTask (cal : Cal) (x0 : y_Task) (x1 : Int) :
    bodyL cal a_laws_szTask [.agg [.int .i64 x0.1, .int .i64 x0.2.1, .int .i64 x0.2.2.1, .str x0.2.2.2.1.1, .str x0.2.2.2.1.2.1, .int .i64 x0.2.2.2.1.2.2, .lst (.int .i64) x0.2.2.2.2], .int .i64 x1] [] =
    t_laws_szTask (fun (q0 : y_Item) (q1 : Int) => (cal 70 [.agg [.str q0.1, .str q0.2.1, .int .i64 q0.2.2], .int .i64 q1] []).bind (decAll [(.int .i64)])) (fun (q0 : List Int) (q1 : Int) => (cal 140 [.lst (.int .i64) q0, .int .i64 q1] []).bind (decAll [(.int .i64)]))  x0 x1 := by kernel_rfl

/-! 142 loop.example/g00180/laws.toIntS -/
def c_laws_toIntS_0 : ACode := (.cond (.t 11) .skip (.exit 0))
def c_laws_toIntS_1 : ACode := (.region [.mv 12 (.t 4), .bin 13 .add (.t 12) (.c (.int .i64 1)), .mv 4 (.t 13)] [0, 3, 4])
def c_laws_toIntS_2 : ACode := (.seq (.block 1 [0, 3, 4] (.region [.mv 14 (.t 3), .mv 15 (.t 4), .mv 16 (.t 0), .mv 17 (.t 4), .idx 18 1 (.t 16) (.t 17), .load 19 (.t 18) none, .idx 20 1 (.t 14) (.t 15), .store (.t 20) (.t 19) 1 false] [0, 3, 4])) c_laws_toIntS_1)
def c_laws_toIntS_3 : ACode := (.seq (.seq (.region [.mv 8 (.t 4), .mv 9 (.t 0), .len 10 false (.t 9), .bin 11 .lss (.t 8) (.t 10)] [0, 3, 4, 11]) c_laws_toIntS_0) c_laws_toIntS_2)
def c_laws_toIntS_4 : ACode := (.block 0 [3] (.loop [0, 3, 4] c_laws_toIntS_3))
def c_laws_toIntS_5 : ACode := (.seq (.region [.mv 21 (.t 3), .mv 2 (.t 21)] [2]) .ret)
def c_laws_toIntS_6 : ACode := (.seq (.seq (.region [.mv 4 (.c (.int .i64 0))] [0, 3, 4]) c_laws_toIntS_4) c_laws_toIntS_5)
def c_laws_toIntS_7 : ACode := (.seq (.region [.mv 5 (.t 0), .len 6 false (.t 5), .mk 7 3 (.int .i64) (.t 6), .mv 3 (.t 7)] [0, 3]) c_laws_toIntS_6)
def a_laws_toIntS : AFn := ⟨[.val (.slice (.int .i64))], [⟨2, false, (.slice (.int .i64))⟩], (.seq (.region [.mv 2 (.c (.nil))] [0]) c_laws_toIntS_7)⟩
def t_laws_toIntS_L0   (goL0 : (List Int) → Int → (List Int) → Option (List Int)) (x0 : List Int) (x1 : Int) (x2 : List Int) : Option (List Int) := (if (decide (x1 < (x0.length : Int))) = true then (if 0 ≤ x1 then (if x1 < (x0.length : Int) then (if 0 ≤ x1 then (if x1 < (x2.length : Int) then (let z1 : List Int := x2.set x1.toNat (x0.getD x1.toNat (0 : Int)); (goL0 x0 (IntKind.i64.wrap (x1 + (1 : Int))) z1)) else none) else none) else none) else none) else (some x2))
def t_laws_toIntS  (L0 : (List Int) → Int → (List Int) → Option (List Int)) (x0 : List Int) : Option (List Int) := (if 0 ≤ (x0.length : Int) then (if (x0.length : Int) ≤ 68719476736 then (L0 x0 (0 : Int) (List.replicate (x0.length : Int).toNat (0 : Int))) else none) else none)
noncomputable def e_laws_toIntS_L0 (cal : Cal)  (s : St) : Option (RT (AFn.outs a_laws_toIntS)) := loopL (fun goL0 s' => codeG cal loopL c_laws_toIntS_3 (fun s'' => goL0 (s''.cut [0, 3, 4] 1)) (retK a_laws_toIntS) (fun i s' => if i = 0 then (fun s' => codeG cal loopL c_laws_toIntS_5 (retK a_laws_toIntS) (retK a_laws_toIntS) (fun _ _ => none) s') (s'.cut [3] 1) else (fun _ _ => none) i s') s') s
theorem h_laws_toIntS_L0 (cal : Cal) (goL0 : St → Option (RT (AFn.outs a_laws_toIntS))) (x0 : List Int) (x1 : Int) (x2 : List Int) :
    codeG cal loopL c_laws_toIntS_3 (fun s'' => goL0 (s''.cut [0, 3, 4] 1)) (retK a_laws_toIntS) (fun i s' => if i = 0 then (fun s' => codeG cal loopL c_laws_toIntS_5 (retK a_laws_toIntS) (retK a_laws_toIntS) (fun _ _ => none) s') (s'.cut [3] 1) else (fun _ _ => none) i s') ⟨[(0, .lst (.int .i64) x0), (3, .row 0), (4, .int .i64 x1)], [.rows 3 (.int .i64) x2]⟩ =
    t_laws_toIntS_L0   (fun (x0 : List Int) (x1 : Int) (x2 : List Int) => goL0 ⟨[(0, .lst (.int .i64) x0), (3, .row 0), (4, .int .i64 x1)], [.rows 3 (.int .i64) x2]⟩) x0 x1 x2 := by kernel_rfl
theorem h_laws_toIntS (cal : Cal) (x0 : List Int) :
    bodyL cal a_laws_toIntS [.lst (.int .i64) x0] [] =
    t_laws_toIntS  (fun (x0 : List Int) (x1 : Int) (x2 : List Int) => e_laws_toIntS_L0 cal  ⟨[(0, .lst (.int .i64) x0), (3, .row 0), (4, .int .i64 x1)], [.rows 3 (.int .i64) x2]⟩) x0 := by kernel_rfl

/-! 143 loop.example/g00180/laws.toTask -/
def c_laws_toTask_0 : ACode := (.seq (.region [.load 21 (.t 3) (some 7), .store (.t 2) (.t 21) 7 false] [2]) .ret)
def c_laws_toTask_1 : ACode := (.seq (.region [.fld 17 (.t 1) 6, .load 18 (.t 17) none, .call (some 19) 142 [(.t 18, .val (.slice (.int .i64)))] [(.slice (.int .i64))], .fld 20 (.t 3) 6, .store (.t 20) (.t 19) 1 false] [2, 3]) c_laws_toTask_0)
def c_laws_toTask_2 : ACode := (.seq (.region [.fld 13 (.t 1) 3, .load 14 (.t 13) (some 3), .call (some 15) 72 [(.t 14, .val k_Item)] [k_Item], .fld 16 (.t 3) 3, .store (.t 16) (.t 15) 3 false] [1, 2, 3]) c_laws_toTask_1)
def c_laws_toTask_3 : ACode := (.seq (.region [.fld 10 (.t 1) 2, .load 11 (.t 10) none, .fld 12 (.t 3) 2, .store (.t 12) (.t 11) 1 false] [1, 2, 3]) c_laws_toTask_2)
def c_laws_toTask_4 : ACode := (.seq (.region [.fld 7 (.t 1) 1, .load 8 (.t 7) none, .fld 9 (.t 3) 1, .store (.t 9) (.t 8) 1 false] [1, 2, 3]) c_laws_toTask_3)
def c_laws_toTask_5 : ACode := (.seq (.region [.fld 4 (.t 1) 0, .load 5 (.t 4) none, .fld 6 (.t 3) 0, .store (.t 6) (.t 5) 1 false] [1, 2, 3]) c_laws_toTask_4)
def c_laws_toTask_6 : ACode := (.seq (.region [.alloc 3 [.int .i64 0, .int .i64 0, .int .i64 0, .str ByteArray.empty, .str ByteArray.empty, .int .i64 0, .nil]] [1, 2, 3]) c_laws_toTask_5)
def a_laws_toTask : AFn := ⟨[.val k_Task], [⟨2, true, k_Task⟩], (.seq (.region [.box 1 (.t 0) false, .alloc 2 [.int .i64 0, .int .i64 0, .int .i64 0, .str ByteArray.empty, .str ByteArray.empty, .int .i64 0, .nil]] [1, 2]) c_laws_toTask_6)⟩
def t_laws_toTask (C_laws_toItem : y_Item → Option y_Item) (C_laws_toIntS : (List Int) → Option (List Int))  (x0 : y_Task) : Option y_Task := ((C_laws_toItem x0.2.2.2.1).bind fun y1 => ((C_laws_toIntS x0.2.2.2.2).bind fun y2 => (some (x0.1, x0.2.1, x0.2.2.1, y1, y2))))
theorem h_laws_toTask (cal : Cal) (x0 : y_Task) :
    bodyL cal a_laws_toTask [.agg [.int .i64 x0.1, .int .i64 x0.2.1, .int .i64 x0.2.2.1, .str x0.2.2.2.1.1, .str x0.2.2.2.1.2.1, .int .i64 x0.2.2.2.1.2.2, .lst (.int .i64) x0.2.2.2.2]] [] =
    t_laws_toTask (fun (q0 : y_Item) => (cal 72 [.agg [.str q0.1, .str q0.2.1, .int .i64 q0.2.2]] []).bind (decAll [k_Item])) (fun (q0 : List Int) => (cal 142 [.lst (.int .i64) q0] []).bind (decAll [(.slice (.int .i64))]))  x0 := by kernel_rfl

/-! 144 loop.example/g00180/laws.eqIntS -/
def c_laws_eqIntS_0 : ACode := (.cond (.t 10) (.seq (.region [.mv 4 (.c (.bool false))] [4]) .ret) .skip)
def c_laws_eqIntS_1 : ACode := (.cond (.t 14) .skip (.exit 0))
def c_laws_eqIntS_2 : ACode := (.cond (.t 25) (.seq (.region [.mv 4 (.c (.bool false))] [4]) .ret) .skip)
def c_laws_eqIntS_3 : ACode := (.region [.mv 15 (.t 5), .bin 16 .add (.t 15) (.c (.int .i64 1)), .mv 5 (.t 16)] [0, 1, 5])
def c_laws_eqIntS_4 : ACode := (.seq (.block 1 [0, 1, 5] (.seq (.draw [[], [], [0, 1], [0, 1, 2], [], [], [4, 5], [4, 5, 6], [0, 1, 2, 3, 4, 5, 6, 7]] (.take 0 none (.mv 17 (.t 0)) (.take 1 none (.mv 18 (.t 5)) (.take 2 none (.idx 19 1 (.t 17) (.t 18)) (.take 3 none (.load 20 (.t 19) none) (.take 4 none (.mv 21 (.t 1)) (.take 5 none (.mv 22 (.t 5)) (.take 6 none (.idx 23 1 (.t 21) (.t 22)) (.take 7 none (.load 24 (.t 23) none) (.take 8 none (.bin 25 .neq (.t 20) (.t 24)) .done))))))))) [0, 1, 5, 25]) c_laws_eqIntS_2)) c_laws_eqIntS_3)
def c_laws_eqIntS_5 : ACode := (.seq (.seq (.region [.mv 11 (.t 5), .mv 12 (.t 0), .len 13 false (.t 12), .bin 14 .lss (.t 11) (.t 13)] [0, 1, 5, 14]) c_laws_eqIntS_1) c_laws_eqIntS_4)
def c_laws_eqIntS_6 : ACode := (.block 0 [] (.loop [0, 1, 5] c_laws_eqIntS_5))
def c_laws_eqIntS_7 : ACode := (.seq (.region [.mv 4 (.c (.bool true))] [4]) .ret)
def c_laws_eqIntS_8 : ACode := (.seq (.seq (.region [.mv 5 (.c (.int .i64 0))] [0, 1, 5]) c_laws_eqIntS_6) c_laws_eqIntS_7)
def c_laws_eqIntS_9 : ACode := (.seq (.seq (.region [.mv 6 (.t 0), .len 7 false (.t 6), .mv 8 (.t 1), .len 9 false (.t 8), .bin 10 .neq (.t 7) (.t 9)] [0, 1, 10]) c_laws_eqIntS_0) c_laws_eqIntS_8)
def a_laws_eqIntS : AFn := ⟨[.val (.slice (.int .i64)), .val (.slice (.int .i64))], [⟨4, false, .bool⟩], (.seq (.region [.mv 4 (.c (.bool false))] [0, 1]) c_laws_eqIntS_9)⟩
def t_laws_eqIntS_L0   (goL0 : (List Int) → (List Int) → Int → Option Bool) (x0 : List Int) (x1 : List Int) (x2 : Int) : Option Bool := (if (decide (x2 < (x0.length : Int))) = true then (if 0 ≤ x2 then (if x2 < (x0.length : Int) then (if 0 ≤ x2 then (if x2 < (x1.length : Int) then (if ((x0.getD x2.toNat (0 : Int)) != (x1.getD x2.toNat (0 : Int))) = true then (some false) else (goL0 x0 x1 (IntKind.i64.wrap (x2 + (1 : Int))))) else none) else none) else none) else none) else (some true))
def t_laws_eqIntS  (L0 : (List Int) → (List Int) → Int → Option Bool) (x0 : List Int) (x1 : List Int) : Option Bool := (if ((x0.length : Int) != (x1.length : Int)) = true then (some false) else (L0 x0 x1 (0 : Int)))
noncomputable def e_laws_eqIntS_L0 (cal : Cal)  (s : St) : Option (RT (AFn.outs a_laws_eqIntS)) := loopL (fun goL0 s' => codeG cal loopL c_laws_eqIntS_5 (fun s'' => goL0 (s''.cut [0, 1, 5] 0)) (retK a_laws_eqIntS) (fun i s' => if i = 0 then (fun s' => codeG cal loopL c_laws_eqIntS_7 (retK a_laws_eqIntS) (retK a_laws_eqIntS) (fun _ _ => none) s') (s'.cut [] 0) else (fun _ _ => none) i s') s') s
theorem h_laws_eqIntS_L0 (cal : Cal) (goL0 : St → Option (RT (AFn.outs a_laws_eqIntS))) (x0 : List Int) (x1 : List Int) (x2 : Int) :
    codeG cal loopL c_laws_eqIntS_5 (fun s'' => goL0 (s''.cut [0, 1, 5] 0)) (retK a_laws_eqIntS) (fun i s' => if i = 0 then (fun s' => codeG cal loopL c_laws_eqIntS_7 (retK a_laws_eqIntS) (retK a_laws_eqIntS) (fun _ _ => none) s') (s'.cut [] 0) else (fun _ _ => none) i s') ⟨[(0, .lst (.int .i64) x0), (1, .lst (.int .i64) x1), (5, .int .i64 x2)], []⟩ =
    t_laws_eqIntS_L0   (fun (x0 : List Int) (x1 : List Int) (x2 : Int) => goL0 ⟨[(0, .lst (.int .i64) x0), (1, .lst (.int .i64) x1), (5, .int .i64 x2)], []⟩) x0 x1 x2 := by kernel_rfl
theorem h_laws_eqIntS (cal : Cal) (x0 : List Int) (x1 : List Int) :
    bodyL cal a_laws_eqIntS [.lst (.int .i64) x0, .lst (.int .i64) x1] [] =
    t_laws_eqIntS  (fun (x0 : List Int) (x1 : List Int) (x2 : Int) => e_laws_eqIntS_L0 cal  ⟨[(0, .lst (.int .i64) x0), (1, .lst (.int .i64) x1), (5, .int .i64 x2)], []⟩) x0 x1 := by kernel_rfl

/-! 145 loop.example/g00180/laws.eqTask -/
def c_laws_eqTask_0 : ACode := (.cond (.t 9) (.seq (.region [.mv 4 (.c (.bool false))] [4]) .ret) .skip)
def c_laws_eqTask_1 : ACode := (.cond (.t 14) (.seq (.region [.mv 4 (.c (.bool false))] [4]) .ret) .skip)
def c_laws_eqTask_2 : ACode := (.cond (.t 19) (.seq (.region [.mv 4 (.c (.bool false))] [4]) .ret) .skip)
def c_laws_eqTask_3 : ACode := (.cond (.t 25) (.seq (.region [.mv 4 (.c (.bool false))] [4]) .ret) .skip)
def c_laws_eqTask_4 : ACode := (.cond (.t 31) (.seq (.region [.mv 4 (.c (.bool false))] [4]) .ret) .skip)
def c_laws_eqTask_5 : ACode := (.seq (.region [.mv 4 (.c (.bool true))] [4]) .ret)
def c_laws_eqTask_6 : ACode := (.seq (.seq (.region [.fld 26 (.t 2) 6, .load 27 (.t 26) none, .fld 28 (.t 3) 6, .load 29 (.t 28) none, .call (some 30) 144 [(.t 27, .bor (.slice (.int .i64))), (.t 29, .bor (.slice (.int .i64)))] [.bool], .un 31 .not (.t 30)] [31]) c_laws_eqTask_4) c_laws_eqTask_5)
def c_laws_eqTask_7 : ACode := (.seq (.seq (.region [.fld 20 (.t 2) 3, .load 21 (.t 20) (some 3), .fld 22 (.t 3) 3, .load 23 (.t 22) (some 3), .call (some 24) 162 [(.t 21, .val k_Item), (.t 23, .val k_Item)] [.bool], .un 25 .not (.t 24)] [2, 3, 25]) c_laws_eqTask_3) c_laws_eqTask_6)
def c_laws_eqTask_8 : ACode := (.seq (.seq (.region [.fld 15 (.t 2) 2, .load 16 (.t 15) none, .fld 17 (.t 3) 2, .load 18 (.t 17) none, .bin 19 .neq (.t 16) (.t 18)] [2, 3, 19]) c_laws_eqTask_2) c_laws_eqTask_7)
def c_laws_eqTask_9 : ACode := (.seq (.seq (.region [.fld 10 (.t 2) 1, .load 11 (.t 10) none, .fld 12 (.t 3) 1, .load 13 (.t 12) none, .bin 14 .neq (.t 11) (.t 13)] [2, 3, 14]) c_laws_eqTask_1) c_laws_eqTask_8)
def c_laws_eqTask_10 : ACode := (.seq (.seq (.region [.fld 5 (.t 2) 0, .load 6 (.t 5) none, .fld 7 (.t 3) 0, .load 8 (.t 7) none, .bin 9 .neq (.t 6) (.t 8)] [2, 3, 9]) c_laws_eqTask_0) c_laws_eqTask_9)
def a_laws_eqTask : AFn := ⟨[.val k_Task, .val k_Task], [⟨4, false, .bool⟩], (.seq (.region [.box 2 (.t 0) false, .box 3 (.t 1) false, .mv 4 (.c (.bool false))] [2, 3]) c_laws_eqTask_10)⟩
def t_laws_eqTask (C_laws_eqIntS : (List Int) → (List Int) → Option Bool) (C_laws_eqItem : y_Item → y_Item → Option Bool)  (x0 : y_Task) (x1 : y_Task) : Option Bool := (if (x0.1 != x1.1) = true then (some false) else (if (x0.2.1 != x1.2.1) = true then (some false) else (if (x0.2.2.1 != x1.2.2.1) = true then (some false) else ((C_laws_eqItem x0.2.2.2.1 x1.2.2.2.1).bind fun y1 => (if (!y1) = true then (some false) else ((C_laws_eqIntS x0.2.2.2.2 x1.2.2.2.2).bind fun y2 => (if (!y2) = true then (some false) else (some true))))))))
theorem h_laws_eqTask (cal : Cal) (x0 : y_Task) (x1 : y_Task) :
    bodyL cal a_laws_eqTask [.agg [.int .i64 x0.1, .int .i64 x0.2.1, .int .i64 x0.2.2.1, .str x0.2.2.2.1.1, .str x0.2.2.2.1.2.1, .int .i64 x0.2.2.2.1.2.2, .lst (.int .i64) x0.2.2.2.2], .agg [.int .i64 x1.1, .int .i64 x1.2.1, .int .i64 x1.2.2.1, .str x1.2.2.2.1.1, .str x1.2.2.2.1.2.1, .int .i64 x1.2.2.2.1.2.2, .lst (.int .i64) x1.2.2.2.2]] [] =
    t_laws_eqTask (fun (q0 : List Int) (q1 : List Int) => (cal 144 [.lst (.int .i64) q0, .lst (.int .i64) q1] []).bind (decAll [.bool])) (fun (q0 : y_Item) (q1 : y_Item) => (cal 162 [.agg [.str q0.1, .str q0.2.1, .int .i64 q0.2.2], .agg [.str q1.1, .str q1.2.1, .int .i64 q1.2.2]] []).bind (decAll [.bool]))  x0 x1 := by kernel_rfl

/-! 151 loop.example/g00180/spec.l10In -/
def c_spec_l10In_0 : ACode := (.cond (.t 9) .skip (.exit 0))
def c_spec_l10In_1 : ACode := (.cond (.t 17) (.seq (.region [.mv 4 (.c (.bool true))] [4]) .ret) .skip)
def c_spec_l10In_2 : ACode := (.region [.mv 10 (.t 5), .bin 11 .add (.t 10) (.c (.int .i64 1)), .mv 5 (.t 11)] [0, 1, 5])
def c_spec_l10In_3 : ACode := (.seq (.block 1 [0, 1, 5] (.seq (.region [.mv 12 (.t 0), .mv 13 (.t 5), .idx 14 1 (.t 12) (.t 13), .load 15 (.t 14) none, .mv 16 (.t 1), .bin 17 .eql (.t 15) (.t 16)] [0, 1, 5, 17]) c_spec_l10In_1)) c_spec_l10In_2)
def c_spec_l10In_4 : ACode := (.seq (.seq (.region [.mv 6 (.t 5), .mv 7 (.t 0), .len 8 false (.t 7), .bin 9 .lss (.t 6) (.t 8)] [0, 1, 5, 9]) c_spec_l10In_0) c_spec_l10In_3)
def c_spec_l10In_5 : ACode := (.block 0 [] (.loop [0, 1, 5] c_spec_l10In_4))
def c_spec_l10In_6 : ACode := (.seq (.region [.mv 4 (.c (.bool false))] [4]) .ret)
def c_spec_l10In_7 : ACode := (.seq (.seq (.region [.mv 5 (.c (.int .i64 0))] [0, 1, 5]) c_spec_l10In_5) c_spec_l10In_6)
def a_spec_l10In : AFn := ⟨[.val (.slice (.int .i64)), .val (.int .i64)], [⟨4, false, .bool⟩], (.seq (.region [.mv 4 (.c (.bool false))] [0, 1]) c_spec_l10In_7)⟩
def t_spec_l10In_L0   (goL0 : (List Int) → Int → Int → Option Bool) (x0 : List Int) (x1 : Int) (x2 : Int) : Option Bool := (if (decide (x2 < (x0.length : Int))) = true then (if 0 ≤ x2 then (if x2 < (x0.length : Int) then (if ((x0.getD x2.toNat (0 : Int)) == x1) = true then (some true) else (goL0 x0 x1 (IntKind.i64.wrap (x2 + (1 : Int))))) else none) else none) else (some false))
def t_spec_l10In  (L0 : (List Int) → Int → Int → Option Bool) (x0 : List Int) (x1 : Int) : Option Bool := (L0 x0 x1 (0 : Int))
noncomputable def e_spec_l10In_L0 (cal : Cal)  (s : St) : Option (RT (AFn.outs a_spec_l10In)) := loopL (fun goL0 s' => codeG cal loopL c_spec_l10In_4 (fun s'' => goL0 (s''.cut [0, 1, 5] 0)) (retK a_spec_l10In) (fun i s' => if i = 0 then (fun s' => codeG cal loopL c_spec_l10In_6 (retK a_spec_l10In) (retK a_spec_l10In) (fun _ _ => none) s') (s'.cut [] 0) else (fun _ _ => none) i s') s') s
theorem h_spec_l10In_L0 (cal : Cal) (goL0 : St → Option (RT (AFn.outs a_spec_l10In))) (x0 : List Int) (x1 : Int) (x2 : Int) :
    codeG cal loopL c_spec_l10In_4 (fun s'' => goL0 (s''.cut [0, 1, 5] 0)) (retK a_spec_l10In) (fun i s' => if i = 0 then (fun s' => codeG cal loopL c_spec_l10In_6 (retK a_spec_l10In) (retK a_spec_l10In) (fun _ _ => none) s') (s'.cut [] 0) else (fun _ _ => none) i s') ⟨[(0, .lst (.int .i64) x0), (1, .int .i64 x1), (5, .int .i64 x2)], []⟩ =
    t_spec_l10In_L0   (fun (x0 : List Int) (x1 : Int) (x2 : Int) => goL0 ⟨[(0, .lst (.int .i64) x0), (1, .int .i64 x1), (5, .int .i64 x2)], []⟩) x0 x1 x2 := by kernel_rfl
theorem h_spec_l10In (cal : Cal) (x0 : List Int) (x1 : Int) :
    bodyL cal a_spec_l10In [.lst (.int .i64) x0, .int .i64 x1] [] =
    t_spec_l10In  (fun (x0 : List Int) (x1 : Int) (x2 : Int) => e_spec_l10In_L0 cal  ⟨[(0, .lst (.int .i64) x0), (1, .int .i64 x1), (5, .int .i64 x2)], []⟩) x0 x1 := by kernel_rfl

/-! 154 slices.Contains[[]int,int] -/
def c_slices_Contains_int_int_0 : ACode := (.seq (.region [.mv 5 (.t 0), .mv 6 (.t 1), .call (some 7) 226 [(.t 5, .bor (.slice (.int .i64))), (.t 6, .val (.int .i64))] [(.int .i64)], .bin 8 .geq (.t 7) (.c (.int .i64 0)), .mv 4 (.t 8)] [4]) .ret)
def a_slices_Contains_int_int : AFn := ⟨[.val (.slice (.int .i64)), .val (.int .i64)], [⟨4, false, .bool⟩], (.seq (.region [.mv 4 (.c (.bool false))] [0, 1]) c_slices_Contains_int_int_0)⟩
def t_slices_Contains_int_int (C_slices_Index_int_int : (List Int) → Int → Option Int)  (x0 : List Int) (x1 : Int) : Option Bool := ((C_slices_Index_int_int x0 x1).bind fun y1 => (some (decide (y1 ≥ (0 : Int)))))
theorem h_slices_Contains_int_int (cal : Cal) (x0 : List Int) (x1 : Int) :
    bodyL cal a_slices_Contains_int_int [.lst (.int .i64) x0, .int .i64 x1] [] =
    t_slices_Contains_int_int (fun (q0 : List Int) (q1 : Int) => (cal 226 [.lst (.int .i64) q0, .int .i64 q1] []).bind (decAll [(.int .i64)]))  x0 x1 := by kernel_rfl

/-! 162 loop.example/g00180/laws.eqItem -/
def c_laws_eqItem_0 : ACode := (.cond (.t 9) (.seq (.region [.mv 4 (.c (.bool false))] [4]) .ret) .skip)
def c_laws_eqItem_1 : ACode := (.cond (.t 14) (.seq (.region [.mv 4 (.c (.bool false))] [4]) .ret) .skip)
def c_laws_eqItem_2 : ACode := (.cond (.t 19) (.seq (.region [.mv 4 (.c (.bool false))] [4]) .ret) .skip)
def c_laws_eqItem_3 : ACode := (.seq (.region [.mv 4 (.c (.bool true))] [4]) .ret)
def c_laws_eqItem_4 : ACode := (.seq (.seq (.region [.fld 15 (.t 2) 2, .load 16 (.t 15) none, .fld 17 (.t 3) 2, .load 18 (.t 17) none, .bin 19 .neq (.t 16) (.t 18)] [19]) c_laws_eqItem_2) c_laws_eqItem_3)
def c_laws_eqItem_5 : ACode := (.seq (.seq (.region [.fld 10 (.t 2) 1, .load 11 (.t 10) none, .fld 12 (.t 3) 1, .load 13 (.t 12) none, .bin 14 .neq (.t 11) (.t 13)] [2, 3, 14]) c_laws_eqItem_1) c_laws_eqItem_4)
def c_laws_eqItem_6 : ACode := (.seq (.seq (.region [.fld 5 (.t 2) 0, .load 6 (.t 5) none, .fld 7 (.t 3) 0, .load 8 (.t 7) none, .bin 9 .neq (.t 6) (.t 8)] [2, 3, 9]) c_laws_eqItem_0) c_laws_eqItem_5)
def a_laws_eqItem : AFn := ⟨[.val k_Item, .val k_Item], [⟨4, false, .bool⟩], (.seq (.region [.box 2 (.t 0) false, .box 3 (.t 1) false, .mv 4 (.c (.bool false))] [2, 3]) c_laws_eqItem_6)⟩
def t_laws_eqItem   (x0 : y_Item) (x1 : y_Item) : Option Bool := (if (!(x0.1.toList == x1.1.toList)) = true then (some false) else (if (!(x0.2.1.toList == x1.2.1.toList)) = true then (some false) else (if (x0.2.2 != x1.2.2) = true then (some false) else (some true))))
theorem h_laws_eqItem (cal : Cal) (x0 : y_Item) (x1 : y_Item) :
    bodyL cal a_laws_eqItem [.agg [.str x0.1, .str x0.2.1, .int .i64 x0.2.2], .agg [.str x1.1, .str x1.2.1, .int .i64 x1.2.2]] [] =
    t_laws_eqItem   x0 x1 := by kernel_rfl

/-! 188 loop.example/g00180/laws.szMemberS -/
def c_laws_szMemberS_0 : ACode := (.cond (.t 11) (.seq (.region [.mv 4 (.c (.int .i64 (-1)))] [4]) .ret) .skip)
def c_laws_szMemberS_1 : ACode := (.cond (.t 15) .skip (.exit 0))
def c_laws_szMemberS_2 : ACode := (.cond (.t 25) (.seq (.region [.mv 4 (.c (.int .i64 (-1)))] [4]) .ret) .skip)
def c_laws_szMemberS_3 : ACode := (.seq (.region [.mv 24 (.t 1), .bin 25 .lss (.t 24) (.c (.int .i64 0))] [0, 1, 5, 25]) c_laws_szMemberS_2)
def c_laws_szMemberS_4 : ACode := (.region [.mv 16 (.t 5), .bin 17 .add (.t 16) (.c (.int .i64 1)), .mv 5 (.t 17)] [0, 1, 5])
def c_laws_szMemberS_5 : ACode := (.seq (.block 1 [0, 1, 5] (.seq (.region [.mv 18 (.t 0), .mv 19 (.t 5), .idx 20 16 (.t 18) (.t 19), .load 21 (.t 20) (some 16), .mv 22 (.t 1), .call (some 23) 49 [(.t 21, .val k_Member), (.t 22, .val (.int .i64))] [(.int .i64)], .mv 1 (.t 23)] [0, 1, 5]) c_laws_szMemberS_3)) c_laws_szMemberS_4)
def c_laws_szMemberS_6 : ACode := (.seq (.seq (.region [.mv 12 (.t 5), .mv 13 (.t 0), .len 14 false (.t 13), .bin 15 .lss (.t 12) (.t 14)] [0, 1, 5, 15]) c_laws_szMemberS_1) c_laws_szMemberS_5)
def c_laws_szMemberS_7 : ACode := (.block 0 [1] (.loop [0, 1, 5] c_laws_szMemberS_6))
def c_laws_szMemberS_8 : ACode := (.seq (.region [.mv 26 (.t 1), .mv 4 (.t 26)] [4]) .ret)
def c_laws_szMemberS_9 : ACode := (.seq (.seq (.region [.mv 5 (.c (.int .i64 0))] [0, 1, 5]) c_laws_szMemberS_7) c_laws_szMemberS_8)
def c_laws_szMemberS_10 : ACode := (.seq (.seq (.region [.mv 10 (.t 1), .bin 11 .lss (.t 10) (.c (.int .i64 0))] [0, 1, 11]) c_laws_szMemberS_0) c_laws_szMemberS_9)
def c_laws_szMemberS_11 : ACode := (.seq (.region [.mv 6 (.t 1), .mv 7 (.t 0), .len 8 false (.t 7), .bin 9 .sub (.t 6) (.t 8), .mv 1 (.t 9)] [0, 1]) c_laws_szMemberS_10)
def a_laws_szMemberS : AFn := ⟨[.val (.slice k_Member), .val (.int .i64)], [⟨4, false, (.int .i64)⟩], (.seq (.region [.mv 4 (.c (.int .i64 0))] [0, 1]) c_laws_szMemberS_11)⟩
def t_laws_szMemberS_L0 (C_laws_szMember : y_Member → Int → Option Int)  (goL0 : (List y_Member) → Int → Int → Option Int) (x0 : List y_Member) (x1 : Int) (x2 : Int) : Option Int := (if (decide (x2 < (x0.length : Int))) = true then (if 0 ≤ x2 then (if x2 < (x0.length : Int) then ((C_laws_szMember (x0.getD x2.toNat ((0 : Int), (0 : Int), false, false, false, false, ([] : List Int), ([] : List y_Item), (0 : Int), (0 : Int), (0 : Int), (0 : Int), (ByteArray.empty, ByteArray.empty, (0 : Int)), ([] : List Int))) x1).bind fun y1 => (if (decide (y1 < (0 : Int))) = true then (some (-1 : Int)) else (goL0 x0 y1 (IntKind.i64.wrap (x2 + (1 : Int)))))) else none) else none) else (some x1))
def t_laws_szMemberS (C_laws_szMember : y_Member → Int → Option Int) (L0 : (List y_Member) → Int → Int → Option Int) (x0 : List y_Member) (x1 : Int) : Option Int := (if (decide ((IntKind.i64.wrap (x1 - (x0.length : Int))) < (0 : Int))) = true then (some (-1 : Int)) else (L0 x0 (IntKind.i64.wrap (x1 - (x0.length : Int))) (0 : Int)))
noncomputable def e_laws_szMemberS_L0 (cal : Cal)  (s : St) : Option (RT (AFn.outs a_laws_szMemberS)) := loopL (fun goL0 s' => codeG cal loopL c_laws_szMemberS_6 (fun s'' => goL0 (s''.cut [0, 1, 5] 0)) (retK a_laws_szMemberS) (fun i s' => if i = 0 then (fun s' => codeG cal loopL c_laws_szMemberS_8 (retK a_laws_szMemberS) (retK a_laws_szMemberS) (fun _ _ => none) s') (s'.cut [1] 0) else (fun _ _ => none) i s') s') s
theorem h_laws_szMemberS_L0 (cal : Cal) (goL0 : St → Option (RT (AFn.outs a_laws_szMemberS))) (x0 : List y_Member) (x1 : Int) (x2 : Int) :
    codeG cal loopL c_laws_szMemberS_6 (fun s'' => goL0 (s''.cut [0, 1, 5] 0)) (retK a_laws_szMemberS) (fun i s' => if i = 0 then (fun s' => codeG cal loopL c_laws_szMemberS_8 (retK a_laws_szMemberS) (retK a_laws_szMemberS) (fun _ _ => none) s') (s'.cut [1] 0) else (fun _ _ => none) i s') ⟨[(0, .lst k_Member x0), (1, .int .i64 x1), (5, .int .i64 x2)], []⟩ =
    t_laws_szMemberS_L0 (fun (q0 : y_Member) (q1 : Int) => (cal 49 [.agg [.int .i64 q0.1, .int .i64 q0.2.1, .bool q0.2.2.1, .bool q0.2.2.2.1, .bool q0.2.2.2.2.1, .bool q0.2.2.2.2.2.1, .lst (.int .i64) q0.2.2.2.2.2.2.1, .lst k_Item q0.2.2.2.2.2.2.2.1, .int .i64 q0.2.2.2.2.2.2.2.2.1, .int .i64 q0.2.2.2.2.2.2.2.2.2.1, .int .i64 q0.2.2.2.2.2.2.2.2.2.2.1, .int .i64 q0.2.2.2.2.2.2.2.2.2.2.2.1, .str q0.2.2.2.2.2.2.2.2.2.2.2.2.1.1, .str q0.2.2.2.2.2.2.2.2.2.2.2.2.1.2.1, .int .i64 q0.2.2.2.2.2.2.2.2.2.2.2.2.1.2.2, .lst (.int .i64) q0.2.2.2.2.2.2.2.2.2.2.2.2.2], .int .i64 q1] []).bind (decAll [(.int .i64)]))  (fun (x0 : List y_Member) (x1 : Int) (x2 : Int) => goL0 ⟨[(0, .lst k_Member x0), (1, .int .i64 x1), (5, .int .i64 x2)], []⟩) x0 x1 x2 := by kernel_rfl
theorem h_laws_szMemberS (cal : Cal) (x0 : List y_Member) (x1 : Int) :
    bodyL cal a_laws_szMemberS [.lst k_Member x0, .int .i64 x1] [] =
    t_laws_szMemberS (fun (q0 : y_Member) (q1 : Int) => (cal 49 [.agg [.int .i64 q0.1, .int .i64 q0.2.1, .bool q0.2.2.1, .bool q0.2.2.2.1, .bool q0.2.2.2.2.1, .bool q0.2.2.2.2.2.1, .lst (.int .i64) q0.2.2.2.2.2.2.1, .lst k_Item q0.2.2.2.2.2.2.2.1, .int .i64 q0.2.2.2.2.2.2.2.2.1, .int .i64 q0.2.2.2.2.2.2.2.2.2.1, .int .i64 q0.2.2.2.2.2.2.2.2.2.2.1, .int .i64 q0.2.2.2.2.2.2.2.2.2.2.2.1, .str q0.2.2.2.2.2.2.2.2.2.2.2.2.1.1, .str q0.2.2.2.2.2.2.2.2.2.2.2.2.1.2.1, .int .i64 q0.2.2.2.2.2.2.2.2.2.2.2.2.1.2.2, .lst (.int .i64) q0.2.2.2.2.2.2.2.2.2.2.2.2.2], .int .i64 q1] []).bind (decAll [(.int .i64)])) (fun (x0 : List y_Member) (x1 : Int) (x2 : Int) => e_laws_szMemberS_L0 cal  ⟨[(0, .lst k_Member x0), (1, .int .i64 x1), (5, .int .i64 x2)], []⟩) x0 x1 := by kernel_rfl

/-! 189 loop.example/g00180/laws.szMsgS -/
def c_laws_szMsgS_0 : ACode := (.cond (.t 11) (.seq (.region [.mv 4 (.c (.int .i64 (-1)))] [4]) .ret) .skip)
def c_laws_szMsgS_1 : ACode := (.cond (.t 15) .skip (.exit 0))
def c_laws_szMsgS_2 : ACode := (.cond (.t 25) (.seq (.region [.mv 4 (.c (.int .i64 (-1)))] [4]) .ret) .skip)
def c_laws_szMsgS_3 : ACode := (.seq (.region [.mv 24 (.t 1), .bin 25 .lss (.t 24) (.c (.int .i64 0))] [0, 1, 5, 25]) c_laws_szMsgS_2)
def c_laws_szMsgS_4 : ACode := (.region [.mv 16 (.t 5), .bin 17 .add (.t 16) (.c (.int .i64 1)), .mv 5 (.t 17)] [0, 1, 5])
def c_laws_szMsgS_5 : ACode := (.seq (.block 1 [0, 1, 5] (.seq (.region [.mv 18 (.t 0), .mv 19 (.t 5), .idx 20 6 (.t 18) (.t 19), .load 21 (.t 20) (some 6), .mv 22 (.t 1), .call (some 23) 38 [(.t 21, .val k_Msg), (.t 22, .val (.int .i64))] [(.int .i64)], .mv 1 (.t 23)] [0, 1, 5]) c_laws_szMsgS_3)) c_laws_szMsgS_4)
def c_laws_szMsgS_6 : ACode := (.seq (.seq (.region [.mv 12 (.t 5), .mv 13 (.t 0), .len 14 false (.t 13), .bin 15 .lss (.t 12) (.t 14)] [0, 1, 5, 15]) c_laws_szMsgS_1) c_laws_szMsgS_5)
def c_laws_szMsgS_7 : ACode := (.block 0 [1] (.loop [0, 1, 5] c_laws_szMsgS_6))
def c_laws_szMsgS_8 : ACode := (.seq (.region [.mv 26 (.t 1), .mv 4 (.t 26)] [4]) .ret)
def c_laws_szMsgS_9 : ACode := (.seq (.seq (.region [.mv 5 (.c (.int .i64 0))] [0, 1, 5]) c_laws_szMsgS_7) c_laws_szMsgS_8)
def c_laws_szMsgS_10 : ACode := (.seq (.seq (.region [.mv 10 (.t 1), .bin 11 .lss (.t 10) (.c (.int .i64 0))] [0, 1, 11]) c_laws_szMsgS_0) c_laws_szMsgS_9)
def c_laws_szMsgS_11 : ACode := (.seq (.region [.mv 6 (.t 1), .mv 7 (.t 0), .len 8 false (.t 7), .bin 9 .sub (.t 6) (.t 8), .mv 1 (.t 9)] [0, 1]) c_laws_szMsgS_10)
def a_laws_szMsgS : AFn := ⟨[.val (.slice k_Msg), .val (.int .i64)], [⟨4, false, (.int .i64)⟩], (.seq (.region [.mv 4 (.c (.int .i64 0))] [0, 1]) c_laws_szMsgS_11)⟩
def t_laws_szMsgS_L0 (C_laws_szMsg : y_Msg → Int → Option Int)  (goL0 : (List y_Msg) → Int → Int → Option Int) (x0 : List y_Msg) (x1 : Int) (x2 : Int) : Option Int := (if (decide (x2 < (x0.length : Int))) = true then (if 0 ≤ x2 then (if x2 < (x0.length : Int) then ((C_laws_szMsg (x0.getD x2.toNat ((0 : Int), (0 : Int), (0 : Int), (0 : Int), (0 : Int), ([] : List y_Item))) x1).bind fun y1 => (if (decide (y1 < (0 : Int))) = true then (some (-1 : Int)) else (goL0 x0 y1 (IntKind.i64.wrap (x2 + (1 : Int)))))) else none) else none) else (some x1))
def t_laws_szMsgS (C_laws_szMsg : y_Msg → Int → Option Int) (L0 : (List y_Msg) → Int → Int → Option Int) (x0 : List y_Msg) (x1 : Int) : Option Int := (if (decide ((IntKind.i64.wrap (x1 - (x0.length : Int))) < (0 : Int))) = true then (some (-1 : Int)) else (L0 x0 (IntKind.i64.wrap (x1 - (x0.length : Int))) (0 : Int)))
noncomputable def e_laws_szMsgS_L0 (cal : Cal)  (s : St) : Option (RT (AFn.outs a_laws_szMsgS)) := loopL (fun goL0 s' => codeG cal loopL c_laws_szMsgS_6 (fun s'' => goL0 (s''.cut [0, 1, 5] 0)) (retK a_laws_szMsgS) (fun i s' => if i = 0 then (fun s' => codeG cal loopL c_laws_szMsgS_8 (retK a_laws_szMsgS) (retK a_laws_szMsgS) (fun _ _ => none) s') (s'.cut [1] 0) else (fun _ _ => none) i s') s') s
theorem h_laws_szMsgS_L0 (cal : Cal) (goL0 : St → Option (RT (AFn.outs a_laws_szMsgS))) (x0 : List y_Msg) (x1 : Int) (x2 : Int) :
    codeG cal loopL c_laws_szMsgS_6 (fun s'' => goL0 (s''.cut [0, 1, 5] 0)) (retK a_laws_szMsgS) (fun i s' => if i = 0 then (fun s' => codeG cal loopL c_laws_szMsgS_8 (retK a_laws_szMsgS) (retK a_laws_szMsgS) (fun _ _ => none) s') (s'.cut [1] 0) else (fun _ _ => none) i s') ⟨[(0, .lst k_Msg x0), (1, .int .i64 x1), (5, .int .i64 x2)], []⟩ =
    t_laws_szMsgS_L0 (fun (q0 : y_Msg) (q1 : Int) => (cal 38 [.agg [.int .i64 q0.1, .int .i64 q0.2.1, .int .i64 q0.2.2.1, .int .i64 q0.2.2.2.1, .int .i64 q0.2.2.2.2.1, .lst k_Item q0.2.2.2.2.2], .int .i64 q1] []).bind (decAll [(.int .i64)]))  (fun (x0 : List y_Msg) (x1 : Int) (x2 : Int) => goL0 ⟨[(0, .lst k_Msg x0), (1, .int .i64 x1), (5, .int .i64 x2)], []⟩) x0 x1 x2 := by kernel_rfl
theorem h_laws_szMsgS (cal : Cal) (x0 : List y_Msg) (x1 : Int) :
    bodyL cal a_laws_szMsgS [.lst k_Msg x0, .int .i64 x1] [] =
    t_laws_szMsgS (fun (q0 : y_Msg) (q1 : Int) => (cal 38 [.agg [.int .i64 q0.1, .int .i64 q0.2.1, .int .i64 q0.2.2.1, .int .i64 q0.2.2.2.1, .int .i64 q0.2.2.2.2.1, .lst k_Item q0.2.2.2.2.2], .int .i64 q1] []).bind (decAll [(.int .i64)])) (fun (x0 : List y_Msg) (x1 : Int) (x2 : Int) => e_laws_szMsgS_L0 cal  ⟨[(0, .lst k_Msg x0), (1, .int .i64 x1), (5, .int .i64 x2)], []⟩) x0 x1 := by kernel_rfl

/-! 190 loop.example/g00180/laws.toMemberS -/
def c_laws_toMemberS_0 : ACode := (.cond (.t 11) .skip (.exit 0))
def c_laws_toMemberS_1 : ACode := (.region [.mv 12 (.t 4), .bin 13 .add (.t 12) (.c (.int .i64 1)), .mv 4 (.t 13)] [0, 3, 4])
def c_laws_toMemberS_2 : ACode := (.seq (.block 1 [0, 3, 4] (.region [.mv 14 (.t 3), .mv 15 (.t 4), .mv 16 (.t 0), .mv 17 (.t 4), .idx 18 16 (.t 16) (.t 17), .load 19 (.t 18) (some 16), .call (some 20) 51 [(.t 19, .val k_Member)] [k_Member], .idx 21 16 (.t 14) (.t 15), .store (.t 21) (.t 20) 16 false] [0, 3, 4])) c_laws_toMemberS_1)
def c_laws_toMemberS_3 : ACode := (.seq (.seq (.region [.mv 8 (.t 4), .mv 9 (.t 0), .len 10 false (.t 9), .bin 11 .lss (.t 8) (.t 10)] [0, 3, 4, 11]) c_laws_toMemberS_0) c_laws_toMemberS_2)
def c_laws_toMemberS_4 : ACode := (.block 0 [3] (.loop [0, 3, 4] c_laws_toMemberS_3))
def c_laws_toMemberS_5 : ACode := (.seq (.region [.mv 22 (.t 3), .mv 2 (.t 22)] [2]) .ret)
def c_laws_toMemberS_6 : ACode := (.seq (.seq (.region [.mv 4 (.c (.int .i64 0))] [0, 3, 4]) c_laws_toMemberS_4) c_laws_toMemberS_5)
def c_laws_toMemberS_7 : ACode := (.seq (.region [.mv 5 (.t 0), .len 6 false (.t 5), .mk 7 89 k_Member (.t 6), .mv 3 (.t 7)] [0, 3]) c_laws_toMemberS_6)
def a_laws_toMemberS : AFn := ⟨[.val (.slice k_Member)], [⟨2, false, (.slice k_Member)⟩], (.seq (.region [.mv 2 (.c (.nil))] [0]) c_laws_toMemberS_7)⟩
def t_laws_toMemberS_L0 (C_laws_toMember : y_Member → Option y_Member)  (goL0 : (List y_Member) → Int → (List y_Member) → Option (List y_Member)) (x0 : List y_Member) (x1 : Int) (x2 : List y_Member) : Option (List y_Member) := (if (decide (x1 < (x0.length : Int))) = true then (if 0 ≤ x1 then (if x1 < (x0.length : Int) then ((C_laws_toMember (x0.getD x1.toNat ((0 : Int), (0 : Int), false, false, false, false, ([] : List Int), ([] : List y_Item), (0 : Int), (0 : Int), (0 : Int), (0 : Int), (ByteArray.empty, ByteArray.empty, (0 : Int)), ([] : List Int)))).bind fun y1 => (if 0 ≤ x1 then (if x1 < (x2.length : Int) then (let z2 : List y_Member := x2.set x1.toNat y1; (goL0 x0 (IntKind.i64.wrap (x1 + (1 : Int))) z2)) else none) else none)) else none) else none) else (some x2))
def t_laws_toMemberS (C_laws_toMember : y_Member → Option y_Member) (L0 : (List y_Member) → Int → (List y_Member) → Option (List y_Member)) (x0 : List y_Member) : Option (List y_Member) := (if 0 ≤ (x0.length : Int) then (if (x0.length : Int) ≤ 68719476736 then (L0 x0 (0 : Int) (List.replicate (x0.length : Int).toNat ((0 : Int), (0 : Int), false, false, false, false, ([] : List Int), ([] : List y_Item), (0 : Int), (0 : Int), (0 : Int), (0 : Int), (ByteArray.empty, ByteArray.empty, (0 : Int)), ([] : List Int)))) else none) else none)
noncomputable def e_laws_toMemberS_L0 (cal : Cal)  (s : St) : Option (RT (AFn.outs a_laws_toMemberS)) := loopL (fun goL0 s' => codeG cal loopL c_laws_toMemberS_3 (fun s'' => goL0 (s''.cut [0, 3, 4] 1)) (retK a_laws_toMemberS) (fun i s' => if i = 0 then (fun s' => codeG cal loopL c_laws_toMemberS_5 (retK a_laws_toMemberS) (retK a_laws_toMemberS) (fun _ _ => none) s') (s'.cut [3] 1) else (fun _ _ => none) i s') s') s
theorem h_laws_toMemberS_L0 (cal : Cal) (goL0 : St → Option (RT (AFn.outs a_laws_toMemberS))) (x0 : List y_Member) (x1 : Int) (x2 : List y_Member) :
    codeG cal loopL c_laws_toMemberS_3 (fun s'' => goL0 (s''.cut [0, 3, 4] 1)) (retK a_laws_toMemberS) (fun i s' => if i = 0 then (fun s' => codeG cal loopL c_laws_toMemberS_5 (retK a_laws_toMemberS) (retK a_laws_toMemberS) (fun _ _ => none) s') (s'.cut [3] 1) else (fun _ _ => none) i s') ⟨[(0, .lst k_Member x0), (3, .row 0), (4, .int .i64 x1)], [.rows 89 k_Member x2]⟩ =
    t_laws_toMemberS_L0 (fun (q0 : y_Member) => (cal 51 [.agg [.int .i64 q0.1, .int .i64 q0.2.1, .bool q0.2.2.1, .bool q0.2.2.2.1, .bool q0.2.2.2.2.1, .bool q0.2.2.2.2.2.1, .lst (.int .i64) q0.2.2.2.2.2.2.1, .lst k_Item q0.2.2.2.2.2.2.2.1, .int .i64 q0.2.2.2.2.2.2.2.2.1, .int .i64 q0.2.2.2.2.2.2.2.2.2.1, .int .i64 q0.2.2.2.2.2.2.2.2.2.2.1, .int .i64 q0.2.2.2.2.2.2.2.2.2.2.2.1, .str q0.2.2.2.2.2.2.2.2.2.2.2.2.1.1, .str q0.2.2.2.2.2.2.2.2.2.2.2.2.1.2.1, .int .i64 q0.2.2.2.2.2.2.2.2.2.2.2.2.1.2.2, .lst (.int .i64) q0.2.2.2.2.2.2.2.2.2.2.2.2.2]] []).bind (decAll [k_Member]))  (fun (x0 : List y_Member) (x1 : Int) (x2 : List y_Member) => goL0 ⟨[(0, .lst k_Member x0), (3, .row 0), (4, .int .i64 x1)], [.rows 89 k_Member x2]⟩) x0 x1 x2 := by kernel_rfl
theorem h_laws_toMemberS (cal : Cal) (x0 : List y_Member) :
    bodyL cal a_laws_toMemberS [.lst k_Member x0] [] =
    t_laws_toMemberS (fun (q0 : y_Member) => (cal 51 [.agg [.int .i64 q0.1, .int .i64 q0.2.1, .bool q0.2.2.1, .bool q0.2.2.2.1, .bool q0.2.2.2.2.1, .bool q0.2.2.2.2.2.1, .lst (.int .i64) q0.2.2.2.2.2.2.1, .lst k_Item q0.2.2.2.2.2.2.2.1, .int .i64 q0.2.2.2.2.2.2.2.2.1, .int .i64 q0.2.2.2.2.2.2.2.2.2.1, .int .i64 q0.2.2.2.2.2.2.2.2.2.2.1, .int .i64 q0.2.2.2.2.2.2.2.2.2.2.2.1, .str q0.2.2.2.2.2.2.2.2.2.2.2.2.1.1, .str q0.2.2.2.2.2.2.2.2.2.2.2.2.1.2.1, .int .i64 q0.2.2.2.2.2.2.2.2.2.2.2.2.1.2.2, .lst (.int .i64) q0.2.2.2.2.2.2.2.2.2.2.2.2.2]] []).bind (decAll [k_Member])) (fun (x0 : List y_Member) (x1 : Int) (x2 : List y_Member) => e_laws_toMemberS_L0 cal  ⟨[(0, .lst k_Member x0), (3, .row 0), (4, .int .i64 x1)], [.rows 89 k_Member x2]⟩) x0 := by kernel_rfl

/-! 191 loop.example/g00180/laws.toMsgS -/
def c_laws_toMsgS_0 : ACode := (.cond (.t 11) .skip (.exit 0))
def c_laws_toMsgS_1 : ACode := (.region [.mv 12 (.t 4), .bin 13 .add (.t 12) (.c (.int .i64 1)), .mv 4 (.t 13)] [0, 3, 4])
def c_laws_toMsgS_2 : ACode := (.seq (.block 1 [0, 3, 4] (.region [.mv 14 (.t 3), .mv 15 (.t 4), .mv 16 (.t 0), .mv 17 (.t 4), .idx 18 6 (.t 16) (.t 17), .load 19 (.t 18) (some 6), .call (some 20) 40 [(.t 19, .val k_Msg)] [k_Msg], .idx 21 6 (.t 14) (.t 15), .store (.t 21) (.t 20) 6 false] [0, 3, 4])) c_laws_toMsgS_1)
def c_laws_toMsgS_3 : ACode := (.seq (.seq (.region [.mv 8 (.t 4), .mv 9 (.t 0), .len 10 false (.t 9), .bin 11 .lss (.t 8) (.t 10)] [0, 3, 4, 11]) c_laws_toMsgS_0) c_laws_toMsgS_2)
def c_laws_toMsgS_4 : ACode := (.block 0 [3] (.loop [0, 3, 4] c_laws_toMsgS_3))
def c_laws_toMsgS_5 : ACode := (.seq (.region [.mv 22 (.t 3), .mv 2 (.t 22)] [2]) .ret)
def c_laws_toMsgS_6 : ACode := (.seq (.seq (.region [.mv 4 (.c (.int .i64 0))] [0, 3, 4]) c_laws_toMsgS_4) c_laws_toMsgS_5)
def c_laws_toMsgS_7 : ACode := (.seq (.region [.mv 5 (.t 0), .len 6 false (.t 5), .mk 7 68 k_Msg (.t 6), .mv 3 (.t 7)] [0, 3]) c_laws_toMsgS_6)
def a_laws_toMsgS : AFn := ⟨[.val (.slice k_Msg)], [⟨2, false, (.slice k_Msg)⟩], (.seq (.region [.mv 2 (.c (.nil))] [0]) c_laws_toMsgS_7)⟩
def t_laws_toMsgS_L0 (C_laws_toMsg : y_Msg → Option y_Msg)  (goL0 : (List y_Msg) → Int → (List y_Msg) → Option (List y_Msg)) (x0 : List y_Msg) (x1 : Int) (x2 : List y_Msg) : Option (List y_Msg) := (if (decide (x1 < (x0.length : Int))) = true then (if 0 ≤ x1 then (if x1 < (x0.length : Int) then ((C_laws_toMsg (x0.getD x1.toNat ((0 : Int), (0 : Int), (0 : Int), (0 : Int), (0 : Int), ([] : List y_Item)))).bind fun y1 => (if 0 ≤ x1 then (if x1 < (x2.length : Int) then (let z2 : List y_Msg := x2.set x1.toNat y1; (goL0 x0 (IntKind.i64.wrap (x1 + (1 : Int))) z2)) else none) else none)) else none) else none) else (some x2))
def t_laws_toMsgS (C_laws_toMsg : y_Msg → Option y_Msg) (L0 : (List y_Msg) → Int → (List y_Msg) → Option (List y_Msg)) (x0 : List y_Msg) : Option (List y_Msg) := (if 0 ≤ (x0.length : Int) then (if (x0.length : Int) ≤ 68719476736 then (L0 x0 (0 : Int) (List.replicate (x0.length : Int).toNat ((0 : Int), (0 : Int), (0 : Int), (0 : Int), (0 : Int), ([] : List y_Item)))) else none) else none)
noncomputable def e_laws_toMsgS_L0 (cal : Cal)  (s : St) : Option (RT (AFn.outs a_laws_toMsgS)) := loopL (fun goL0 s' => codeG cal loopL c_laws_toMsgS_3 (fun s'' => goL0 (s''.cut [0, 3, 4] 1)) (retK a_laws_toMsgS) (fun i s' => if i = 0 then (fun s' => codeG cal loopL c_laws_toMsgS_5 (retK a_laws_toMsgS) (retK a_laws_toMsgS) (fun _ _ => none) s') (s'.cut [3] 1) else (fun _ _ => none) i s') s') s
theorem h_laws_toMsgS_L0 (cal : Cal) (goL0 : St → Option (RT (AFn.outs a_laws_toMsgS))) (x0 : List y_Msg) (x1 : Int) (x2 : List y_Msg) :
    codeG cal loopL c_laws_toMsgS_3 (fun s'' => goL0 (s''.cut [0, 3, 4] 1)) (retK a_laws_toMsgS) (fun i s' => if i = 0 then (fun s' => codeG cal loopL c_laws_toMsgS_5 (retK a_laws_toMsgS) (retK a_laws_toMsgS) (fun _ _ => none) s') (s'.cut [3] 1) else (fun _ _ => none) i s') ⟨[(0, .lst k_Msg x0), (3, .row 0), (4, .int .i64 x1)], [.rows 68 k_Msg x2]⟩ =
    t_laws_toMsgS_L0 (fun (q0 : y_Msg) => (cal 40 [.agg [.int .i64 q0.1, .int .i64 q0.2.1, .int .i64 q0.2.2.1, .int .i64 q0.2.2.2.1, .int .i64 q0.2.2.2.2.1, .lst k_Item q0.2.2.2.2.2]] []).bind (decAll [k_Msg]))  (fun (x0 : List y_Msg) (x1 : Int) (x2 : List y_Msg) => goL0 ⟨[(0, .lst k_Msg x0), (3, .row 0), (4, .int .i64 x1)], [.rows 68 k_Msg x2]⟩) x0 x1 x2 := by kernel_rfl
theorem h_laws_toMsgS (cal : Cal) (x0 : List y_Msg) :
    bodyL cal a_laws_toMsgS [.lst k_Msg x0] [] =
    t_laws_toMsgS (fun (q0 : y_Msg) => (cal 40 [.agg [.int .i64 q0.1, .int .i64 q0.2.1, .int .i64 q0.2.2.1, .int .i64 q0.2.2.2.1, .int .i64 q0.2.2.2.2.1, .lst k_Item q0.2.2.2.2.2]] []).bind (decAll [k_Msg])) (fun (x0 : List y_Msg) (x1 : Int) (x2 : List y_Msg) => e_laws_toMsgS_L0 cal  ⟨[(0, .lst k_Msg x0), (3, .row 0), (4, .int .i64 x1)], [.rows 68 k_Msg x2]⟩) x0 := by kernel_rfl

/-! 192 (*loop.example/g00180/impl.Group).view -/
def c_impl_Group_view_0 : ACode := (.cond (.t 12) (.seq (.region [.mv 4 (.c (.nil))] [4]) .ret) .skip)
def c_impl_Group_view_1 : ACode := (.seq (.region [.mv 13 (.t 0), .nilc 14 (.t 13), .fld 15 (.t 14) 0, .load 16 (.t 15) none, .mv 17 (.t 1), .bin 18 .sub (.t 17) (.c (.int .i64 1)), .idx 19 1 (.t 16) (.t 18), .load 20 (.t 19) none, .mv 4 (.t 20)] [4]) .ret)
def c_impl_Group_view_2 : ACode := (.seq (.seq (.region [.mv 5 (.t 1), .mv 6 (.t 0), .nilc 7 (.t 6), .fld 8 (.t 7) 0, .load 9 (.t 8) none, .len 10 false (.t 9), .call (some 11) 105 [(.t 5, .val (.int .i64)), (.c (.int .i64 1), .val (.int .i64)), (.t 10, .val (.int .i64))] [.bool], .un 12 .not (.t 11)] [0, 1, 12]) c_impl_Group_view_0) c_impl_Group_view_1)
def a_impl_Group_view : AFn := ⟨[.ptr k_Group, .val (.int .i64)], [⟨4, false, (.slice (.int .i64))⟩], (.seq (.region [.mv 4 (.c (.nil))] [0, 1]) c_impl_Group_view_2)⟩
def t_impl_Group_view (C_impl_inRange : Int → Int → Int → Option Bool)  (x1 : Int) (b0 : y_Group) : Option (List Int × y_Group) := ((C_impl_inRange x1 (1 : Int) (b0.1.length : Int)).bind fun y1 => (if (!y1) = true then (some ([], b0)) else (if 0 ≤ (IntKind.i64.wrap (x1 - (1 : Int))) then (if (IntKind.i64.wrap (x1 - (1 : Int))) < (b0.1.length : Int) then (some ((b0.1.getD (IntKind.i64.wrap (x1 - (1 : Int))).toNat ([] : List Int)), b0)) else none) else none)))
theorem h_impl_Group_view (cal : Cal) (x1 : Int) (b0 : y_Group) :
    bodyL cal a_impl_Group_view [.ptr 0 0, .int .i64 x1] [.agg [.lst (.slice (.int .i64)) b0.1, .lst k_Member b0.2.1, .lst k_Msg b0.2.2.1, .lst k_Call b0.2.2.2]] =
    t_impl_Group_view (fun (q0 : Int) (q1 : Int) (q2 : Int) => (cal 105 [.int .i64 q0, .int .i64 q1, .int .i64 q2] []).bind (decAll [.bool]))  x1 b0 := by kernel_rfl

/-! 193 loop.example/g00180/laws.eqMemberS -/
def c_laws_eqMemberS_0 : ACode := (.cond (.t 10) (.seq (.region [.mv 4 (.c (.bool false))] [4]) .ret) .skip)
def c_laws_eqMemberS_1 : ACode := (.cond (.t 14) .skip (.exit 0))
def c_laws_eqMemberS_2 : ACode := (.cond (.t 26) (.seq (.region [.mv 4 (.c (.bool false))] [4]) .ret) .skip)
def c_laws_eqMemberS_3 : ACode := (.region [.mv 15 (.t 5), .bin 16 .add (.t 15) (.c (.int .i64 1)), .mv 5 (.t 16)] [0, 1, 5])
def c_laws_eqMemberS_4 : ACode := (.seq (.block 1 [0, 1, 5] (.seq (.draw [[], [], [0, 1], [0, 1, 2], [], [], [4, 5], [4, 5, 6], [0, 1, 2, 3, 4, 5, 6, 7], [0, 1, 2, 3, 4, 5, 6, 7, 8]] (.take 0 none (.mv 17 (.t 0)) (.take 1 none (.mv 18 (.t 5)) (.take 2 none (.idx 19 16 (.t 17) (.t 18)) (.take 3 none (.load 20 (.t 19) (some 16)) (.take 4 none (.mv 21 (.t 1)) (.take 5 none (.mv 22 (.t 5)) (.take 6 none (.idx 23 16 (.t 21) (.t 22)) (.take 7 none (.load 24 (.t 23) (some 16)) (.only 8 none (.call (some 25) 53 [(.t 20, .val k_Member), (.t 24, .val k_Member)] [.bool]) [] (.take 9 none (.un 26 .not (.t 25)) .done)))))))))) [0, 1, 5, 26]) c_laws_eqMemberS_2)) c_laws_eqMemberS_3)
def c_laws_eqMemberS_5 : ACode := (.seq (.seq (.region [.mv 11 (.t 5), .mv 12 (.t 0), .len 13 false (.t 12), .bin 14 .lss (.t 11) (.t 13)] [0, 1, 5, 14]) c_laws_eqMemberS_1) c_laws_eqMemberS_4)
def c_laws_eqMemberS_6 : ACode := (.block 0 [] (.loop [0, 1, 5] c_laws_eqMemberS_5))
def c_laws_eqMemberS_7 : ACode := (.seq (.region [.mv 4 (.c (.bool true))] [4]) .ret)
def c_laws_eqMemberS_8 : ACode := (.seq (.seq (.region [.mv 5 (.c (.int .i64 0))] [0, 1, 5]) c_laws_eqMemberS_6) c_laws_eqMemberS_7)
def c_laws_eqMemberS_9 : ACode := (.seq (.seq (.region [.mv 6 (.t 0), .len 7 false (.t 6), .mv 8 (.t 1), .len 9 false (.t 8), .bin 10 .neq (.t 7) (.t 9)] [0, 1, 10]) c_laws_eqMemberS_0) c_laws_eqMemberS_8)
def a_laws_eqMemberS : AFn := ⟨[.val (.slice k_Member), .val (.slice k_Member)], [⟨4, false, .bool⟩], (.seq (.region [.mv 4 (.c (.bool false))] [0, 1]) c_laws_eqMemberS_9)⟩
def t_laws_eqMemberS_L0 (C_laws_eqMember : y_Member → y_Member → Option Bool)  (goL0 : (List y_Member) → (List y_Member) → Int → Option Bool) (x0 : List y_Member) (x1 : List y_Member) (x2 : Int) : Option Bool := (if (decide (x2 < (x0.length : Int))) = true then (if 0 ≤ x2 then (if x2 < (x0.length : Int) then (if 0 ≤ x2 then (if x2 < (x1.length : Int) then ((C_laws_eqMember (x0.getD x2.toNat ((0 : Int), (0 : Int), false, false, false, false, ([] : List Int), ([] : List y_Item), (0 : Int), (0 : Int), (0 : Int), (0 : Int), (ByteArray.empty, ByteArray.empty, (0 : Int)), ([] : List Int))) (x1.getD x2.toNat ((0 : Int), (0 : Int), false, false, false, false, ([] : List Int), ([] : List y_Item), (0 : Int), (0 : Int), (0 : Int), (0 : Int), (ByteArray.empty, ByteArray.empty, (0 : Int)), ([] : List Int)))).bind fun y1 => (if (!y1) = true then (some false) else (goL0 x0 x1 (IntKind.i64.wrap (x2 + (1 : Int)))))) else none) else none) else none) else none) else (some true))
def t_laws_eqMemberS (C_laws_eqMember : y_Member → y_Member → Option Bool) (L0 : (List y_Member) → (List y_Member) → Int → Option Bool) (x0 : List y_Member) (x1 : List y_Member) : Option Bool := (if ((x0.length : Int) != (x1.length : Int)) = true then (some false) else (L0 x0 x1 (0 : Int)))
noncomputable def e_laws_eqMemberS_L0 (cal : Cal)  (s : St) : Option (RT (AFn.outs a_laws_eqMemberS)) := loopL (fun goL0 s' => codeG cal loopL c_laws_eqMemberS_5 (fun s'' => goL0 (s''.cut [0, 1, 5] 0)) (retK a_laws_eqMemberS) (fun i s' => if i = 0 then (fun s' => codeG cal loopL c_laws_eqMemberS_7 (retK a_laws_eqMemberS) (retK a_laws_eqMemberS) (fun _ _ => none) s') (s'.cut [] 0) else (fun _ _ => none) i s') s') s
theorem h_laws_eqMemberS_L0 (cal : Cal) (goL0 : St → Option (RT (AFn.outs a_laws_eqMemberS))) (x0 : List y_Member) (x1 : List y_Member) (x2 : Int) :
    codeG cal loopL c_laws_eqMemberS_5 (fun s'' => goL0 (s''.cut [0, 1, 5] 0)) (retK a_laws_eqMemberS) (fun i s' => if i = 0 then (fun s' => codeG cal loopL c_laws_eqMemberS_7 (retK a_laws_eqMemberS) (retK a_laws_eqMemberS) (fun _ _ => none) s') (s'.cut [] 0) else (fun _ _ => none) i s') ⟨[(0, .lst k_Member x0), (1, .lst k_Member x1), (5, .int .i64 x2)], []⟩ =
    t_laws_eqMemberS_L0 (fun (q0 : y_Member) (q1 : y_Member) => (cal 53 [.agg [.int .i64 q0.1, .int .i64 q0.2.1, .bool q0.2.2.1, .bool q0.2.2.2.1, .bool q0.2.2.2.2.1, .bool q0.2.2.2.2.2.1, .lst (.int .i64) q0.2.2.2.2.2.2.1, .lst k_Item q0.2.2.2.2.2.2.2.1, .int .i64 q0.2.2.2.2.2.2.2.2.1, .int .i64 q0.2.2.2.2.2.2.2.2.2.1, .int .i64 q0.2.2.2.2.2.2.2.2.2.2.1, .int .i64 q0.2.2.2.2.2.2.2.2.2.2.2.1, .str q0.2.2.2.2.2.2.2.2.2.2.2.2.1.1, .str q0.2.2.2.2.2.2.2.2.2.2.2.2.1.2.1, .int .i64 q0.2.2.2.2.2.2.2.2.2.2.2.2.1.2.2, .lst (.int .i64) q0.2.2.2.2.2.2.2.2.2.2.2.2.2], .agg [.int .i64 q1.1, .int .i64 q1.2.1, .bool q1.2.2.1, .bool q1.2.2.2.1, .bool q1.2.2.2.2.1, .bool q1.2.2.2.2.2.1, .lst (.int .i64) q1.2.2.2.2.2.2.1, .lst k_Item q1.2.2.2.2.2.2.2.1, .int .i64 q1.2.2.2.2.2.2.2.2.1, .int .i64 q1.2.2.2.2.2.2.2.2.2.1, .int .i64 q1.2.2.2.2.2.2.2.2.2.2.1, .int .i64 q1.2.2.2.2.2.2.2.2.2.2.2.1, .str q1.2.2.2.2.2.2.2.2.2.2.2.2.1.1, .str q1.2.2.2.2.2.2.2.2.2.2.2.2.1.2.1, .int .i64 q1.2.2.2.2.2.2.2.2.2.2.2.2.1.2.2, .lst (.int .i64) q1.2.2.2.2.2.2.2.2.2.2.2.2.2]] []).bind (decAll [.bool]))  (fun (x0 : List y_Member) (x1 : List y_Member) (x2 : Int) => goL0 ⟨[(0, .lst k_Member x0), (1, .lst k_Member x1), (5, .int .i64 x2)], []⟩) x0 x1 x2 := by kernel_rfl
theorem h_laws_eqMemberS (cal : Cal) (x0 : List y_Member) (x1 : List y_Member) :
    bodyL cal a_laws_eqMemberS [.lst k_Member x0, .lst k_Member x1] [] =
    t_laws_eqMemberS (fun (q0 : y_Member) (q1 : y_Member) => (cal 53 [.agg [.int .i64 q0.1, .int .i64 q0.2.1, .bool q0.2.2.1, .bool q0.2.2.2.1, .bool q0.2.2.2.2.1, .bool q0.2.2.2.2.2.1, .lst (.int .i64) q0.2.2.2.2.2.2.1, .lst k_Item q0.2.2.2.2.2.2.2.1, .int .i64 q0.2.2.2.2.2.2.2.2.1, .int .i64 q0.2.2.2.2.2.2.2.2.2.1, .int .i64 q0.2.2.2.2.2.2.2.2.2.2.1, .int .i64 q0.2.2.2.2.2.2.2.2.2.2.2.1, .str q0.2.2.2.2.2.2.2.2.2.2.2.2.1.1, .str q0.2.2.2.2.2.2.2.2.2.2.2.2.1.2.1, .int .i64 q0.2.2.2.2.2.2.2.2.2.2.2.2.1.2.2, .lst (.int .i64) q0.2.2.2.2.2.2.2.2.2.2.2.2.2], .agg [.int .i64 q1.1, .int .i64 q1.2.1, .bool q1.2.2.1, .bool q1.2.2.2.1, .bool q1.2.2.2.2.1, .bool q1.2.2.2.2.2.1, .lst (.int .i64) q1.2.2.2.2.2.2.1, .lst k_Item q1.2.2.2.2.2.2.2.1, .int .i64 q1.2.2.2.2.2.2.2.2.1, .int .i64 q1.2.2.2.2.2.2.2.2.2.1, .int .i64 q1.2.2.2.2.2.2.2.2.2.2.1, .int .i64 q1.2.2.2.2.2.2.2.2.2.2.2.1, .str q1.2.2.2.2.2.2.2.2.2.2.2.2.1.1, .str q1.2.2.2.2.2.2.2.2.2.2.2.2.1.2.1, .int .i64 q1.2.2.2.2.2.2.2.2.2.2.2.2.1.2.2, .lst (.int .i64) q1.2.2.2.2.2.2.2.2.2.2.2.2.2]] []).bind (decAll [.bool])) (fun (x0 : List y_Member) (x1 : List y_Member) (x2 : Int) => e_laws_eqMemberS_L0 cal  ⟨[(0, .lst k_Member x0), (1, .lst k_Member x1), (5, .int .i64 x2)], []⟩) x0 x1 := by kernel_rfl
end Go.Proofs.Ytnbfkndicldppaa.Core
