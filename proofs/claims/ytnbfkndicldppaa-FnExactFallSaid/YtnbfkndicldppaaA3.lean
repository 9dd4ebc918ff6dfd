/- Code and typed functions. Written by a program of this part. -/
import Derived.Test.YtnbfkndicldppaaKinds
namespace Go.Proofs.Ytnbfkndicldppaa.Core
open Go
set_option linter.unusedVariables false
set_option maxRecDepth 100000

/-! 142 loop.example/g00180/laws.toIntS -/
def c_laws_toIntS_0 : ACode := (.cond (.t 11) .skip (.exit 0))
def c_laws_toIntS_1 : ACode := (.region [.mv 12 (.t 4), .bin 13 .add (.t 12) (.c (.int .i64 1)), .mv 4 (.t 13)] [0, 3, 4])
def c_laws_toIntS_2 : ACode := (.seq (.block 1 [0, 3, 4] (.region [.mv 14 (.t 3), .mv 15 (.t 4), .mv 16 (.t 0), .mv 17 (.t 4), .idx 18 1 (.t 16) (.t 17), .load 19 (.t 18) none, .idx 20 1 (.t 14) (.t 15), .store (.t 20) (.t 19) 1 false] [0, 3, 4])) c_laws_toIntS_1)
def c_laws_toIntS_3 : ACode := (.seq (.seq (.region [.mv 8 (.t 4), .mv 9 (.t 0), .len 10 false (.t 9), .bin 11 .lss (.t 8) (.t 10)] [0, 3, 4, 11]) c_laws_toIntS_0) c_laws_toIntS_2)
def c_laws_toIntS_4 : ACode := (.block 0 [3] (.loop [0, 3, 4] c_laws_toIntS_3))
def c_laws_toIntS_5 : ACode := (.seq (.region [.mv 21 (.t 3), .mv 2 (.t 21)] [2]) .ret)
def c_laws_toIntS_6 : ACode := (.seq (.seq (.region [.mv 4 (.c (.int .i64 0))] [0, 3, 4]) c_laws_toIntS_4) c_laws_toIntS_5)
def c_laws_toIntS_7 : ACode := (.seq (.region [.mv 5 (.t 0), .len 6 false (.t 5), .mk 7 3 (.int .i64) (.t 6), .mv 3 (.t 7)] [0, 3]) c_laws_toIntS_6)
def a_laws_toIntS : AFn := ⟨[.val (.slice (.int .i64))], [⟨2, false, (.own 3 (.int .i64))⟩], (.seq (.region [.mv 2 (.c (.nil))] [0]) c_laws_toIntS_7)⟩
def t_laws_toIntS_L0   (goL0 : (List Int) → Int → (List Int) → Option (List Int)) (x0 : List Int) (x1 : Int) (x2 : List Int) : Option (List Int) := (if (decide (x1 < (x0.length : Int))) = true then (if 0 ≤ x1 then (if x1 < (x0.length : Int) then (if 0 ≤ x1 then (if x1 < (x2.length : Int) then (let z1 : List Int := x2.set x1.toNat (x0.getD x1.toNat (0 : Int)); (goL0 x0 (IntKind.i64.wrap (x1 + (1 : Int))) z1)) else none) else none) else none) else none) else (some x2))
def t_laws_toIntS  (L0 : (List Int) → Int → (List Int) → Option (List Int)) (x0 : List Int) : Option (List Int) := (if 0 ≤ (x0.length : Int) then (if (x0.length : Int) ≤ 68719476736 then (L0 x0 (0 : Int) (List.replicate (x0.length : Int).toNat (0 : Int))) else none) else none)
noncomputable def e_laws_toIntS_L0 (cal : Cal)  (s : St) : Option (RT (AFn.outs a_laws_toIntS)) := loopL (fun goL0 s' => codeG cal loopL c_laws_toIntS_3 (fun s'' => goL0 (s''.cutH [(3, 0)] [0, 3, 4] 1)) (retK a_laws_toIntS) (fun i s' => if i = 0 then (fun s' => codeG cal loopL c_laws_toIntS_5 (retK a_laws_toIntS) (retK a_laws_toIntS) (fun _ _ => none) s') (s'.cutH [(3, 0)] [3] 1) else (fun _ _ => none) i s') s') s
theorem h_laws_toIntS_L0 (cal : Cal) (goL0 : St → Option (RT (AFn.outs a_laws_toIntS))) (x0 : List Int) (x1 : Int) (x2 : List Int) :
    codeG cal loopL c_laws_toIntS_3 (fun s'' => goL0 (s''.cutH [(3, 0)] [0, 3, 4] 1)) (retK a_laws_toIntS) (fun i s' => if i = 0 then (fun s' => codeG cal loopL c_laws_toIntS_5 (retK a_laws_toIntS) (retK a_laws_toIntS) (fun _ _ => none) s') (s'.cutH [(3, 0)] [3] 1) else (fun _ _ => none) i s') ⟨[(0, .lst (.int .i64) x0), (3, .row 0), (4, .int .i64 x1)], [.rows 3 (.int .i64) x2]⟩ =
    t_laws_toIntS_L0   (fun (x0 : List Int) (x1 : Int) (x2 : List Int) => goL0 ⟨[(0, .lst (.int .i64) x0), (3, .row 0), (4, .int .i64 x1)], [.rows 3 (.int .i64) x2]⟩) x0 x1 x2 := by kernel_rfl
theorem h_laws_toIntS (cal : Cal) (x0 : List Int) :
    bodyL cal a_laws_toIntS [.lst (.int .i64) x0] [] =
    t_laws_toIntS  (fun (x0 : List Int) (x1 : Int) (x2 : List Int) => e_laws_toIntS_L0 cal  ⟨[(0, .lst (.int .i64) x0), (3, .row 0), (4, .int .i64 x1)], [.rows 3 (.int .i64) x2]⟩) x0 := by kernel_rfl

/-! 143 loop.example/g00180/laws.toTask -/
def c_laws_toTask_0 : ACode := (.seq (.region [.load 21 (.t 3) (some 7), .store (.t 2) (.t 21) 7 false] [2]) .ret)
def c_laws_toTask_1 : ACode := (.seq (.region [.fld 17 (.t 1) 6, .load 18 (.t 17) none, .call (some 19) 142 [(.t 18, .bor (.slice (.int .i64)))] [(.own 3 (.int .i64))], .fld 20 (.t 3) 6, .store (.t 20) (.t 19) 1 false] [2, 3]) c_laws_toTask_0)
def c_laws_toTask_2 : ACode := (.seq (.region [.fld 13 (.t 1) 3, .load 14 (.t 13) (some 3), .call (some 15) 72 [(.t 14, .val k_Item)] [k_Item], .fld 16 (.t 3) 3, .store (.t 16) (.t 15) 3 false] [1, 2, 3]) c_laws_toTask_1)
def c_laws_toTask_3 : ACode := (.seq (.region [.fld 10 (.t 1) 2, .load 11 (.t 10) none, .fld 12 (.t 3) 2, .store (.t 12) (.t 11) 1 false] [1, 2, 3]) c_laws_toTask_2)
def c_laws_toTask_4 : ACode := (.seq (.region [.fld 7 (.t 1) 1, .load 8 (.t 7) none, .fld 9 (.t 3) 1, .store (.t 9) (.t 8) 1 false] [1, 2, 3]) c_laws_toTask_3)
def c_laws_toTask_5 : ACode := (.seq (.region [.fld 4 (.t 1) 0, .load 5 (.t 4) none, .fld 6 (.t 3) 0, .store (.t 6) (.t 5) 1 false] [1, 2, 3]) c_laws_toTask_4)
def c_laws_toTask_6 : ACode := (.seq (.region [.alloc 3 [.int .i64 0, .int .i64 0, .int .i64 0, .str ByteArray.empty, .str ByteArray.empty, .int .i64 0, .new 3 (.int .i64) []]] [1, 2, 3]) c_laws_toTask_5)
def a_laws_toTask : AFn := ⟨[.val k_Task], [⟨2, true, k_Task_own⟩], (.seq (.region [.box 1 (.t 0) false, .alloc 2 [.int .i64 0, .int .i64 0, .int .i64 0, .str ByteArray.empty, .str ByteArray.empty, .int .i64 0, .new 3 (.int .i64) []]] [1, 2]) c_laws_toTask_6)⟩
def t_laws_toTask (C_laws_toItem : y_Item → Option y_Item) (C_laws_toIntS : (List Int) → Option (List Int))  (x0 : y_Task) : Option y_Task := ((C_laws_toItem x0.2.2.2.1).bind fun y1 => ((C_laws_toIntS x0.2.2.2.2).bind fun y2 => (some (x0.1, x0.2.1, x0.2.2.1, y1, y2))))
theorem h_laws_toTask (cal : Cal) (x0 : y_Task) :
    bodyL cal a_laws_toTask [.agg [.int .i64 x0.1, .int .i64 x0.2.1, .int .i64 x0.2.2.1, .str x0.2.2.2.1.1, .str x0.2.2.2.1.2.1, .int .i64 x0.2.2.2.1.2.2, .lst (.int .i64) x0.2.2.2.2]] [] =
    t_laws_toTask (fun (q0 : y_Item) => (cal 72 [.agg [.str q0.1, .str q0.2.1, .int .i64 q0.2.2]] []).bind (decAll [k_Item])) (fun (q0 : List Int) => (cal 142 [.lst (.int .i64) q0] []).bind (decAll [(.own 3 (.int .i64))]))  x0 := by kernel_rfl

/-! 144 loop.example/g00180/laws.eqIntS -/
def c_laws_eqIntS_0 : ACode := (.cond (.t 10) (.seq (.region [.mv 4 (.c (.bool false))] [4]) .ret) .skip)
def c_laws_eqIntS_1 : ACode := (.cond (.t 14) .skip (.exit 0))
def c_laws_eqIntS_2 : ACode := (.cond (.t 25) (.seq (.region [.mv 4 (.c (.bool false))] [4]) .ret) .skip)
def c_laws_eqIntS_3 : ACode := (.region [.mv 15 (.t 5), .bin 16 .add (.t 15) (.c (.int .i64 1)), .mv 5 (.t 16)] [0, 1, 5])
def c_laws_eqIntS_4 : ACode := (.seq (.block 1 [0, 1, 5] (.seq (.draw [[], [], [0, 1], [0, 1, 2], [], [], [4, 5], [4, 5, 6], [0, 1, 2, 3, 4, 5, 6, 7]] (.take 0 none (.mv 17 (.t 0)) (.take 1 none (.mv 18 (.t 5)) (.take 2 none (.idx 19 1 (.t 17) (.t 18)) (.take 3 none (.load 20 (.t 19) none) (.take 4 none (.mv 21 (.t 1)) (.take 5 none (.mv 22 (.t 5)) (.take 6 none (.idx 23 1 (.t 21) (.t 22)) (.take 7 none (.load 24 (.t 23) none) (.take 8 none (.bin 25 .neq (.t 20) (.t 24)) .done))))))))) [0, 1, 5, 25]) c_laws_eqIntS_2)) c_laws_eqIntS_3)
def c_laws_eqIntS_5 : ACode := (.seq (.seq (.region [.mv 11 (.t 5), .mv 12 (.t 0), .len 13 false (.t 12), .bin 14 .lss (.t 11) (.t 13)] [0, 1, 5, 14]) c_laws_eqIntS_1) c_laws_eqIntS_4)
def c_laws_eqIntS_6 : ACode := (.block 0 [] (.loop [0, 1, 5] c_laws_eqIntS_5))
def c_laws_eqIntS_7 : ACode := (.seq (.region [.mv 4 (.c (.bool true))] [4]) .ret)
def c_laws_eqIntS_8 : ACode := (.seq (.seq (.region [.mv 5 (.c (.int .i64 0))] [0, 1, 5]) c_laws_eqIntS_6) c_laws_eqIntS_7)
def c_laws_eqIntS_9 : ACode := (.seq (.seq (.region [.mv 6 (.t 0), .len 7 false (.t 6), .mv 8 (.t 1), .len 9 false (.t 8), .bin 10 .neq (.t 7) (.t 9)] [0, 1, 10]) c_laws_eqIntS_0) c_laws_eqIntS_8)
def a_laws_eqIntS : AFn := ⟨[.val (.slice (.int .i64)), .val (.slice (.int .i64))], [⟨4, false, .bool⟩], (.seq (.region [.mv 4 (.c (.bool false))] [0, 1]) c_laws_eqIntS_9)⟩
def t_laws_eqIntS_L0   (goL0 : (List Int) → (List Int) → Int → Option Bool) (x0 : List Int) (x1 : List Int) (x2 : Int) : Option Bool := (if (decide (x2 < (x0.length : Int))) = true then (if 0 ≤ x2 then (if x2 < (x0.length : Int) then (if 0 ≤ x2 then (if x2 < (x1.length : Int) then (if ((x0.getD x2.toNat (0 : Int)) != (x1.getD x2.toNat (0 : Int))) = true then (some false) else (goL0 x0 x1 (IntKind.i64.wrap (x2 + (1 : Int))))) else none) else none) else none) else none) else (some true))
def t_laws_eqIntS  (L0 : (List Int) → (List Int) → Int → Option Bool) (x0 : List Int) (x1 : List Int) : Option Bool := (if ((x0.length : Int) != (x1.length : Int)) = true then (some false) else (L0 x0 x1 (0 : Int)))
noncomputable def e_laws_eqIntS_L0 (cal : Cal)  (s : St) : Option (RT (AFn.outs a_laws_eqIntS)) := loopL (fun goL0 s' => codeG cal loopL c_laws_eqIntS_5 (fun s'' => goL0 (s''.cutH [] [0, 1, 5] 0)) (retK a_laws_eqIntS) (fun i s' => if i = 0 then (fun s' => codeG cal loopL c_laws_eqIntS_7 (retK a_laws_eqIntS) (retK a_laws_eqIntS) (fun _ _ => none) s') (s'.cutH [] [] 0) else (fun _ _ => none) i s') s') s
theorem h_laws_eqIntS_L0 (cal : Cal) (goL0 : St → Option (RT (AFn.outs a_laws_eqIntS))) (x0 : List Int) (x1 : List Int) (x2 : Int) :
    codeG cal loopL c_laws_eqIntS_5 (fun s'' => goL0 (s''.cutH [] [0, 1, 5] 0)) (retK a_laws_eqIntS) (fun i s' => if i = 0 then (fun s' => codeG cal loopL c_laws_eqIntS_7 (retK a_laws_eqIntS) (retK a_laws_eqIntS) (fun _ _ => none) s') (s'.cutH [] [] 0) else (fun _ _ => none) i s') ⟨[(0, .lst (.int .i64) x0), (1, .lst (.int .i64) x1), (5, .int .i64 x2)], []⟩ =
    t_laws_eqIntS_L0   (fun (x0 : List Int) (x1 : List Int) (x2 : Int) => goL0 ⟨[(0, .lst (.int .i64) x0), (1, .lst (.int .i64) x1), (5, .int .i64 x2)], []⟩) x0 x1 x2 := by kernel_rfl
theorem h_laws_eqIntS (cal : Cal) (x0 : List Int) (x1 : List Int) :
    bodyL cal a_laws_eqIntS [.lst (.int .i64) x0, .lst (.int .i64) x1] [] =
    t_laws_eqIntS  (fun (x0 : List Int) (x1 : List Int) (x2 : Int) => e_laws_eqIntS_L0 cal  ⟨[(0, .lst (.int .i64) x0), (1, .lst (.int .i64) x1), (5, .int .i64 x2)], []⟩) x0 x1 := by kernel_rfl

/-! 145 loop.example/g00180/laws.eqTask -/
def c_laws_eqTask_0 : ACode := (.cond (.t 9) (.seq (.region [.mv 4 (.c (.bool false))] [4]) .ret) .skip)
def c_laws_eqTask_1 : ACode := (.cond (.t 14) (.seq (.region [.mv 4 (.c (.bool false))] [4]) .ret) .skip)
def c_laws_eqTask_2 : ACode := (.cond (.t 19) (.seq (.region [.mv 4 (.c (.bool false))] [4]) .ret) .skip)
def c_laws_eqTask_3 : ACode := (.cond (.t 25) (.seq (.region [.mv 4 (.c (.bool false))] [4]) .ret) .skip)
def c_laws_eqTask_4 : ACode := (.cond (.t 31) (.seq (.region [.mv 4 (.c (.bool false))] [4]) .ret) .skip)
def c_laws_eqTask_5 : ACode := (.seq (.region [.mv 4 (.c (.bool true))] [4]) .ret)
def c_laws_eqTask_6 : ACode := (.seq (.seq (.region [.fld 26 (.t 2) 6, .load 27 (.t 26) none, .fld 28 (.t 3) 6, .load 29 (.t 28) none, .call (some 30) 144 [(.t 27, .bor (.slice (.int .i64))), (.t 29, .bor (.slice (.int .i64)))] [.bool], .un 31 .not (.t 30)] [31]) c_laws_eqTask_4) c_laws_eqTask_5)
def c_laws_eqTask_7 : ACode := (.seq (.seq (.region [.fld 20 (.t 2) 3, .load 21 (.t 20) (some 3), .fld 22 (.t 3) 3, .load 23 (.t 22) (some 3), .call (some 24) 162 [(.t 21, .val k_Item), (.t 23, .val k_Item)] [.bool], .un 25 .not (.t 24)] [2, 3, 25]) c_laws_eqTask_3) c_laws_eqTask_6)
def c_laws_eqTask_8 : ACode := (.seq (.seq (.region [.fld 15 (.t 2) 2, .load 16 (.t 15) none, .fld 17 (.t 3) 2, .load 18 (.t 17) none, .bin 19 .neq (.t 16) (.t 18)] [2, 3, 19]) c_laws_eqTask_2) c_laws_eqTask_7)
def c_laws_eqTask_9 : ACode := (.seq (.seq (.region [.fld 10 (.t 2) 1, .load 11 (.t 10) none, .fld 12 (.t 3) 1, .load 13 (.t 12) none, .bin 14 .neq (.t 11) (.t 13)] [2, 3, 14]) c_laws_eqTask_1) c_laws_eqTask_8)
def c_laws_eqTask_10 : ACode := (.seq (.seq (.region [.fld 5 (.t 2) 0, .load 6 (.t 5) none, .fld 7 (.t 3) 0, .load 8 (.t 7) none, .bin 9 .neq (.t 6) (.t 8)] [2, 3, 9]) c_laws_eqTask_0) c_laws_eqTask_9)
def a_laws_eqTask : AFn := ⟨[.val k_Task, .val k_Task], [⟨4, false, .bool⟩], (.seq (.region [.box 2 (.t 0) false, .box 3 (.t 1) false, .mv 4 (.c (.bool false))] [2, 3]) c_laws_eqTask_10)⟩
def t_laws_eqTask (C_laws_eqIntS : (List Int) → (List Int) → Option Bool) (C_laws_eqItem : y_Item → y_Item → Option Bool)  (x0 : y_Task) (x1 : y_Task) : Option Bool := (if (x0.1 != x1.1) = true then (some false) else (if (x0.2.1 != x1.2.1) = true then (some false) else (if (x0.2.2.1 != x1.2.2.1) = true then (some false) else ((C_laws_eqItem x0.2.2.2.1 x1.2.2.2.1).bind fun y1 => (if (!y1) = true then (some false) else ((C_laws_eqIntS x0.2.2.2.2 x1.2.2.2.2).bind fun y2 => (if (!y2) = true then (some false) else (some true))))))))
theorem h_laws_eqTask (cal : Cal) (x0 : y_Task) (x1 : y_Task) :
    bodyL cal a_laws_eqTask [.agg [.int .i64 x0.1, .int .i64 x0.2.1, .int .i64 x0.2.2.1, .str x0.2.2.2.1.1, .str x0.2.2.2.1.2.1, .int .i64 x0.2.2.2.1.2.2, .lst (.int .i64) x0.2.2.2.2], .agg [.int .i64 x1.1, .int .i64 x1.2.1, .int .i64 x1.2.2.1, .str x1.2.2.2.1.1, .str x1.2.2.2.1.2.1, .int .i64 x1.2.2.2.1.2.2, .lst (.int .i64) x1.2.2.2.2]] [] =
    t_laws_eqTask (fun (q0 : List Int) (q1 : List Int) => (cal 144 [.lst (.int .i64) q0, .lst (.int .i64) q1] []).bind (decAll [.bool])) (fun (q0 : y_Item) (q1 : y_Item) => (cal 162 [.agg [.str q0.1, .str q0.2.1, .int .i64 q0.2.2], .agg [.str q1.1, .str q1.2.1, .int .i64 q1.2.2]] []).bind (decAll [.bool]))  x0 x1 := by kernel_rfl

/-! 146 loop.example/g00180/laws.markIntS -/
def c_laws_markIntS_0 : ACode := (.cond (.t 9) .skip (.exit 0))
def c_laws_markIntS_1 : ACode := (.region [.mv 16 (.t 1), .bin 17 .add (.t 16) (.c (.int .i64 1)), .mv 1 (.t 17)] [0, 1, 5])
def c_laws_markIntS_2 : ACode := (.region [.mv 10 (.t 5), .bin 11 .add (.t 10) (.c (.int .i64 1)), .mv 5 (.t 11)] [0, 1, 5])
def c_laws_markIntS_3 : ACode := (.seq (.block 1 [0, 1, 5] (.seq (.region [.mv 12 (.t 0), .mv 13 (.t 5), .mv 14 (.t 1), .idx 15 1 (.t 12) (.t 13), .store (.t 15) (.t 14) 1 false] [0, 1, 5]) c_laws_markIntS_1)) c_laws_markIntS_2)
def c_laws_markIntS_4 : ACode := (.seq (.seq (.region [.mv 6 (.t 5), .mv 7 (.t 0), .len 8 false (.t 7), .bin 9 .lss (.t 6) (.t 8)] [0, 1, 5, 9]) c_laws_markIntS_0) c_laws_markIntS_3)
def c_laws_markIntS_5 : ACode := (.block 0 [1] (.loop [0, 1, 5] c_laws_markIntS_4))
def c_laws_markIntS_6 : ACode := (.seq (.region [.mv 18 (.t 1), .mv 4 (.t 18)] [4]) .ret)
def c_laws_markIntS_7 : ACode := (.seq (.seq (.region [.mv 5 (.c (.int .i64 0))] [0, 1, 5]) c_laws_markIntS_5) c_laws_markIntS_6)
def a_laws_markIntS : AFn := ⟨[.mut (.own 3 (.int .i64)), .val (.int .i64)], [⟨4, false, (.int .i64)⟩], (.seq (.region [.mv 4 (.c (.int .i64 0))] [0, 1]) c_laws_markIntS_7)⟩
def t_laws_markIntS_L0   (goL0 : Int → Int → (List Int) → Option (Int × List Int)) (x0 : Int) (x1 : Int) (x2 : List Int) : Option (Int × List Int) := (if (decide (x1 < (x2.length : Int))) = true then (if 0 ≤ x1 then (if x1 < (x2.length : Int) then (let z1 : List Int := x2.set x1.toNat x0; (goL0 (IntKind.i64.wrap (x0 + (1 : Int))) (IntKind.i64.wrap (x1 + (1 : Int))) z1)) else none) else none) else (some (x0, x2)))
def t_laws_markIntS  (L0 : Int → Int → (List Int) → Option (Int × List Int)) (x1 : Int) (b0 : List Int) : Option (Int × List Int) := (L0 x1 (0 : Int) b0)
noncomputable def e_laws_markIntS_L0 (cal : Cal)  (s : St) : Option (RT (AFn.outs a_laws_markIntS)) := loopL (fun goL0 s' => codeG cal loopL c_laws_markIntS_4 (fun s'' => goL0 (s''.cutH [(0, 0)] [0, 1, 5] 1)) (retK a_laws_markIntS) (fun i s' => if i = 0 then (fun s' => codeG cal loopL c_laws_markIntS_6 (retK a_laws_markIntS) (retK a_laws_markIntS) (fun _ _ => none) s') (s'.cutH [] [1] 1) else (fun _ _ => none) i s') s') s
theorem h_laws_markIntS_L0 (cal : Cal) (goL0 : St → Option (RT (AFn.outs a_laws_markIntS))) (x0 : Int) (x1 : Int) (x2 : List Int) :
    codeG cal loopL c_laws_markIntS_4 (fun s'' => goL0 (s''.cutH [(0, 0)] [0, 1, 5] 1)) (retK a_laws_markIntS) (fun i s' => if i = 0 then (fun s' => codeG cal loopL c_laws_markIntS_6 (retK a_laws_markIntS) (retK a_laws_markIntS) (fun _ _ => none) s') (s'.cutH [] [1] 1) else (fun _ _ => none) i s') ⟨[(0, .row 0), (1, .int .i64 x0), (5, .int .i64 x1)], [.mrow 3 (.int .i64) x2]⟩ =
    t_laws_markIntS_L0   (fun (x0 : Int) (x1 : Int) (x2 : List Int) => goL0 ⟨[(0, .row 0), (1, .int .i64 x0), (5, .int .i64 x1)], [.mrow 3 (.int .i64) x2]⟩) x0 x1 x2 := by kernel_rfl
theorem h_laws_markIntS (cal : Cal) (x1 : Int) (b0 : List Int) :
    bodyL cal a_laws_markIntS [.row 0, .int .i64 x1] [.new 3 (.int .i64) b0] =
    t_laws_markIntS  (fun (x0 : Int) (x1 : Int) (x2 : List Int) => e_laws_markIntS_L0 cal  ⟨[(0, .row 0), (1, .int .i64 x0), (5, .int .i64 x1)], [.mrow 3 (.int .i64) x2]⟩) x1 b0 := by kernel_rfl

/-! 147 loop.example/g00180/laws.markTask -/
def c_laws_markTask_0 : ACode := (.seq (.region [.mv 9 (.t 1), .mv 4 (.t 9)] [4]) .ret)
def c_laws_markTask_1 : ACode := (.seq (.region [.fld 5 (.t 2) 6, .load 6 (.t 5) none, .mv 7 (.t 1), .call (some 8) 146 [(.t 6, .mut (.own 3 (.int .i64))), (.t 7, .val (.int .i64))] [(.int .i64)], .mv 1 (.t 8)] [1]) c_laws_markTask_0)
def a_laws_markTask : AFn := ⟨[.mut k_Task_own, .val (.int .i64)], [⟨4, false, (.int .i64)⟩], (.seq (.region [.box 2 (.t 0) true, .mv 4 (.c (.int .i64 0))] [1, 2]) c_laws_markTask_1)⟩
def t_laws_markTask (C_laws_markIntS : Int → (List Int) → Option (Int × List Int))  (x0_0 : Int) (x0_1 : Int) (x0_2 : Int) (x0_3 : ByteArray) (x0_4 : ByteArray) (x0_5 : Int) (x1 : Int) (b0 : List Int) : Option (Int × List Int) := ((C_laws_markIntS x1 b0).bind fun y1 => (some (y1.1, y1.2)))
theorem h_laws_markTask (cal : Cal) (x0_0 : Int) (x0_1 : Int) (x0_2 : Int) (x0_3 : ByteArray) (x0_4 : ByteArray) (x0_5 : Int) (x1 : Int) (b0 : List Int) :
    bodyL cal a_laws_markTask [.agg [.int .i64 x0_0, .int .i64 x0_1, .int .i64 x0_2, .str x0_3, .str x0_4, .int .i64 x0_5, .row 0], .int .i64 x1] [.new 3 (.int .i64) b0] =
    t_laws_markTask (fun (q0 : Int) (q1 : List Int) => (cal 146 [.row 0, .int .i64 q0] [.new 3 (.int .i64) q1]).bind (decAll [(.int .i64), (.own 3 (.int .i64))]))  x0_0 x0_1 x0_2 x0_3 x0_4 x0_5 x1 b0 := by kernel_rfl

/-! 148 loop.example/g00180/laws.heldIntS -/
def c_laws_heldIntS_0 : ACode := (.cond (.t 9) .skip (.exit 0))
def c_laws_heldIntS_1 : ACode := (.cond (.t 17) (.seq (.region [.mv 4 (.c (.int .i64 (-1)))] [4]) .ret) .skip)
def c_laws_heldIntS_2 : ACode := (.region [.mv 18 (.t 1), .bin 19 .add (.t 18) (.c (.int .i64 1)), .mv 1 (.t 19)] [0, 1, 5])
def c_laws_heldIntS_3 : ACode := (.region [.mv 10 (.t 5), .bin 11 .add (.t 10) (.c (.int .i64 1)), .mv 5 (.t 11)] [0, 1, 5])
def c_laws_heldIntS_4 : ACode := (.seq (.block 1 [0, 1, 5] (.seq (.seq (.region [.mv 12 (.t 0), .mv 13 (.t 5), .idx 14 1 (.t 12) (.t 13), .load 15 (.t 14) none, .mv 16 (.t 1), .bin 17 .neq (.t 15) (.t 16)] [0, 1, 5, 17]) c_laws_heldIntS_1) c_laws_heldIntS_2)) c_laws_heldIntS_3)
def c_laws_heldIntS_5 : ACode := (.seq (.seq (.region [.mv 6 (.t 5), .mv 7 (.t 0), .len 8 false (.t 7), .bin 9 .lss (.t 6) (.t 8)] [0, 1, 5, 9]) c_laws_heldIntS_0) c_laws_heldIntS_4)
def c_laws_heldIntS_6 : ACode := (.block 0 [1] (.loop [0, 1, 5] c_laws_heldIntS_5))
def c_laws_heldIntS_7 : ACode := (.seq (.region [.mv 20 (.t 1), .mv 4 (.t 20)] [4]) .ret)
def c_laws_heldIntS_8 : ACode := (.seq (.seq (.region [.mv 5 (.c (.int .i64 0))] [0, 1, 5]) c_laws_heldIntS_6) c_laws_heldIntS_7)
def a_laws_heldIntS : AFn := ⟨[.val (.slice (.int .i64)), .val (.int .i64)], [⟨4, false, (.int .i64)⟩], (.seq (.region [.mv 4 (.c (.int .i64 0))] [0, 1]) c_laws_heldIntS_8)⟩
def t_laws_heldIntS_L0   (goL0 : (List Int) → Int → Int → Option Int) (x0 : List Int) (x1 : Int) (x2 : Int) : Option Int := (if (decide (x2 < (x0.length : Int))) = true then (if 0 ≤ x2 then (if x2 < (x0.length : Int) then (if ((x0.getD x2.toNat (0 : Int)) != x1) = true then (some (-1 : Int)) else (goL0 x0 (IntKind.i64.wrap (x1 + (1 : Int))) (IntKind.i64.wrap (x2 + (1 : Int))))) else none) else none) else (some x1))
def t_laws_heldIntS  (L0 : (List Int) → Int → Int → Option Int) (x0 : List Int) (x1 : Int) : Option Int := (L0 x0 x1 (0 : Int))
noncomputable def e_laws_heldIntS_L0 (cal : Cal)  (s : St) : Option (RT (AFn.outs a_laws_heldIntS)) := loopL (fun goL0 s' => codeG cal loopL c_laws_heldIntS_5 (fun s'' => goL0 (s''.cutH [] [0, 1, 5] 0)) (retK a_laws_heldIntS) (fun i s' => if i = 0 then (fun s' => codeG cal loopL c_laws_heldIntS_7 (retK a_laws_heldIntS) (retK a_laws_heldIntS) (fun _ _ => none) s') (s'.cutH [] [1] 0) else (fun _ _ => none) i s') s') s
theorem h_laws_heldIntS_L0 (cal : Cal) (goL0 : St → Option (RT (AFn.outs a_laws_heldIntS))) (x0 : List Int) (x1 : Int) (x2 : Int) :
    codeG cal loopL c_laws_heldIntS_5 (fun s'' => goL0 (s''.cutH [] [0, 1, 5] 0)) (retK a_laws_heldIntS) (fun i s' => if i = 0 then (fun s' => codeG cal loopL c_laws_heldIntS_7 (retK a_laws_heldIntS) (retK a_laws_heldIntS) (fun _ _ => none) s') (s'.cutH [] [1] 0) else (fun _ _ => none) i s') ⟨[(0, .lst (.int .i64) x0), (1, .int .i64 x1), (5, .int .i64 x2)], []⟩ =
    t_laws_heldIntS_L0   (fun (x0 : List Int) (x1 : Int) (x2 : Int) => goL0 ⟨[(0, .lst (.int .i64) x0), (1, .int .i64 x1), (5, .int .i64 x2)], []⟩) x0 x1 x2 := by kernel_rfl
theorem h_laws_heldIntS (cal : Cal) (x0 : List Int) (x1 : Int) :
    bodyL cal a_laws_heldIntS [.lst (.int .i64) x0, .int .i64 x1] [] =
    t_laws_heldIntS  (fun (x0 : List Int) (x1 : Int) (x2 : Int) => e_laws_heldIntS_L0 cal  ⟨[(0, .lst (.int .i64) x0), (1, .int .i64 x1), (5, .int .i64 x2)], []⟩) x0 x1 := by kernel_rfl

/-! 149 loop.example/g00180/laws.heldTask -/
def c_laws_heldTask_0 : ACode := (.cond (.t 10) (.seq (.region [.mv 4 (.c (.int .i64 (-1)))] [4]) .ret) .skip)
def c_laws_heldTask_1 : ACode := (.seq (.region [.mv 11 (.t 1), .mv 4 (.t 11)] [4]) .ret)
def c_laws_heldTask_2 : ACode := (.seq (.seq (.region [.mv 9 (.t 1), .bin 10 .lss (.t 9) (.c (.int .i64 0))] [1, 10]) c_laws_heldTask_0) c_laws_heldTask_1)
def c_laws_heldTask_3 : ACode := (.seq (.region [.fld 5 (.t 2) 6, .load 6 (.t 5) none, .mv 7 (.t 1), .call (some 8) 148 [(.t 6, .bor (.slice (.int .i64))), (.t 7, .val (.int .i64))] [(.int .i64)], .mv 1 (.t 8)] [1]) c_laws_heldTask_2)
def a_laws_heldTask : AFn := ⟨[.val k_Task, .val (.int .i64)], [⟨4, false, (.int .i64)⟩], (.seq (.region [.box 2 (.t 0) false, .mv 4 (.c (.int .i64 0))] [1, 2]) c_laws_heldTask_3)⟩
def t_laws_heldTask (C_laws_heldIntS : (List Int) → Int → Option Int)  (x0 : y_Task) (x1 : Int) : Option Int := ((C_laws_heldIntS x0.2.2.2.2 x1).bind fun y1 => (if (decide (y1 < (0 : Int))) = true then (some (-1 : Int)) else (some y1)))
theorem h_laws_heldTask (cal : Cal) (x0 : y_Task) (x1 : Int) :
    bodyL cal a_laws_heldTask [.agg [.int .i64 x0.1, .int .i64 x0.2.1, .int .i64 x0.2.2.1, .str x0.2.2.2.1.1, .str x0.2.2.2.1.2.1, .int .i64 x0.2.2.2.1.2.2, .lst (.int .i64) x0.2.2.2.2], .int .i64 x1] [] =
    t_laws_heldTask (fun (q0 : List Int) (q1 : Int) => (cal 148 [.lst (.int .i64) q0, .int .i64 q1] []).bind (decAll [(.int .i64)]))  x0 x1 := by kernel_rfl

/-! 162 loop.example/g00180/laws.eqItem -/
def c_laws_eqItem_0 : ACode := (.cond (.t 9) (.seq (.region [.mv 4 (.c (.bool false))] [4]) .ret) .skip)
def c_laws_eqItem_1 : ACode := (.cond (.t 14) (.seq (.region [.mv 4 (.c (.bool false))] [4]) .ret) .skip)
def c_laws_eqItem_2 : ACode := (.cond (.t 19) (.seq (.region [.mv 4 (.c (.bool false))] [4]) .ret) .skip)
def c_laws_eqItem_3 : ACode := (.seq (.region [.mv 4 (.c (.bool true))] [4]) .ret)
def c_laws_eqItem_4 : ACode := (.seq (.seq (.region [.fld 15 (.t 2) 2, .load 16 (.t 15) none, .fld 17 (.t 3) 2, .load 18 (.t 17) none, .bin 19 .neq (.t 16) (.t 18)] [19]) c_laws_eqItem_2) c_laws_eqItem_3)
def c_laws_eqItem_5 : ACode := (.seq (.seq (.region [.fld 10 (.t 2) 1, .load 11 (.t 10) none, .fld 12 (.t 3) 1, .load 13 (.t 12) none, .bin 14 .neq (.t 11) (.t 13)] [2, 3, 14]) c_laws_eqItem_1) c_laws_eqItem_4)
def c_laws_eqItem_6 : ACode := (.seq (.seq (.region [.fld 5 (.t 2) 0, .load 6 (.t 5) none, .fld 7 (.t 3) 0, .load 8 (.t 7) none, .bin 9 .neq (.t 6) (.t 8)] [2, 3, 9]) c_laws_eqItem_0) c_laws_eqItem_5)
def a_laws_eqItem : AFn := ⟨[.val k_Item, .val k_Item], [⟨4, false, .bool⟩], (.seq (.region [.box 2 (.t 0) false, .box 3 (.t 1) false, .mv 4 (.c (.bool false))] [2, 3]) c_laws_eqItem_6)⟩
def t_laws_eqItem   (x0 : y_Item) (x1 : y_Item) : Option Bool := (if (!(x0.1.toList == x1.1.toList)) = true then (some false) else (if (!(x0.2.1.toList == x1.2.1.toList)) = true then (some false) else (if (x0.2.2 != x1.2.2) = true then (some false) else (some true))))
theorem h_laws_eqItem (cal : Cal) (x0 : y_Item) (x1 : y_Item) :
    bodyL cal a_laws_eqItem [.agg [.str x0.1, .str x0.2.1, .int .i64 x0.2.2], .agg [.str x1.1, .str x1.2.1, .int .i64 x1.2.2]] [] =
    t_laws_eqItem   x0 x1 := by kernel_rfl

/-! 163 loop.example/g00180/laws.markText -/
def c_laws_markText_0 : ACode := (.cond (.t 5) (.seq (.region [.mv 2 (.c (.str ⟨#[109, 48]⟩))] [2]) .ret) .skip)
def c_laws_markText_1 : ACode := (.cond (.t 7) .skip (.exit 0))
def c_laws_markText_2 : ACode := (.region [.mv 16 (.t 0), .bin 17 .quo (.t 16) (.c (.int .i64 10)), .mv 0 (.t 17)] [0, 3])
def c_laws_markText_3 : ACode := (.block 1 [0, 3] (.seq (.region [.mv 8 (.t 0), .bin 9 .rem (.t 8) (.c (.int .i64 10)), .bin 10 .add (.c (.int .i64 48)) (.t 9), .cvi 11 .u8 (.t 10), .brow 12 5 (.int .u8) [.t 11], .bts 13 (.t 12), .mv 14 (.t 3), .bin 15 .add (.t 13) (.t 14), .mv 3 (.t 15)] [0, 3]) c_laws_markText_2))
def c_laws_markText_4 : ACode := (.seq (.seq (.region [.mv 6 (.t 0), .bin 7 .gtr (.t 6) (.c (.int .i64 0))] [0, 3, 7]) c_laws_markText_1) c_laws_markText_3)
def c_laws_markText_5 : ACode := (.seq (.region [.mv 18 (.t 3), .bin 19 .add (.c (.str ⟨#[109]⟩)) (.t 18), .mv 2 (.t 19)] [2]) .ret)
def c_laws_markText_6 : ACode := (.seq (.block 0 [3] (.loop [0, 3] c_laws_markText_4)) c_laws_markText_5)
def c_laws_markText_7 : ACode := (.seq (.region [.mv 3 (.c (.str ⟨#[]⟩))] [0, 3]) c_laws_markText_6)
def c_laws_markText_8 : ACode := (.seq (.seq (.region [.mv 4 (.t 0), .bin 5 .leq (.t 4) (.c (.int .i64 0))] [0, 5]) c_laws_markText_0) c_laws_markText_7)
def a_laws_markText : AFn := ⟨[.val (.int .i64)], [⟨2, false, .str⟩], (.seq (.region [.mv 2 (.c (.str ⟨#[]⟩))] [0]) c_laws_markText_8)⟩
def t_laws_markText_L0   (goL0 : Int → ByteArray → Option ByteArray) (x0 : Int) (x1 : ByteArray) : Option ByteArray := (if (decide (x0 > (0 : Int))) = true then (if (10 : Int) = 0 then none else (if (bytesOf ([(IntKind.u8.wrap (IntKind.i64.wrap ((48 : Int) + (Int.tmod x0 (10 : Int)))))] : List Int)).size + x1.size ≤ 1099511627776 then (if (10 : Int) = 0 then none else (goL0 (IntKind.i64.wrap (Int.tdiv x0 (10 : Int))) ((bytesOf ([(IntKind.u8.wrap (IntKind.i64.wrap ((48 : Int) + (Int.tmod x0 (10 : Int)))))] : List Int)) ++ x1))) else none)) else (if (⟨#[109]⟩ : ByteArray).size + x1.size ≤ 1099511627776 then (some ((⟨#[109]⟩ : ByteArray) ++ x1)) else none))
def t_laws_markText  (L0 : Int → ByteArray → Option ByteArray) (x0 : Int) : Option ByteArray := (if (decide (x0 ≤ (0 : Int))) = true then (some (⟨#[109, 48]⟩ : ByteArray)) else (L0 x0 (⟨#[]⟩ : ByteArray)))
noncomputable def e_laws_markText_L0 (cal : Cal)  (s : St) : Option (RT (AFn.outs a_laws_markText)) := loopL (fun goL0 s' => codeG cal loopL c_laws_markText_4 (fun s'' => goL0 (s''.cutH [] [0, 3] 0)) (retK a_laws_markText) (fun i s' => if i = 0 then (fun s' => codeG cal loopL c_laws_markText_5 (retK a_laws_markText) (retK a_laws_markText) (fun _ _ => none) s') (s'.cutH [] [3] 0) else (fun _ _ => none) i s') s') s
theorem h_laws_markText_L0 (cal : Cal) (goL0 : St → Option (RT (AFn.outs a_laws_markText))) (x0 : Int) (x1 : ByteArray) :
    codeG cal loopL c_laws_markText_4 (fun s'' => goL0 (s''.cutH [] [0, 3] 0)) (retK a_laws_markText) (fun i s' => if i = 0 then (fun s' => codeG cal loopL c_laws_markText_5 (retK a_laws_markText) (retK a_laws_markText) (fun _ _ => none) s') (s'.cutH [] [3] 0) else (fun _ _ => none) i s') ⟨[(0, .int .i64 x0), (3, .str x1)], []⟩ =
    t_laws_markText_L0   (fun (x0 : Int) (x1 : ByteArray) => goL0 ⟨[(0, .int .i64 x0), (3, .str x1)], []⟩) x0 x1 := by kernel_rfl
theorem h_laws_markText (cal : Cal) (x0 : Int) :
    bodyL cal a_laws_markText [.int .i64 x0] [] =
    t_laws_markText  (fun (x0 : Int) (x1 : ByteArray) => e_laws_markText_L0 cal  ⟨[(0, .int .i64 x0), (3, .str x1)], []⟩) x0 := by kernel_rfl
end Go.Proofs.Ytnbfkndicldppaa.Core
