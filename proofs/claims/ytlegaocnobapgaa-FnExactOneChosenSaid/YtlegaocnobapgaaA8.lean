/- Code and typed functions. Written by a program of this part. -/
import Derived.Test.YtlegaocnobapgaaLim
namespace Go.Proofs.Ytlegaocnobapgaa.Core
open Go
set_option linter.unusedVariables false
set_option maxRecDepth 100000

/-! 65 -/
def c65_0 : ACode := (.cond (.t 10) (.seq (.region [.mv 4 (.c (.bool false))] [4]) .ret) .skip)
def c65_1 : ACode := (.cond (.t 16) (.seq (.region [.mv 4 (.c (.bool false))] [4]) .ret) .skip)
def c65_2 : ACode := (.cond (.t 22) (.seq (.region [.mv 4 (.c (.bool false))] [4]) .ret) .skip)
def c65_3 : ACode := (.cond (.t 28) (.seq (.region [.mv 4 (.c (.bool false))] [4]) .ret) .skip)
def c65_4 : ACode := (.seq (.region [.mv 4 (.c (.bool true))] [4]) .ret)
def c65_5 : ACode := (.seq (.seq (.region [.fld 23 (.t 2) 3, .load 24 (.t 23) none, .fld 25 (.t 3) 3, .load 26 (.t 25) none, .call (some 27) 105 [(.t 24, .bor (.slice .str)), (.t 26, .bor (.slice .str))] [.bool], .un 28 .not (.t 27)] [28]) c65_3) c65_4)
def c65_6 : ACode := (.seq (.seq (.region [.fld 17 (.t 2) 2, .load 18 (.t 17) none, .fld 19 (.t 3) 2, .load 20 (.t 19) none, .call (some 21) 104 [(.t 18, .bor (.slice (.pair (.int .i64) (.pair (.int .i64) (.pair (.int .i64) (.pair (.int .i64) (.pair (.int .i64) .str))))))), (.t 20, .bor (.slice (.pair (.int .i64) (.pair (.int .i64) (.pair (.int .i64) (.pair (.int .i64) (.pair (.int .i64) .str)))))))] [.bool], .un 22 .not (.t 21)] [2, 3, 22]) c65_2) c65_5)
def c65_7 : ACode := (.seq (.seq (.region [.fld 11 (.t 2) 1, .load 12 (.t 11) none, .fld 13 (.t 3) 1, .load 14 (.t 13) none, .call (some 15) 103 [(.t 12, .bor (.slice (.pair (.int .i64) (.pair (.int .i64) (.pair .str (.pair (.slice (.pair (.int .i64) (.pair (.int .i64) (.pair (.int .i64) (.pair (.int .i64) (.pair (.int .i64) .str)))))) (.pair .bool (.pair (.slice (.int .i64)) .bool)))))))), (.t 14, .bor (.slice (.pair (.int .i64) (.pair (.int .i64) (.pair .str (.pair (.slice (.pair (.int .i64) (.pair (.int .i64) (.pair (.int .i64) (.pair (.int .i64) (.pair (.int .i64) .str)))))) (.pair .bool (.pair (.slice (.int .i64)) .bool))))))))] [.bool], .un 16 .not (.t 15)] [2, 3, 16]) c65_1) c65_6)
def c65_8 : ACode := (.seq (.seq (.region [.fld 5 (.t 2) 0, .load 6 (.t 5) none, .fld 7 (.t 3) 0, .load 8 (.t 7) none, .call (some 9) 102 [(.t 6, .bor (.slice (.pair (.int .i64) (.pair (.int .i64) .str)))), (.t 8, .bor (.slice (.pair (.int .i64) (.pair (.int .i64) .str))))] [.bool], .un 10 .not (.t 9)] [2, 3, 10]) c65_0) c65_7)
def a65 : AFn := ⟨[.val (.pair (.slice (.pair (.int .i64) (.pair (.int .i64) .str))) (.pair (.slice (.pair (.int .i64) (.pair (.int .i64) (.pair .str (.pair (.slice (.pair (.int .i64) (.pair (.int .i64) (.pair (.int .i64) (.pair (.int .i64) (.pair (.int .i64) .str)))))) (.pair .bool (.pair (.slice (.int .i64)) .bool))))))) (.pair (.slice (.pair (.int .i64) (.pair (.int .i64) (.pair (.int .i64) (.pair (.int .i64) (.pair (.int .i64) .str)))))) (.slice .str)))), .val (.pair (.slice (.pair (.int .i64) (.pair (.int .i64) .str))) (.pair (.slice (.pair (.int .i64) (.pair (.int .i64) (.pair .str (.pair (.slice (.pair (.int .i64) (.pair (.int .i64) (.pair (.int .i64) (.pair (.int .i64) (.pair (.int .i64) .str)))))) (.pair .bool (.pair (.slice (.int .i64)) .bool))))))) (.pair (.slice (.pair (.int .i64) (.pair (.int .i64) (.pair (.int .i64) (.pair (.int .i64) (.pair (.int .i64) .str)))))) (.slice .str))))], [⟨4, false, .bool⟩], (.seq (.region [.box 2 (.t 0) false, .box 3 (.t 1) false, .mv 4 (.c (.bool false))] [2, 3]) c65_8)⟩
def t65 (C102 : (List (Int × Int × ByteArray)) → (List (Int × Int × ByteArray)) → Option Bool) (C103 : (List (Int × Int × ByteArray × List (Int × Int × Int × Int × Int × ByteArray) × Bool × List Int × Bool)) → (List (Int × Int × ByteArray × List (Int × Int × Int × Int × Int × ByteArray) × Bool × List Int × Bool)) → Option Bool) (C104 : (List (Int × Int × Int × Int × Int × ByteArray)) → (List (Int × Int × Int × Int × Int × ByteArray)) → Option Bool) (C105 : (List ByteArray) → (List ByteArray) → Option Bool)  (x0 : List (Int × Int × ByteArray) × List (Int × Int × ByteArray × List (Int × Int × Int × Int × Int × ByteArray) × Bool × List Int × Bool) × List (Int × Int × Int × Int × Int × ByteArray) × List ByteArray) (x1 : List (Int × Int × ByteArray) × List (Int × Int × ByteArray × List (Int × Int × Int × Int × Int × ByteArray) × Bool × List Int × Bool) × List (Int × Int × Int × Int × Int × ByteArray) × List ByteArray) : Option Bool := ((C102 x0.1 x1.1).bind fun y1 => (if (!y1) = true then (some false) else ((C103 x0.2.1 x1.2.1).bind fun y2 => (if (!y2) = true then (some false) else ((C104 x0.2.2.1 x1.2.2.1).bind fun y3 => (if (!y3) = true then (some false) else ((C105 x0.2.2.2 x1.2.2.2).bind fun y4 => (if (!y4) = true then (some false) else (some true)))))))))
theorem h65 (cal : Cal) (x0 : List (Int × Int × ByteArray) × List (Int × Int × ByteArray × List (Int × Int × Int × Int × Int × ByteArray) × Bool × List Int × Bool) × List (Int × Int × Int × Int × Int × ByteArray) × List ByteArray) (x1 : List (Int × Int × ByteArray) × List (Int × Int × ByteArray × List (Int × Int × Int × Int × Int × ByteArray) × Bool × List Int × Bool) × List (Int × Int × Int × Int × Int × ByteArray) × List ByteArray) :
    bodyL cal a65 [.agg [.lst (.pair (.int .i64) (.pair (.int .i64) .str)) x0.1, .lst (.pair (.int .i64) (.pair (.int .i64) (.pair .str (.pair (.slice (.pair (.int .i64) (.pair (.int .i64) (.pair (.int .i64) (.pair (.int .i64) (.pair (.int .i64) .str)))))) (.pair .bool (.pair (.slice (.int .i64)) .bool)))))) x0.2.1, .lst (.pair (.int .i64) (.pair (.int .i64) (.pair (.int .i64) (.pair (.int .i64) (.pair (.int .i64) .str))))) x0.2.2.1, .lst .str x0.2.2.2], .agg [.lst (.pair (.int .i64) (.pair (.int .i64) .str)) x1.1, .lst (.pair (.int .i64) (.pair (.int .i64) (.pair .str (.pair (.slice (.pair (.int .i64) (.pair (.int .i64) (.pair (.int .i64) (.pair (.int .i64) (.pair (.int .i64) .str)))))) (.pair .bool (.pair (.slice (.int .i64)) .bool)))))) x1.2.1, .lst (.pair (.int .i64) (.pair (.int .i64) (.pair (.int .i64) (.pair (.int .i64) (.pair (.int .i64) .str))))) x1.2.2.1, .lst .str x1.2.2.2]] [] =
    t65 (fun (q0 : List (Int × Int × ByteArray)) (q1 : List (Int × Int × ByteArray)) => (cal 102 [.lst (.pair (.int .i64) (.pair (.int .i64) .str)) q0, .lst (.pair (.int .i64) (.pair (.int .i64) .str)) q1] []).bind (decAll [.bool])) (fun (q0 : List (Int × Int × ByteArray × List (Int × Int × Int × Int × Int × ByteArray) × Bool × List Int × Bool)) (q1 : List (Int × Int × ByteArray × List (Int × Int × Int × Int × Int × ByteArray) × Bool × List Int × Bool)) => (cal 103 [.lst (.pair (.int .i64) (.pair (.int .i64) (.pair .str (.pair (.slice (.pair (.int .i64) (.pair (.int .i64) (.pair (.int .i64) (.pair (.int .i64) (.pair (.int .i64) .str)))))) (.pair .bool (.pair (.slice (.int .i64)) .bool)))))) q0, .lst (.pair (.int .i64) (.pair (.int .i64) (.pair .str (.pair (.slice (.pair (.int .i64) (.pair (.int .i64) (.pair (.int .i64) (.pair (.int .i64) (.pair (.int .i64) .str)))))) (.pair .bool (.pair (.slice (.int .i64)) .bool)))))) q1] []).bind (decAll [.bool])) (fun (q0 : List (Int × Int × Int × Int × Int × ByteArray)) (q1 : List (Int × Int × Int × Int × Int × ByteArray)) => (cal 104 [.lst (.pair (.int .i64) (.pair (.int .i64) (.pair (.int .i64) (.pair (.int .i64) (.pair (.int .i64) .str))))) q0, .lst (.pair (.int .i64) (.pair (.int .i64) (.pair (.int .i64) (.pair (.int .i64) (.pair (.int .i64) .str))))) q1] []).bind (decAll [.bool])) (fun (q0 : List ByteArray) (q1 : List ByteArray) => (cal 105 [.lst .str q0, .lst .str q1] []).bind (decAll [.bool]))  x0 x1 := by kernel_rfl

/-! 66 -/
def c66_0 : ACode := (.seq (.region [.mv 7 (.t 0), .mv 8 (.t 1), .bin 9 .geq (.t 7) (.t 8), .mv 10 (.t 9), .sc 10 true [.mv 11 (.t 0), .mv 12 (.t 2), .bin 13 .leq (.t 11) (.t 12)] 14 (.t 13) (.c (.bool false)), .mv 6 (.t 14)] [6]) .ret)
def a66 : AFn := ⟨[.val (.int .i64), .val (.int .i64), .val (.int .i64)], [⟨6, false, .bool⟩], (.seq (.region [.mv 6 (.c (.bool false))] [0, 1, 2]) c66_0)⟩
def t66   (x0 : Int) (x1 : Int) (x2 : Int) : Option Bool := (if (decide (x0 ≥ x1)) = true then (some (decide (x0 ≤ x2))) else (some false))
theorem h66 (cal : Cal) (x0 : Int) (x1 : Int) (x2 : Int) :
    bodyL cal a66 [.int .i64 x0, .int .i64 x1, .int .i64 x2] [] =
    t66   x0 x1 x2 := by kernel_rfl

/-! 67 -/
def c67_0 : ACode := (.seq (.region [.mv 7 (.t 0), .mv 8 (.t 1), .bin 9 .geq (.t 7) (.t 8), .mv 10 (.t 9), .sc 10 true [.mv 11 (.t 0), .mv 12 (.t 2), .bin 13 .leq (.t 11) (.t 12)] 14 (.t 13) (.c (.bool false)), .mv 6 (.t 14)] [6]) .ret)
def a67 : AFn := ⟨[.val (.int .i64), .val (.int .i64), .val (.int .i64)], [⟨6, false, .bool⟩], (.seq (.region [.mv 6 (.c (.bool false))] [0, 1, 2]) c67_0)⟩
def t67   (x0 : Int) (x1 : Int) (x2 : Int) : Option Bool := (if (decide (x0 ≥ x1)) = true then (some (decide (x0 ≤ x2))) else (some false))
theorem h67 (cal : Cal) (x0 : Int) (x1 : Int) (x2 : Int) :
    bodyL cal a67 [.int .i64 x0, .int .i64 x1, .int .i64 x2] [] =
    t67   x0 x1 x2 := by kernel_rfl

/-! 68 -/
def c68_0 : ACode := (.seq (.region [.mv 3 (.t 0), .call (some 4) 67 [(.t 3, .val (.int .i64)), (.c (.int .i64 1), .val (.int .i64)), (.c (.int .i64 6), .val (.int .i64))] [.bool], .mv 2 (.t 4)] [2]) .ret)
def a68 : AFn := ⟨[.val (.int .i64)], [⟨2, false, .bool⟩], (.seq (.region [.mv 2 (.c (.bool false))] [0]) c68_0)⟩
def t68 (C67 : Int → Int → Int → Option Bool)  (x0 : Int) : Option Bool := ((C67 x0 (1 : Int) (6 : Int)).bind fun y1 => (some y1))
theorem h68 (cal : Cal) (x0 : Int) :
    bodyL cal a68 [.int .i64 x0] [] =
    t68 (fun (q0 : Int) (q1 : Int) (q2 : Int) => (cal 67 [.int .i64 q0, .int .i64 q1, .int .i64 q2] []).bind (decAll [.bool]))  x0 := by kernel_rfl

/-! 69 -/
def c69_0 : ACode := (.cond (.t 26) (.seq (.region [.mv 8 (.c (.bool false))] [8]) .ret) .skip)
def c69_1 : ACode := (.seq (.region [.mv 27 (.t 0), .bin 28 .eql (.t 27) (.c (.int .i64 1)), .mv 29 (.t 28), .sc 29 false [.mv 30 (.t 3), .bin 31 .eql (.t 30) (.c (.str ⟨#[]⟩))] 32 (.c (.bool true)) (.t 31), .mv 8 (.t 32)] [8]) .ret)
def c69_2 : ACode := (.seq (.seq (.region [.mv 9 (.t 0), .call (some 10) 67 [(.t 9, .val (.int .i64)), (.c (.int .i64 1), .val (.int .i64)), (.c (.int .i64 2), .val (.int .i64))] [.bool], .un 11 .not (.t 10), .mv 12 (.t 11), .sc 12 false [.mv 13 (.t 1), .call (some 14) 67 [(.t 13, .val (.int .i64)), (.c (.int .i64 0), .val (.int .i64)), (.c (.int .i64 1000), .val (.int .i64))] [.bool], .un 15 .not (.t 14)] 16 (.c (.bool true)) (.t 15), .mv 17 (.t 16), .sc 17 false [.mv 18 (.t 2), .call (some 19) 74 [(.t 18, .val .str)] [.bool], .un 20 .not (.t 19)] 21 (.c (.bool true)) (.t 20), .mv 22 (.t 21), .sc 22 false [.mv 23 (.t 3), .len 24 true (.t 23), .bin 25 .gtr (.t 24) (.c (.int .i64 20))] 26 (.c (.bool true)) (.t 25)] [0, 3, 26]) c69_0) c69_1)
def a69 : AFn := ⟨[.val (.int .i64), .val (.int .i64), .val .str, .val .str], [⟨8, false, .bool⟩], (.seq (.region [.mv 8 (.c (.bool false))] [0, 1, 2, 3]) c69_2)⟩
def t69_J0 (C67 : Int → Int → Int → Option Bool) (C74 : ByteArray → Option Bool)   (x0 : Int) (x1 : ByteArray) (x2 : Bool) : Option Bool := (if (x0 == (1 : Int)) = false then (some (x1.toList == (⟨#[]⟩ : ByteArray).toList)) else (some true))
def t69 (C67 : Int → Int → Int → Option Bool) (C74 : ByteArray → Option Bool) (J0 : Int → ByteArray → Bool → Option Bool) (x0 : Int) (x1 : Int) (x2 : ByteArray) (x3 : ByteArray) : Option Bool := ((C67 x0 (1 : Int) (2 : Int)).bind fun y1 => (if (!y1) = false then ((C67 x1 (0 : Int) (1000 : Int)).bind fun y2 => (if (!y2) = false then ((C74 x2).bind fun y3 => (if (!y3) = false then (if (decide ((x3.size : Int) > (20 : Int))) = true then (some false) else (J0 x0 x3 (decide ((x3.size : Int) > (20 : Int))))) else (some false))) else (some false))) else (some false)))
noncomputable def e69_J0 (cal : Cal)  (s : St) : Option (RT (AFn.outs a69)) := codeG cal loopL c69_1 (retK a69) (retK a69) (fun _ _ => none) s
theorem h69_J0 (cal : Cal)  (x0 : Int) (x1 : ByteArray) (x2 : Bool) :
    e69_J0 cal  ⟨[(0, .int .i64 x0), (3, .str x1), (26, .bool x2)], []⟩ =
    t69_J0 (fun (q0 : Int) (q1 : Int) (q2 : Int) => (cal 67 [.int .i64 q0, .int .i64 q1, .int .i64 q2] []).bind (decAll [.bool])) (fun (q0 : ByteArray) => (cal 74 [.str q0] []).bind (decAll [.bool]))   x0 x1 x2 := by kernel_rfl
theorem h69 (cal : Cal) (x0 : Int) (x1 : Int) (x2 : ByteArray) (x3 : ByteArray) :
    bodyL cal a69 [.int .i64 x0, .int .i64 x1, .str x2, .str x3] [] =
    t69 (fun (q0 : Int) (q1 : Int) (q2 : Int) => (cal 67 [.int .i64 q0, .int .i64 q1, .int .i64 q2] []).bind (decAll [.bool])) (fun (q0 : ByteArray) => (cal 74 [.str q0] []).bind (decAll [.bool])) (fun (x0 : Int) (x1 : ByteArray) (x2 : Bool) => e69_J0 cal  ⟨[(0, .int .i64 x0), (3, .str x1), (26, .bool x2)], []⟩) x0 x1 x2 x3 := by kernel_rfl

/-! 70 -/
def c70_0 : ACode := (.cond (.t 15) .skip (.exit 0))
def c70_1 : ACode := (.region [.mv 16 (.t 4), .bin 17 .add (.t 16) (.c (.int .i64 1)), .mv 4 (.t 17)] [0, 3, 4])
def c70_2 : ACode := (.seq (.block 1 [0, 3, 4] (.region [.mv 18 (.t 3), .bin 19 .mul (.t 18) (.c (.int .i64 131)), .mv 20 (.t 0), .mv 21 (.t 4), .idx 22 1 (.t 20) (.t 21), .load 23 (.t 22) none, .cvi 24 .i64 (.t 23), .bin 25 .add (.t 19) (.t 24), .bin 26 .add (.t 25) (.c (.int .i64 7)), .bin 27 .and (.t 26) (.c (.int .i64 1073741823)), .mv 3 (.t 27)] [0, 3, 4])) c70_1)
def c70_3 : ACode := (.seq (.seq (.region [.mv 8 (.t 4), .mv 9 (.t 0), .len 10 false (.t 9), .bin 11 .lss (.t 8) (.t 10), .mv 12 (.t 11), .sc 12 true [.mv 13 (.t 4), .bin 14 .lss (.t 13) (.c (.int .i64 4000))] 15 (.t 14) (.c (.bool false))] [0, 3, 4, 15]) c70_0) c70_2)
def c70_4 : ACode := (.block 0 [0, 3] (.loop [0, 3, 4] c70_3))
def c70_5 : ACode := (.seq (.region [.mv 28 (.t 0), .mv 29 (.t 3), .build 30 [.nil, .int .i64 0, .int .i64 0] [(0, 1, .t 28), (2, 1, .t 29)], .box 31 (.t 30) false, .mv 2 (.t 31)] [2]) .ret)
def c70_6 : ACode := (.seq (.seq (.region [.mv 4 (.c (.int .i64 0))] [0, 3, 4]) c70_4) c70_5)
def c70_7 : ACode := (.seq (.region [.mv 5 (.t 0), .len 6 false (.t 5), .bin 7 .add (.c (.int .i64 14301)) (.t 6), .mv 3 (.t 7)] [0, 3]) c70_6)
def a70 : AFn := ⟨[.val (.slice (.int .u8))], [⟨2, false, (.ref (.pair (.slice (.int .u8)) (.pair (.int .i64) (.int .i64))))⟩], (.seq (.region [.mv 2 (.c (.undef))] [0]) c70_7)⟩
def t70_J1   (goL0 : (List Int) → Int → Int → Option (List Int × Int × Int)) (x0 : List Int) (x1 : Int) (x2 : Int) (x3 : Bool) : Option (List Int × Int × Int) := (if 0 ≤ x2 then (if x2 < (x0.length : Int) then (goL0 x0 (bitsAnd .i64 (IntKind.i64.wrap ((IntKind.i64.wrap ((IntKind.i64.wrap (x1 * (131 : Int))) + (IntKind.i64.wrap (x0.getD x2.toNat (0 : Int))))) + (7 : Int))) (1073741823 : Int)) (IntKind.i64.wrap (x2 + (1 : Int)))) else none) else none)
def t70_L0  (J1 : (List Int) → Int → Int → Bool → Option (List Int × Int × Int)) (goL0 : (List Int) → Int → Int → Option (List Int × Int × Int)) (x0 : List Int) (x1 : Int) (x2 : Int) : Option (List Int × Int × Int) := (if (decide (x2 < (x0.length : Int))) = true then (if (decide (x2 < (4000 : Int))) = true then (J1 x0 x1 x2 (decide (x2 < (4000 : Int)))) else (some (x0, (0 : Int), x1))) else (some (x0, (0 : Int), x1)))
def t70  (L0 : (List Int) → Int → Int → Option (List Int × Int × Int)) (x0 : List Int) : Option (List Int × Int × Int) := (L0 x0 (IntKind.i64.wrap ((14301 : Int) + (x0.length : Int))) (0 : Int))
noncomputable def e70_J1 (cal : Cal) (goL0 : St → Option (RT (AFn.outs a70))) (s : St) : Option (RT (AFn.outs a70)) := codeG cal loopL c70_2 (fun s'' => goL0 (s''.cut [0, 3, 4] 0)) (retK a70) (fun i s' => if i = 0 then (fun s' => codeG cal loopL c70_5 (retK a70) (retK a70) (fun _ _ => none) s') (s'.cut [0, 3] 0) else (fun _ _ => none) i s') s
noncomputable def e70_L0 (cal : Cal)  (s : St) : Option (RT (AFn.outs a70)) := loopL (fun goL0 s' => codeG cal loopL c70_3 (fun s'' => goL0 (s''.cut [0, 3, 4] 0)) (retK a70) (fun i s' => if i = 0 then (fun s' => codeG cal loopL c70_5 (retK a70) (retK a70) (fun _ _ => none) s') (s'.cut [0, 3] 0) else (fun _ _ => none) i s') s') s
theorem h70_J1 (cal : Cal) (goL0 : St → Option (RT (AFn.outs a70))) (x0 : List Int) (x1 : Int) (x2 : Int) (x3 : Bool) :
    e70_J1 cal goL0 ⟨[(0, .lst (.int .u8) x0), (3, .int .i64 x1), (4, .int .i64 x2), (15, .bool x3)], []⟩ =
    t70_J1   (fun (x0 : List Int) (x1 : Int) (x2 : Int) => goL0 ⟨[(0, .lst (.int .u8) x0), (3, .int .i64 x1), (4, .int .i64 x2)], []⟩) x0 x1 x2 x3 := by kernel_rfl
theorem h70_L0 (cal : Cal) (goL0 : St → Option (RT (AFn.outs a70))) (x0 : List Int) (x1 : Int) (x2 : Int) :
    codeG cal loopL c70_3 (fun s'' => goL0 (s''.cut [0, 3, 4] 0)) (retK a70) (fun i s' => if i = 0 then (fun s' => codeG cal loopL c70_5 (retK a70) (retK a70) (fun _ _ => none) s') (s'.cut [0, 3] 0) else (fun _ _ => none) i s') ⟨[(0, .lst (.int .u8) x0), (3, .int .i64 x1), (4, .int .i64 x2)], []⟩ =
    t70_L0  (fun (x0 : List Int) (x1 : Int) (x2 : Int) (x3 : Bool) => e70_J1 cal goL0 ⟨[(0, .lst (.int .u8) x0), (3, .int .i64 x1), (4, .int .i64 x2), (15, .bool x3)], []⟩) (fun (x0 : List Int) (x1 : Int) (x2 : Int) => goL0 ⟨[(0, .lst (.int .u8) x0), (3, .int .i64 x1), (4, .int .i64 x2)], []⟩) x0 x1 x2 := by kernel_rfl
theorem h70 (cal : Cal) (x0 : List Int) :
    bodyL cal a70 [.lst (.int .u8) x0] [] =
    t70  (fun (x0 : List Int) (x1 : Int) (x2 : Int) => e70_L0 cal  ⟨[(0, .lst (.int .u8) x0), (3, .int .i64 x1), (4, .int .i64 x2)], []⟩) x0 := by kernel_rfl

/-! 71 -/
def c71_0 : ACode := (.cond (.t 6) (.seq (.region [.mv 7 (.t 0), .mv 8 (.t 1), .mv 9 (.t 1), .bin 10 .add (.t 9) (.c (.int .i64 1)), .brow 11 3 (.int .i64) [.c (.int .i64 (-1)), .t 8, .t 10, .c (.int .i64 9223372036854775807), .c (.int .i64 (-9223372036854775808))], .call (some 12) 107 [(.t 7, .ptr (.pair (.slice (.int .u8)) (.pair (.int .i64) (.int .i64)))), (.t 11, .val (.slice (.int .i64)))] [(.int .i64)], .mv 4 (.t 12)] [4]) .ret) .skip)
def c71_1 : ACode := (.seq (.region [.mv 13 (.t 0), .mv 14 (.t 1), .call (some 15) 80 [(.t 13, .ptr (.pair (.slice (.int .u8)) (.pair (.int .i64) (.int .i64)))), (.t 14, .val (.int .i64))] [(.int .i64)], .mv 4 (.t 15)] [4]) .ret)
def c71_2 : ACode := (.seq (.seq (.region [.mv 5 (.t 0), .call (some 6) 106 [(.t 5, .ptr (.pair (.slice (.int .u8)) (.pair (.int .i64) (.int .i64)))), (.c (.int .i64 15), .val (.int .i64))] [.bool]] [0, 1, 6]) c71_0) c71_1)
def a71 : AFn := ⟨[.ptr (.pair (.slice (.int .u8)) (.pair (.int .i64) (.int .i64))), .val (.int .i64)], [⟨4, false, (.int .i64)⟩], (.seq (.region [.mv 4 (.c (.int .i64 0))] [0, 1]) c71_2)⟩
def t71 (C80 : Int → (List Int × Int × Int) → Option (Int × List Int × Int × Int)) (C106 : Int → (List Int × Int × Int) → Option (Bool × List Int × Int × Int)) (C107 : (List Int) → (List Int × Int × Int) → Option (Int × List Int × Int × Int))  (x1 : Int) (b0 : List Int × Int × Int) : Option (Int × List Int × Int × Int) := ((C106 (15 : Int) b0).bind fun y1 => (if y1.1 = true then ((C107 ([(-1 : Int), x1, (IntKind.i64.wrap (x1 + (1 : Int))), (9223372036854775807 : Int), (-9223372036854775808 : Int)] : List Int) y1.2).bind fun y2 => (some (y2.1, y2.2))) else ((C80 x1 y1.2).bind fun y3 => (some (y3.1, y3.2)))))
theorem h71 (cal : Cal) (x1 : Int) (b0 : List Int × Int × Int) :
    bodyL cal a71 [.ptr 0 0, .int .i64 x1] [.agg [.lst (.int .u8) b0.1, .int .i64 b0.2.1, .int .i64 b0.2.2]] =
    t71 (fun (q0 : Int) (q1 : List Int × Int × Int) => (cal 80 [.ptr 0 0, .int .i64 q0] [.agg [.lst (.int .u8) q1.1, .int .i64 q1.2.1, .int .i64 q1.2.2]]).bind (decAll [(.int .i64), (.pair (.slice (.int .u8)) (.pair (.int .i64) (.int .i64)))])) (fun (q0 : Int) (q1 : List Int × Int × Int) => (cal 106 [.ptr 0 0, .int .i64 q0] [.agg [.lst (.int .u8) q1.1, .int .i64 q1.2.1, .int .i64 q1.2.2]]).bind (decAll [.bool, (.pair (.slice (.int .u8)) (.pair (.int .i64) (.int .i64)))])) (fun (q0 : List Int) (q1 : List Int × Int × Int) => (cal 107 [.ptr 0 0, .lst (.int .i64) q0] [.agg [.lst (.int .u8) q1.1, .int .i64 q1.2.1, .int .i64 q1.2.2]]).bind (decAll [(.int .i64), (.pair (.slice (.int .u8)) (.pair (.int .i64) (.int .i64)))]))  x1 b0 := by kernel_rfl

/-! 72 -/
def c72_0 : ACode := (.cond (.t 11) (.seq (.region [.mv 4 (.c (.int .i64 (-1)))] [4]) .ret) .skip)
def c72_1 : ACode := (.cond (.t 18) (.seq (.region [.mv 4 (.c (.int .i64 (-1)))] [4]) .ret) .skip)
def c72_2 : ACode := (.seq (.region [.mv 19 (.t 1), .mv 4 (.t 19)] [4]) .ret)
def c72_3 : ACode := (.seq (.seq (.region [.mv 17 (.t 1), .bin 18 .lss (.t 17) (.c (.int .i64 0))] [1, 18]) c72_1) c72_2)
def c72_4 : ACode := (.seq (.region [.mv 12 (.t 1), .fld 13 (.t 2) 1, .load 14 (.t 13) none, .len 15 true (.t 14), .bin 16 .sub (.t 12) (.t 15), .mv 1 (.t 16)] [1]) c72_3)
def c72_5 : ACode := (.seq (.seq (.region [.mv 10 (.t 1), .bin 11 .lss (.t 10) (.c (.int .i64 0))] [1, 2, 11]) c72_0) c72_4)
def c72_6 : ACode := (.seq (.region [.mv 5 (.t 1), .fld 6 (.t 2) 0, .load 7 (.t 6) none, .len 8 true (.t 7), .bin 9 .sub (.t 5) (.t 8), .mv 1 (.t 9)] [1, 2]) c72_5)
def a72 : AFn := ⟨[.val (.pair .str (.pair .str (.int .i64))), .val (.int .i64)], [⟨4, false, (.int .i64)⟩], (.seq (.region [.box 2 (.t 0) false, .mv 4 (.c (.int .i64 0))] [1, 2]) c72_6)⟩
def t72   (x0 : ByteArray × ByteArray × Int) (x1 : Int) : Option Int := (if (decide ((IntKind.i64.wrap (x1 - (x0.1.size : Int))) < (0 : Int))) = true then (some (-1 : Int)) else (if (decide ((IntKind.i64.wrap ((IntKind.i64.wrap (x1 - (x0.1.size : Int))) - (x0.2.1.size : Int))) < (0 : Int))) = true then (some (-1 : Int)) else (some (IntKind.i64.wrap ((IntKind.i64.wrap (x1 - (x0.1.size : Int))) - (x0.2.1.size : Int))))))
theorem h72 (cal : Cal) (x0 : ByteArray × ByteArray × Int) (x1 : Int) :
    bodyL cal a72 [.agg [.str x0.1, .str x0.2.1, .int .i64 x0.2.2], .int .i64 x1] [] =
    t72   x0 x1 := by kernel_rfl

/-! 73 -/
def c73_0 : ACode := (.seq (.region [.load 13 (.t 3) (some 3), .store (.t 2) (.t 13) 3 false] [2]) .ret)
def c73_1 : ACode := (.seq (.region [.fld 10 (.t 1) 2, .load 11 (.t 10) none, .fld 12 (.t 3) 2, .store (.t 12) (.t 11) 1 false] [2, 3]) c73_0)
def c73_2 : ACode := (.seq (.region [.fld 7 (.t 1) 1, .load 8 (.t 7) none, .fld 9 (.t 3) 1, .store (.t 9) (.t 8) 1 false] [1, 2, 3]) c73_1)
def c73_3 : ACode := (.seq (.region [.fld 4 (.t 1) 0, .load 5 (.t 4) none, .fld 6 (.t 3) 0, .store (.t 6) (.t 5) 1 false] [1, 2, 3]) c73_2)
def c73_4 : ACode := (.seq (.region [.alloc 3 [.str ByteArray.empty, .str ByteArray.empty, .int .i64 0]] [1, 2, 3]) c73_3)
def a73 : AFn := ⟨[.val (.pair .str (.pair .str (.int .i64)))], [⟨2, true, (.pair .str (.pair .str (.int .i64)))⟩], (.seq (.region [.box 1 (.t 0) false, .alloc 2 [.str ByteArray.empty, .str ByteArray.empty, .int .i64 0]] [1, 2]) c73_4)⟩
def t73   (x0 : ByteArray × ByteArray × Int) : Option (ByteArray × ByteArray × Int) := (some x0)
theorem h73 (cal : Cal) (x0 : ByteArray × ByteArray × Int) :
    bodyL cal a73 [.agg [.str x0.1, .str x0.2.1, .int .i64 x0.2.2]] [] =
    t73   x0 := by kernel_rfl

/-! 74 -/
def c74_0 : ACode := (.seq (.region [.mv 3 (.t 0), .len 4 true (.t 3), .call (some 5) 67 [(.t 4, .val (.int .i64)), (.c (.int .i64 1), .val (.int .i64)), (.c (.int .i64 12), .val (.int .i64))] [.bool], .mv 2 (.t 5)] [2]) .ret)
def a74 : AFn := ⟨[.val .str], [⟨2, false, .bool⟩], (.seq (.region [.mv 2 (.c (.bool false))] [0]) c74_0)⟩
def t74 (C67 : Int → Int → Int → Option Bool)  (x0 : ByteArray) : Option Bool := ((C67 (x0.size : Int) (1 : Int) (12 : Int)).bind fun y1 => (some y1))
theorem h74 (cal : Cal) (x0 : ByteArray) :
    bodyL cal a74 [.str x0] [] =
    t74 (fun (q0 : Int) (q1 : Int) (q2 : Int) => (cal 67 [.int .i64 q0, .int .i64 q1, .int .i64 q2] []).bind (decAll [.bool]))  x0 := by kernel_rfl

/-! 75 -/
def c75_0 : ACode := (.cond (.t 10) (.seq (.region [.mv 4 (.c (.int .i64 (-1)))] [4]) .ret) .skip)
def c75_1 : ACode := (.seq (.region [.mv 11 (.t 1), .mv 4 (.t 11)] [4]) .ret)
def c75_2 : ACode := (.seq (.seq (.region [.mv 9 (.t 1), .bin 10 .lss (.t 9) (.c (.int .i64 0))] [1, 10]) c75_0) c75_1)
def c75_3 : ACode := (.seq (.region [.mv 5 (.t 1), .mv 6 (.t 0), .len 7 false (.t 6), .bin 8 .sub (.t 5) (.t 7), .mv 1 (.t 8)] [1]) c75_2)
def a75 : AFn := ⟨[.val (.slice (.int .i64)), .val (.int .i64)], [⟨4, false, (.int .i64)⟩], (.seq (.region [.mv 4 (.c (.int .i64 0))] [0, 1]) c75_3)⟩
def t75   (x0 : List Int) (x1 : Int) : Option Int := (if (decide ((IntKind.i64.wrap (x1 - (x0.length : Int))) < (0 : Int))) = true then (some (-1 : Int)) else (some (IntKind.i64.wrap (x1 - (x0.length : Int)))))
theorem h75 (cal : Cal) (x0 : List Int) (x1 : Int) :
    bodyL cal a75 [.lst (.int .i64) x0, .int .i64 x1] [] =
    t75   x0 x1 := by kernel_rfl

/-! 76 -/
def c76_0 : ACode := (.cond (.t 7) (.seq (.region [.mv 2 (.c (.bool false))] [2]) .ret) .skip)
def c76_1 : ACode := (.cond (.t 11) .skip (.exit 0))
def c76_2 : ACode := (.cond (.t 29) (.seq (.region [.mv 2 (.c (.bool false))] [2]) .ret) .skip)
def c76_3 : ACode := (.region [.mv 12 (.t 3), .bin 13 .add (.t 12) (.c (.int .i64 1)), .mv 3 (.t 13)] [0, 3])
def c76_4 : ACode := (.seq (.block 1 [0, 3] (.seq (.draw [[], [], [0, 1], [0, 1, 2], [0, 1, 2, 3], [0, 1, 2, 3, 4], [0, 1, 2, 3, 4, 5], [0, 1, 2, 3, 4, 5, 6], [0, 1, 2, 3, 4, 5, 6], [0, 1, 2, 3, 4, 5, 6, 7, 8], [0, 1, 2, 3, 4, 5, 6], [0, 1, 2, 3, 4, 5, 6], [0, 1, 2, 3, 4, 5, 6, 10, 11], [0, 1, 2, 3, 4, 5, 6, 10, 11, 12], [0, 1, 2, 3, 4, 5, 6, 7, 8, 9, 10, 11, 12, 13], [0, 1, 2, 3, 4, 5, 6, 7, 8, 9, 10, 11, 12, 13, 14]] (.take 0 none (.mv 14 (.t 0)) (.take 1 none (.mv 15 (.t 3)) (.take 2 none (.idx 16 1 (.t 14) (.t 15)) (.take 3 none (.load 17 (.t 16) none) (.only 4 none (.call (some 18) 66 [(.t 17, .val (.int .i64)), (.c (.int .i64 1), .val (.int .i64)), (.c (.int .i64 6), .val (.int .i64))] [.bool]) (.take 5 none (.un 19 .not (.t 18)) (.take 6 none (.mv 20 (.t 19)) (.test 20 (.skip 7 (20, false) (some 21) (.skip 8 (20, false) (some 22) (.skip 9 (20, false) (some 23) (.skip 10 (20, false) (some 24) (.skip 11 (20, false) (some 25) (.skip 12 (20, false) (some 26) (.skip 13 (20, false) (some 27) (.skip 14 (20, false) (some 28) (.take 15 none (.pick 29 (.t 20) (.c (.bool true)) (.t 28)) .done))))))))) (.take 7 (some (20, false)) (.mv 21 (.t 0)) (.take 8 (some (20, false)) (.mv 22 (.t 3)) (.take 9 (some (20, false)) (.sl 23 1 (.t 21) none (some (.t 22))) (.take 10 (some (20, false)) (.mv 24 (.t 0)) (.take 11 (some (20, false)) (.mv 25 (.t 3)) (.take 12 (some (20, false)) (.idx 26 1 (.t 24) (.t 25)) (.take 13 (some (20, false)) (.load 27 (.t 26) none) (.only 14 (some (20, false)) (.call (some 28) 108 [(.t 23, .bor (.slice (.int .i64))), (.t 27, .val (.int .i64))] [.bool]) (.take 15 none (.pick 29 (.t 20) (.c (.bool true)) (.t 28)) .done))))))))))))))))) [0, 3, 29]) c76_2)) c76_3)
def c76_5 : ACode := (.seq (.seq (.region [.mv 8 (.t 3), .mv 9 (.t 0), .len 10 false (.t 9), .bin 11 .lss (.t 8) (.t 10)] [0, 3, 11]) c76_1) c76_4)
def c76_6 : ACode := (.block 0 [] (.loop [0, 3] c76_5))
def c76_7 : ACode := (.seq (.region [.mv 2 (.c (.bool true))] [2]) .ret)
def c76_8 : ACode := (.seq (.seq (.region [.mv 3 (.c (.int .i64 0))] [0, 3]) c76_6) c76_7)
def c76_9 : ACode := (.seq (.seq (.region [.mv 4 (.t 0), .len 5 false (.t 4), .call (some 6) 66 [(.t 5, .val (.int .i64)), (.c (.int .i64 1), .val (.int .i64)), (.c (.int .i64 4), .val (.int .i64))] [.bool], .un 7 .not (.t 6)] [0, 7]) c76_0) c76_8)
def a76 : AFn := ⟨[.val (.slice (.int .i64))], [⟨2, false, .bool⟩], (.seq (.region [.mv 2 (.c (.bool false))] [0]) c76_9)⟩
def t76_L0 (C66 : Int → Int → Int → Option Bool) (C108 : (List Int) → Int → Option Bool)  (goL0 : (List Int) → Int → Option Bool) (x0 : List Int) (x1 : Int) : Option Bool := (if (decide (x1 < (x0.length : Int))) = true then (if 0 ≤ x1 then (if x1 < (x0.length : Int) then ((C66 (x0.getD x1.toNat (0 : Int)) (1 : Int) (6 : Int)).bind fun y2 => (if (!y2) = true then (some false) else (if 0 ≤ (0 : Int) then (if (0 : Int) ≤ x1 then (if x1 ≤ (x0.length : Int) then (if 0 ≤ x1 then (if x1 < (x0.length : Int) then ((C108 ((x0.take x1.toNat).drop (0 : Int).toNat) (x0.getD x1.toNat (0 : Int))).bind fun y3 => (if y3 = true then (some false) else (goL0 x0 (IntKind.i64.wrap (x1 + (1 : Int)))))) else none) else none) else none) else none) else none))) else none) else none) else (some true))
def t76 (C66 : Int → Int → Int → Option Bool) (C108 : (List Int) → Int → Option Bool) (L0 : (List Int) → Int → Option Bool) (x0 : List Int) : Option Bool := ((C66 (x0.length : Int) (1 : Int) (4 : Int)).bind fun y1 => (if (!y1) = true then (some false) else (L0 x0 (0 : Int))))
noncomputable def e76_L0 (cal : Cal)  (s : St) : Option (RT (AFn.outs a76)) := loopL (fun goL0 s' => codeG cal loopL c76_5 (fun s'' => goL0 (s''.cut [0, 3] 0)) (retK a76) (fun i s' => if i = 0 then (fun s' => codeG cal loopL c76_7 (retK a76) (retK a76) (fun _ _ => none) s') (s'.cut [] 0) else (fun _ _ => none) i s') s') s
theorem h76_L0 (cal : Cal) (goL0 : St → Option (RT (AFn.outs a76))) (x0 : List Int) (x1 : Int) :
    codeG cal loopL c76_5 (fun s'' => goL0 (s''.cut [0, 3] 0)) (retK a76) (fun i s' => if i = 0 then (fun s' => codeG cal loopL c76_7 (retK a76) (retK a76) (fun _ _ => none) s') (s'.cut [] 0) else (fun _ _ => none) i s') ⟨[(0, .lst (.int .i64) x0), (3, .int .i64 x1)], []⟩ =
    t76_L0 (fun (q0 : Int) (q1 : Int) (q2 : Int) => (cal 66 [.int .i64 q0, .int .i64 q1, .int .i64 q2] []).bind (decAll [.bool])) (fun (q0 : List Int) (q1 : Int) => (cal 108 [.lst (.int .i64) q0, .int .i64 q1] []).bind (decAll [.bool]))  (fun (x0 : List Int) (x1 : Int) => goL0 ⟨[(0, .lst (.int .i64) x0), (3, .int .i64 x1)], []⟩) x0 x1 := by kernel_rfl
theorem h76 (cal : Cal) (x0 : List Int) :
    bodyL cal a76 [.lst (.int .i64) x0] [] =
    t76 (fun (q0 : Int) (q1 : Int) (q2 : Int) => (cal 66 [.int .i64 q0, .int .i64 q1, .int .i64 q2] []).bind (decAll [.bool])) (fun (q0 : List Int) (q1 : Int) => (cal 108 [.lst (.int .i64) q0, .int .i64 q1] []).bind (decAll [.bool])) (fun (x0 : List Int) (x1 : Int) => e76_L0 cal  ⟨[(0, .lst (.int .i64) x0), (3, .int .i64 x1)], []⟩) x0 := by kernel_rfl

/-! 77 -/
def c77_0 : ACode := (.cond (.t 11) .skip (.exit 0))
def c77_1 : ACode := (.region [.mv 12 (.t 4), .bin 13 .add (.t 12) (.c (.int .i64 1)), .mv 4 (.t 13)] [0, 3, 4])
def c77_2 : ACode := (.seq (.block 1 [0, 3, 4] (.region [.mv 14 (.t 3), .mv 15 (.t 4), .mv 16 (.t 0), .mv 17 (.t 4), .idx 18 1 (.t 16) (.t 17), .load 19 (.t 18) none, .idx 20 1 (.t 14) (.t 15), .store (.t 20) (.t 19) 1 false] [0, 3, 4])) c77_1)
def c77_3 : ACode := (.seq (.seq (.region [.mv 8 (.t 4), .mv 9 (.t 0), .len 10 false (.t 9), .bin 11 .lss (.t 8) (.t 10)] [0, 3, 4, 11]) c77_0) c77_2)
def c77_4 : ACode := (.block 0 [3] (.loop [0, 3, 4] c77_3))
def c77_5 : ACode := (.seq (.region [.mv 21 (.t 3), .mv 2 (.t 21)] [2]) .ret)
def c77_6 : ACode := (.seq (.seq (.region [.mv 4 (.c (.int .i64 0))] [0, 3, 4]) c77_4) c77_5)
def c77_7 : ACode := (.seq (.region [.mv 5 (.t 0), .len 6 false (.t 5), .mk 7 3 (.int .i64) (.t 6), .mv 3 (.t 7)] [0, 3]) c77_6)
def a77 : AFn := ⟨[.val (.slice (.int .i64))], [⟨2, false, (.slice (.int .i64))⟩], (.seq (.region [.mv 2 (.c (.nil))] [0]) c77_7)⟩
def t77_L0   (goL0 : (List Int) → Int → (List Int) → Option (List Int)) (x0 : List Int) (x1 : Int) (x2 : List Int) : Option (List Int) := (if (decide (x1 < (x0.length : Int))) = true then (if 0 ≤ x1 then (if x1 < (x0.length : Int) then (if 0 ≤ x1 then (if x1 < (x2.length : Int) then (let z1 : List Int := x2.set x1.toNat (x0.getD x1.toNat (0 : Int)); (goL0 x0 (IntKind.i64.wrap (x1 + (1 : Int))) z1)) else none) else none) else none) else none) else (some x2))
def t77  (L0 : (List Int) → Int → (List Int) → Option (List Int)) (x0 : List Int) : Option (List Int) := (if 0 ≤ (x0.length : Int) then (if (x0.length : Int) ≤ 68719476736 then (L0 x0 (0 : Int) (List.replicate (x0.length : Int).toNat (0 : Int))) else none) else none)
noncomputable def e77_L0 (cal : Cal)  (s : St) : Option (RT (AFn.outs a77)) := loopL (fun goL0 s' => codeG cal loopL c77_3 (fun s'' => goL0 (s''.cut [0, 3, 4] 1)) (retK a77) (fun i s' => if i = 0 then (fun s' => codeG cal loopL c77_5 (retK a77) (retK a77) (fun _ _ => none) s') (s'.cut [3] 1) else (fun _ _ => none) i s') s') s
theorem h77_L0 (cal : Cal) (goL0 : St → Option (RT (AFn.outs a77))) (x0 : List Int) (x1 : Int) (x2 : List Int) :
    codeG cal loopL c77_3 (fun s'' => goL0 (s''.cut [0, 3, 4] 1)) (retK a77) (fun i s' => if i = 0 then (fun s' => codeG cal loopL c77_5 (retK a77) (retK a77) (fun _ _ => none) s') (s'.cut [3] 1) else (fun _ _ => none) i s') ⟨[(0, .lst (.int .i64) x0), (3, .row 0), (4, .int .i64 x1)], [.rows 3 (.int .i64) x2]⟩ =
    t77_L0   (fun (x0 : List Int) (x1 : Int) (x2 : List Int) => goL0 ⟨[(0, .lst (.int .i64) x0), (3, .row 0), (4, .int .i64 x1)], [.rows 3 (.int .i64) x2]⟩) x0 x1 x2 := by kernel_rfl
theorem h77 (cal : Cal) (x0 : List Int) :
    bodyL cal a77 [.lst (.int .i64) x0] [] =
    t77  (fun (x0 : List Int) (x1 : Int) (x2 : List Int) => e77_L0 cal  ⟨[(0, .lst (.int .i64) x0), (3, .row 0), (4, .int .i64 x1)], [.rows 3 (.int .i64) x2]⟩) x0 := by kernel_rfl

/-! 78 -/
def c78_0 : ACode := (.cond (.t 16) (.seq (.region [.mv 17 (.t 5), .mv 4 (.t 17)] [4]) .ret) .skip)
def c78_1 : ACode := (.seq (.region [.mv 11 (.t 1), .mv 12 (.t 0), .mv 13 (.t 5), .idx 14 1 (.t 12) (.t 13), .load 15 (.t 14) none, .bin 16 .eql (.t 11) (.t 15)] [0, 1, 5, 7, 8, 16]) c78_0)
def c78_2 : ACode := (.region [.bin 18 .add (.t 8) (.c (.int .i64 1)), .mv 8 (.t 18)] [0, 1, 7, 8])
def c78_3 : ACode := (.seq (.block 1 [0, 1, 7, 8] (.seq (.region [.mv 10 (.t 8), .mv 5 (.t 10)] [0, 1, 5, 7, 8]) c78_1)) c78_2)
def c78_4 : ACode := (.seq (.cond (.t 9) .skip (.exit 0)) c78_3)
def c78_5 : ACode := (.seq (.region [.bin 9 .lss (.t 8) (.t 7)] [0, 1, 7, 8, 9]) c78_4)
def c78_6 : ACode := (.block 0 [] (.loop [0, 1, 7, 8] c78_5))
def c78_7 : ACode := (.seq (.region [.mv 4 (.c (.int .i64 (-1)))] [4]) .ret)
def c78_8 : ACode := (.seq (.seq (.region [.mv 6 (.t 0), .len 7 false (.t 6), .mv 8 (.c (.int .i64 0))] [0, 1, 7, 8]) c78_6) c78_7)
def a78 : AFn := ⟨[.val (.slice (.int .i64)), .val (.int .i64)], [⟨4, false, (.int .i64)⟩], (.seq (.region [.mv 4 (.c (.int .i64 0))] [0, 1]) c78_8)⟩
def t78_L0   (goL0 : (List Int) → Int → Int → Int → Option Int) (x0 : List Int) (x1 : Int) (x2 : Int) (x3 : Int) : Option Int := (if (decide (x3 < x2)) = true then (if 0 ≤ x3 then (if x3 < (x0.length : Int) then (if (x1 == (x0.getD x3.toNat (0 : Int))) = true then (some x3) else (goL0 x0 x1 x2 (IntKind.i64.wrap (x3 + (1 : Int))))) else none) else none) else (some (-1 : Int)))
def t78  (L0 : (List Int) → Int → Int → Int → Option Int) (x0 : List Int) (x1 : Int) : Option Int := (L0 x0 x1 (x0.length : Int) (0 : Int))
noncomputable def e78_L0 (cal : Cal)  (s : St) : Option (RT (AFn.outs a78)) := loopL (fun goL0 s' => codeG cal loopL c78_5 (fun s'' => goL0 (s''.cut [0, 1, 7, 8] 0)) (retK a78) (fun i s' => if i = 0 then (fun s' => codeG cal loopL c78_7 (retK a78) (retK a78) (fun _ _ => none) s') (s'.cut [] 0) else (fun _ _ => none) i s') s') s
theorem h78_L0 (cal : Cal) (goL0 : St → Option (RT (AFn.outs a78))) (x0 : List Int) (x1 : Int) (x2 : Int) (x3 : Int) :
    codeG cal loopL c78_5 (fun s'' => goL0 (s''.cut [0, 1, 7, 8] 0)) (retK a78) (fun i s' => if i = 0 then (fun s' => codeG cal loopL c78_7 (retK a78) (retK a78) (fun _ _ => none) s') (s'.cut [] 0) else (fun _ _ => none) i s') ⟨[(0, .lst (.int .i64) x0), (1, .int .i64 x1), (7, .int .i64 x2), (8, .int .i64 x3)], []⟩ =
    t78_L0   (fun (x0 : List Int) (x1 : Int) (x2 : Int) (x3 : Int) => goL0 ⟨[(0, .lst (.int .i64) x0), (1, .int .i64 x1), (7, .int .i64 x2), (8, .int .i64 x3)], []⟩) x0 x1 x2 x3 := by kernel_rfl
theorem h78 (cal : Cal) (x0 : List Int) (x1 : Int) :
    bodyL cal a78 [.lst (.int .i64) x0, .int .i64 x1] [] =
    t78  (fun (x0 : List Int) (x1 : Int) (x2 : Int) (x3 : Int) => e78_L0 cal  ⟨[(0, .lst (.int .i64) x0), (1, .int .i64 x1), (7, .int .i64 x2), (8, .int .i64 x3)], []⟩) x0 x1 := by kernel_rfl

/-! 79 -/
def c79_0 : ACode := (.cond (.t 10) (.seq (.region [.mv 4 (.c (.bool false))] [4]) .ret) .skip)
def c79_1 : ACode := (.cond (.t 14) .skip (.exit 0))
def c79_2 : ACode := (.cond (.t 25) (.seq (.region [.mv 4 (.c (.bool false))] [4]) .ret) .skip)
def c79_3 : ACode := (.region [.mv 15 (.t 5), .bin 16 .add (.t 15) (.c (.int .i64 1)), .mv 5 (.t 16)] [0, 1, 5])
def c79_4 : ACode := (.seq (.block 1 [0, 1, 5] (.seq (.draw [[], [], [0, 1], [0, 1, 2], [], [], [4, 5], [4, 5, 6], [0, 1, 2, 3, 4, 5, 6, 7]] (.take 0 none (.mv 17 (.t 0)) (.take 1 none (.mv 18 (.t 5)) (.take 2 none (.idx 19 1 (.t 17) (.t 18)) (.take 3 none (.load 20 (.t 19) none) (.take 4 none (.mv 21 (.t 1)) (.take 5 none (.mv 22 (.t 5)) (.take 6 none (.idx 23 1 (.t 21) (.t 22)) (.take 7 none (.load 24 (.t 23) none) (.take 8 none (.bin 25 .neq (.t 20) (.t 24)) .done))))))))) [0, 1, 5, 25]) c79_2)) c79_3)
def c79_5 : ACode := (.seq (.seq (.region [.mv 11 (.t 5), .mv 12 (.t 0), .len 13 false (.t 12), .bin 14 .lss (.t 11) (.t 13)] [0, 1, 5, 14]) c79_1) c79_4)
def c79_6 : ACode := (.block 0 [] (.loop [0, 1, 5] c79_5))
def c79_7 : ACode := (.seq (.region [.mv 4 (.c (.bool true))] [4]) .ret)
def c79_8 : ACode := (.seq (.seq (.region [.mv 5 (.c (.int .i64 0))] [0, 1, 5]) c79_6) c79_7)
def c79_9 : ACode := (.seq (.seq (.region [.mv 6 (.t 0), .len 7 false (.t 6), .mv 8 (.t 1), .len 9 false (.t 8), .bin 10 .neq (.t 7) (.t 9)] [0, 1, 10]) c79_0) c79_8)
def a79 : AFn := ⟨[.val (.slice (.int .i64)), .val (.slice (.int .i64))], [⟨4, false, .bool⟩], (.seq (.region [.mv 4 (.c (.bool false))] [0, 1]) c79_9)⟩
def t79_L0   (goL0 : (List Int) → (List Int) → Int → Option Bool) (x0 : List Int) (x1 : List Int) (x2 : Int) : Option Bool := (if (decide (x2 < (x0.length : Int))) = true then (if 0 ≤ x2 then (if x2 < (x0.length : Int) then (if 0 ≤ x2 then (if x2 < (x1.length : Int) then (if ((x0.getD x2.toNat (0 : Int)) != (x1.getD x2.toNat (0 : Int))) = true then (some false) else (goL0 x0 x1 (IntKind.i64.wrap (x2 + (1 : Int))))) else none) else none) else none) else none) else (some true))
def t79  (L0 : (List Int) → (List Int) → Int → Option Bool) (x0 : List Int) (x1 : List Int) : Option Bool := (if ((x0.length : Int) != (x1.length : Int)) = true then (some false) else (L0 x0 x1 (0 : Int)))
noncomputable def e79_L0 (cal : Cal)  (s : St) : Option (RT (AFn.outs a79)) := loopL (fun goL0 s' => codeG cal loopL c79_5 (fun s'' => goL0 (s''.cut [0, 1, 5] 0)) (retK a79) (fun i s' => if i = 0 then (fun s' => codeG cal loopL c79_7 (retK a79) (retK a79) (fun _ _ => none) s') (s'.cut [] 0) else (fun _ _ => none) i s') s') s
theorem h79_L0 (cal : Cal) (goL0 : St → Option (RT (AFn.outs a79))) (x0 : List Int) (x1 : List Int) (x2 : Int) :
    codeG cal loopL c79_5 (fun s'' => goL0 (s''.cut [0, 1, 5] 0)) (retK a79) (fun i s' => if i = 0 then (fun s' => codeG cal loopL c79_7 (retK a79) (retK a79) (fun _ _ => none) s') (s'.cut [] 0) else (fun _ _ => none) i s') ⟨[(0, .lst (.int .i64) x0), (1, .lst (.int .i64) x1), (5, .int .i64 x2)], []⟩ =
    t79_L0   (fun (x0 : List Int) (x1 : List Int) (x2 : Int) => goL0 ⟨[(0, .lst (.int .i64) x0), (1, .lst (.int .i64) x1), (5, .int .i64 x2)], []⟩) x0 x1 x2 := by kernel_rfl
theorem h79 (cal : Cal) (x0 : List Int) (x1 : List Int) :
    bodyL cal a79 [.lst (.int .i64) x0, .lst (.int .i64) x1] [] =
    t79  (fun (x0 : List Int) (x1 : List Int) (x2 : Int) => e79_L0 cal  ⟨[(0, .lst (.int .i64) x0), (1, .lst (.int .i64) x1), (5, .int .i64 x2)], []⟩) x0 x1 := by kernel_rfl

/-! 80 -/
def c80_0 : ACode := (.cond (.t 10) (.seq (.region [.mv 4 (.c (.int .i64 0))] [4]) .ret) .skip)
def c80_1 : ACode := (.cond (.t 12) (.seq (.region [.mv 13 (.t 0), .call (some 14) 109 [(.t 13, .ptr (.pair (.slice (.int .u8)) (.pair (.int .i64) (.int .i64))))] [(.int .i64)], .mv 15 (.t 1), .bin 16 .rem (.t 14) (.t 15), .mv 4 (.t 16)] [4]) .ret) .skip)
def c80_2 : ACode := (.seq (.region [.mv 25 (.t 5), .bin 26 .mul (.t 25) (.c (.int .i64 16777216)), .mv 27 (.t 6), .bin 28 .mul (.t 27) (.c (.int .i64 65536)), .bin 29 .add (.t 26) (.t 28), .mv 30 (.t 7), .bin 31 .mul (.t 30) (.c (.int .i64 256)), .bin 32 .add (.t 29) (.t 31), .mv 33 (.t 8), .bin 34 .add (.t 32) (.t 33), .mv 35 (.t 1), .bin 36 .rem (.t 34) (.t 35), .mv 4 (.t 36)] [4]) .ret)
def c80_3 : ACode := (.seq (.region [.mv 23 (.t 0), .call (some 24) 109 [(.t 23, .ptr (.pair (.slice (.int .u8)) (.pair (.int .i64) (.int .i64))))] [(.int .i64)], .mv 8 (.t 24)] [1, 5, 6, 7, 8]) c80_2)
def c80_4 : ACode := (.seq (.region [.mv 21 (.t 0), .call (some 22) 109 [(.t 21, .ptr (.pair (.slice (.int .u8)) (.pair (.int .i64) (.int .i64))))] [(.int .i64)], .mv 7 (.t 22)] [0, 1, 5, 6, 7]) c80_3)
def c80_5 : ACode := (.seq (.region [.mv 19 (.t 0), .call (some 20) 109 [(.t 19, .ptr (.pair (.slice (.int .u8)) (.pair (.int .i64) (.int .i64))))] [(.int .i64)], .mv 6 (.t 20)] [0, 1, 5, 6]) c80_4)
def c80_6 : ACode := (.seq (.region [.mv 17 (.t 0), .call (some 18) 109 [(.t 17, .ptr (.pair (.slice (.int .u8)) (.pair (.int .i64) (.int .i64))))] [(.int .i64)], .mv 5 (.t 18)] [0, 1, 5]) c80_5)
def c80_7 : ACode := (.seq (.seq (.region [.mv 11 (.t 1), .bin 12 .leq (.t 11) (.c (.int .i64 256))] [0, 1, 12]) c80_1) c80_6)
def c80_8 : ACode := (.seq (.seq (.region [.mv 9 (.t 1), .bin 10 .leq (.t 9) (.c (.int .i64 0))] [0, 1, 10]) c80_0) c80_7)
def a80 : AFn := ⟨[.ptr (.pair (.slice (.int .u8)) (.pair (.int .i64) (.int .i64))), .val (.int .i64)], [⟨4, false, (.int .i64)⟩], (.seq (.region [.mv 4 (.c (.int .i64 0))] [0, 1]) c80_8)⟩
def t80 (C109 : (List Int × Int × Int) → Option (Int × List Int × Int × Int))  (x1 : Int) (b0 : List Int × Int × Int) : Option (Int × List Int × Int × Int) := (if (decide (x1 ≤ (0 : Int))) = true then (some ((0 : Int), b0)) else (if (decide (x1 ≤ (256 : Int))) = true then ((C109 b0).bind fun y1 => (if x1 = 0 then none else (some ((Int.tmod y1.1 x1), y1.2)))) else ((C109 b0).bind fun y2 => ((C109 y2.2).bind fun y3 => ((C109 y3.2).bind fun y4 => ((C109 y4.2).bind fun y5 => (if x1 = 0 then none else (some ((Int.tmod (IntKind.i64.wrap ((IntKind.i64.wrap ((IntKind.i64.wrap ((IntKind.i64.wrap (y2.1 * (16777216 : Int))) + (IntKind.i64.wrap (y3.1 * (65536 : Int))))) + (IntKind.i64.wrap (y4.1 * (256 : Int))))) + y5.1)) x1), y5.2)))))))))
theorem h80 (cal : Cal) (x1 : Int) (b0 : List Int × Int × Int) :
    bodyL cal a80 [.ptr 0 0, .int .i64 x1] [.agg [.lst (.int .u8) b0.1, .int .i64 b0.2.1, .int .i64 b0.2.2]] =
    t80 (fun (q0 : List Int × Int × Int) => (cal 109 [.ptr 0 0] [.agg [.lst (.int .u8) q0.1, .int .i64 q0.2.1, .int .i64 q0.2.2]]).bind (decAll [(.int .i64), (.pair (.slice (.int .u8)) (.pair (.int .i64) (.int .i64)))]))  x1 b0 := by kernel_rfl

/-! 83 -/
def c83_0 : ACode := (.seq (.region [.fld 3 (.t 1) 4, .load 4 (.t 3) none, .bin 5 .geq (.t 4) (.c (.int .i64 0)), .mv 2 (.t 5)] [2]) .ret)
def a83 : AFn := ⟨[.val (.pair (.int .i64) (.pair .str (.pair .str (.pair (.int .i64) (.pair (.int .i64) (.pair (.int .i64) (.pair (.int .i64) (.pair (.int .i64) .str))))))))], [⟨2, false, .bool⟩], (.seq (.region [.box 1 (.t 0) false, .mv 2 (.c (.bool false))] [1]) c83_0)⟩
def t83   (x0 : Int × ByteArray × ByteArray × Int × Int × Int × Int × Int × ByteArray) : Option Bool := (some (decide (x0.2.2.2.2.1 ≥ (0 : Int))))
theorem h83 (cal : Cal) (x0 : Int × ByteArray × ByteArray × Int × Int × Int × Int × Int × ByteArray) :
    bodyL cal a83 [.agg [.int .i64 x0.1, .str x0.2.1, .str x0.2.2.1, .int .i64 x0.2.2.2.1, .int .i64 x0.2.2.2.2.1, .int .i64 x0.2.2.2.2.2.1, .int .i64 x0.2.2.2.2.2.2.1, .int .i64 x0.2.2.2.2.2.2.2.1, .str x0.2.2.2.2.2.2.2.2]] [] =
    t83   x0 := by kernel_rfl

/-! 84 -/
def c84_0 : ACode := (.cond (.t 9) (.seq (.region [.mv 4 (.c (.bool false))] [4]) .ret) .skip)
def c84_1 : ACode := (.cond (.t 14) (.seq (.region [.mv 4 (.c (.bool false))] [4]) .ret) .skip)
def c84_2 : ACode := (.cond (.t 19) (.seq (.region [.mv 4 (.c (.bool false))] [4]) .ret) .skip)
def c84_3 : ACode := (.cond (.t 24) (.seq (.region [.mv 4 (.c (.bool false))] [4]) .ret) .skip)
def c84_4 : ACode := (.cond (.t 29) (.seq (.region [.mv 4 (.c (.bool false))] [4]) .ret) .skip)
def c84_5 : ACode := (.cond (.t 34) (.seq (.region [.mv 4 (.c (.bool false))] [4]) .ret) .skip)
def c84_6 : ACode := (.cond (.t 39) (.seq (.region [.mv 4 (.c (.bool false))] [4]) .ret) .skip)
def c84_7 : ACode := (.cond (.t 44) (.seq (.region [.mv 4 (.c (.bool false))] [4]) .ret) .skip)
def c84_8 : ACode := (.cond (.t 49) (.seq (.region [.mv 4 (.c (.bool false))] [4]) .ret) .skip)
def c84_9 : ACode := (.seq (.region [.mv 4 (.c (.bool true))] [4]) .ret)
def c84_10 : ACode := (.seq (.seq (.region [.fld 45 (.t 2) 8, .load 46 (.t 45) none, .fld 47 (.t 3) 8, .load 48 (.t 47) none, .bin 49 .neq (.t 46) (.t 48)] [49]) c84_8) c84_9)
def c84_11 : ACode := (.seq (.seq (.region [.fld 40 (.t 2) 7, .load 41 (.t 40) none, .fld 42 (.t 3) 7, .load 43 (.t 42) none, .bin 44 .neq (.t 41) (.t 43)] [2, 3, 44]) c84_7) c84_10)
def c84_12 : ACode := (.seq (.seq (.region [.fld 35 (.t 2) 6, .load 36 (.t 35) none, .fld 37 (.t 3) 6, .load 38 (.t 37) none, .bin 39 .neq (.t 36) (.t 38)] [2, 3, 39]) c84_6) c84_11)
def c84_13 : ACode := (.seq (.seq (.region [.fld 30 (.t 2) 5, .load 31 (.t 30) none, .fld 32 (.t 3) 5, .load 33 (.t 32) none, .bin 34 .neq (.t 31) (.t 33)] [2, 3, 34]) c84_5) c84_12)
def c84_14 : ACode := (.seq (.seq (.region [.fld 25 (.t 2) 4, .load 26 (.t 25) none, .fld 27 (.t 3) 4, .load 28 (.t 27) none, .bin 29 .neq (.t 26) (.t 28)] [2, 3, 29]) c84_4) c84_13)
def c84_15 : ACode := (.seq (.seq (.region [.fld 20 (.t 2) 3, .load 21 (.t 20) none, .fld 22 (.t 3) 3, .load 23 (.t 22) none, .bin 24 .neq (.t 21) (.t 23)] [2, 3, 24]) c84_3) c84_14)
def c84_16 : ACode := (.seq (.seq (.region [.fld 15 (.t 2) 2, .load 16 (.t 15) none, .fld 17 (.t 3) 2, .load 18 (.t 17) none, .bin 19 .neq (.t 16) (.t 18)] [2, 3, 19]) c84_2) c84_15)
def c84_17 : ACode := (.seq (.seq (.region [.fld 10 (.t 2) 1, .load 11 (.t 10) none, .fld 12 (.t 3) 1, .load 13 (.t 12) none, .bin 14 .neq (.t 11) (.t 13)] [2, 3, 14]) c84_1) c84_16)
def c84_18 : ACode := (.seq (.seq (.region [.fld 5 (.t 2) 0, .load 6 (.t 5) none, .fld 7 (.t 3) 0, .load 8 (.t 7) none, .bin 9 .neq (.t 6) (.t 8)] [2, 3, 9]) c84_0) c84_17)
def a84 : AFn := ⟨[.val (.pair (.int .i64) (.pair .str (.pair .str (.pair (.int .i64) (.pair (.int .i64) (.pair (.int .i64) (.pair (.int .i64) (.pair (.int .i64) .str)))))))), .val (.pair (.int .i64) (.pair .str (.pair .str (.pair (.int .i64) (.pair (.int .i64) (.pair (.int .i64) (.pair (.int .i64) (.pair (.int .i64) .str))))))))], [⟨4, false, .bool⟩], (.seq (.region [.box 2 (.t 0) false, .box 3 (.t 1) false, .mv 4 (.c (.bool false))] [2, 3]) c84_18)⟩
def t84   (x0 : Int × ByteArray × ByteArray × Int × Int × Int × Int × Int × ByteArray) (x1 : Int × ByteArray × ByteArray × Int × Int × Int × Int × Int × ByteArray) : Option Bool := (if (x0.1 != x1.1) = true then (some false) else (if (!(x0.2.1.toList == x1.2.1.toList)) = true then (some false) else (if (!(x0.2.2.1.toList == x1.2.2.1.toList)) = true then (some false) else (if (x0.2.2.2.1 != x1.2.2.2.1) = true then (some false) else (if (x0.2.2.2.2.1 != x1.2.2.2.2.1) = true then (some false) else (if (x0.2.2.2.2.2.1 != x1.2.2.2.2.2.1) = true then (some false) else (if (x0.2.2.2.2.2.2.1 != x1.2.2.2.2.2.2.1) = true then (some false) else (if (x0.2.2.2.2.2.2.2.1 != x1.2.2.2.2.2.2.2.1) = true then (some false) else (if (!(x0.2.2.2.2.2.2.2.2.toList == x1.2.2.2.2.2.2.2.2.toList)) = true then (some false) else (some true))))))))))
theorem h84 (cal : Cal) (x0 : Int × ByteArray × ByteArray × Int × Int × Int × Int × Int × ByteArray) (x1 : Int × ByteArray × ByteArray × Int × Int × Int × Int × Int × ByteArray) :
    bodyL cal a84 [.agg [.int .i64 x0.1, .str x0.2.1, .str x0.2.2.1, .int .i64 x0.2.2.2.1, .int .i64 x0.2.2.2.2.1, .int .i64 x0.2.2.2.2.2.1, .int .i64 x0.2.2.2.2.2.2.1, .int .i64 x0.2.2.2.2.2.2.2.1, .str x0.2.2.2.2.2.2.2.2], .agg [.int .i64 x1.1, .str x1.2.1, .str x1.2.2.1, .int .i64 x1.2.2.2.1, .int .i64 x1.2.2.2.2.1, .int .i64 x1.2.2.2.2.2.1, .int .i64 x1.2.2.2.2.2.2.1, .int .i64 x1.2.2.2.2.2.2.2.1, .str x1.2.2.2.2.2.2.2.2]] [] =
    t84   x0 x1 := by kernel_rfl

/-! 85 -/
def c85_0 : ACode := (.seq (.region [.fld 5 (.t 3) 0, .load 6 (.t 5) none, .bin 7 .eql (.t 6) (.c (.int .i64 1)), .mv 8 (.t 7), .sc 8 true [.fld 9 (.t 3) 1, .load 10 (.t 9) none, .fld 11 (.t 2) 1, .load 12 (.t 11) none, .bin 13 .eql (.t 10) (.t 12)] 14 (.t 13) (.c (.bool false)), .mv 15 (.t 14), .sc 15 true [.fld 16 (.t 3) 2, .load 17 (.t 16) none, .fld 18 (.t 2) 8, .load 19 (.t 18) none, .bin 20 .eql (.t 17) (.t 19)] 21 (.t 20) (.c (.bool false)), .mv 22 (.t 21), .sc 22 true [.fld 23 (.t 3) 4, .load 24 (.t 23) none, .bin 25 .lss (.t 24) (.c (.int .i64 0)), .mv 26 (.t 25), .sc 26 false [.fld 27 (.t 3) 5, .load 28 (.t 27) none, .fld 29 (.t 2) 5, .load 30 (.t 29) none, .bin 31 .eql (.t 28) (.t 30)] 32 (.c (.bool true)) (.t 31)] 33 (.t 32) (.c (.bool false)), .mv 4 (.t 33)] [4]) .ret)
def a85 : AFn := ⟨[.val (.pair (.int .i64) (.pair .str (.pair .str (.pair (.int .i64) (.pair (.int .i64) (.pair (.int .i64) (.pair (.int .i64) (.pair (.int .i64) .str)))))))), .val (.pair (.int .i64) (.pair .str (.pair .str (.pair (.int .i64) (.pair (.int .i64) (.pair (.int .i64) (.pair (.int .i64) (.pair (.int .i64) .str))))))))], [⟨4, false, .bool⟩], (.seq (.region [.box 2 (.t 0) false, .box 3 (.t 1) false, .mv 4 (.c (.bool false))] [2, 3]) c85_0)⟩
def t85   (x0 : Int × ByteArray × ByteArray × Int × Int × Int × Int × Int × ByteArray) (x1 : Int × ByteArray × ByteArray × Int × Int × Int × Int × Int × ByteArray) : Option Bool := (if (x1.1 == (1 : Int)) = true then (if (x1.2.1.toList == x0.2.1.toList) = true then (if (x1.2.2.1.toList == x0.2.2.2.2.2.2.2.2.toList) = true then (if (decide (x1.2.2.2.2.1 < (0 : Int))) = false then (some (x1.2.2.2.2.2.1 == x0.2.2.2.2.2.1)) else (some true)) else (some false)) else (some false)) else (some false))
theorem h85 (cal : Cal) (x0 : Int × ByteArray × ByteArray × Int × Int × Int × Int × Int × ByteArray) (x1 : Int × ByteArray × ByteArray × Int × Int × Int × Int × Int × ByteArray) :
    bodyL cal a85 [.agg [.int .i64 x0.1, .str x0.2.1, .str x0.2.2.1, .int .i64 x0.2.2.2.1, .int .i64 x0.2.2.2.2.1, .int .i64 x0.2.2.2.2.2.1, .int .i64 x0.2.2.2.2.2.2.1, .int .i64 x0.2.2.2.2.2.2.2.1, .str x0.2.2.2.2.2.2.2.2], .agg [.int .i64 x1.1, .str x1.2.1, .str x1.2.2.1, .int .i64 x1.2.2.2.1, .int .i64 x1.2.2.2.2.1, .int .i64 x1.2.2.2.2.2.1, .int .i64 x1.2.2.2.2.2.2.1, .int .i64 x1.2.2.2.2.2.2.2.1, .str x1.2.2.2.2.2.2.2.2]] [] =
    t85   x0 x1 := by kernel_rfl

/-! 87 -/
def c87_0 : ACode := (.cond (.t 10) (.seq (.region [.mv 4 (.c (.int .i64 (-1)))] [4]) .ret) .skip)
def c87_1 : ACode := (.cond (.t 16) (.seq (.region [.mv 4 (.c (.int .i64 (-1)))] [4]) .ret) .skip)
def c87_2 : ACode := (.seq (.region [.mv 17 (.t 1), .mv 4 (.t 17)] [4]) .ret)
def c87_3 : ACode := (.seq (.seq (.region [.mv 15 (.t 1), .bin 16 .lss (.t 15) (.c (.int .i64 0))] [1, 16]) c87_1) c87_2)
def c87_4 : ACode := (.seq (.region [.fld 11 (.t 2) 6, .load 12 (.t 11) none, .mv 13 (.t 1), .call (some 14) 75 [(.t 12, .bor (.slice (.int .i64))), (.t 13, .val (.int .i64))] [(.int .i64)], .mv 1 (.t 14)] [1]) c87_3)
def c87_5 : ACode := (.seq (.seq (.region [.mv 9 (.t 1), .bin 10 .lss (.t 9) (.c (.int .i64 0))] [1, 2, 10]) c87_0) c87_4)
def c87_6 : ACode := (.seq (.region [.fld 5 (.t 2) 3, .load 6 (.t 5) (some 3), .mv 7 (.t 1), .call (some 8) 72 [(.t 6, .val (.pair .str (.pair .str (.int .i64)))), (.t 7, .val (.int .i64))] [(.int .i64)], .mv 1 (.t 8)] [1, 2]) c87_5)
def a87 : AFn := ⟨[.val (.pair (.int .i64) (.pair (.int .i64) (.pair (.int .i64) (.pair (.pair .str (.pair .str (.int .i64))) (.slice (.int .i64)))))), .val (.int .i64)], [⟨4, false, (.int .i64)⟩], (.seq (.region [.box 2 (.t 0) false, .mv 4 (.c (.int .i64 0))] [1, 2]) c87_6)⟩
def t87 (C72 : (ByteArray × ByteArray × Int) → Int → Option Int) (C75 : (List Int) → Int → Option Int)  (x0 : Int × Int × Int × (ByteArray × ByteArray × Int) × List Int) (x1 : Int) : Option Int := ((C72 x0.2.2.2.1 x1).bind fun y1 => (if (decide (y1 < (0 : Int))) = true then (some (-1 : Int)) else ((C75 x0.2.2.2.2 y1).bind fun y2 => (if (decide (y2 < (0 : Int))) = true then (some (-1 : Int)) else (some y2)))))
theorem h87 (cal : Cal) (x0 : Int × Int × Int × (ByteArray × ByteArray × Int) × List Int) (x1 : Int) :
    bodyL cal a87 [.agg [.int .i64 x0.1, .int .i64 x0.2.1, .int .i64 x0.2.2.1, .str x0.2.2.2.1.1, .str x0.2.2.2.1.2.1, .int .i64 x0.2.2.2.1.2.2, .lst (.int .i64) x0.2.2.2.2], .int .i64 x1] [] =
    t87 (fun (q0 : ByteArray × ByteArray × Int) (q1 : Int) => (cal 72 [.agg [.str q0.1, .str q0.2.1, .int .i64 q0.2.2], .int .i64 q1] []).bind (decAll [(.int .i64)])) (fun (q0 : List Int) (q1 : Int) => (cal 75 [.lst (.int .i64) q0, .int .i64 q1] []).bind (decAll [(.int .i64)]))  x0 x1 := by kernel_rfl

/-! 88 -/
def c88_0 : ACode := (.cond (.t 7) .skip (.exit 0))
def c88_1 : ACode := (.cond (.t 31) (.seq (.region [.mv 2 (.c (.bool false))] [2]) .ret) .skip)
def c88_2 : ACode := (.region [.mv 8 (.t 3), .bin 9 .add (.t 8) (.c (.int .i64 1)), .mv 3 (.t 9)] [0, 3])
def c88_3 : ACode := (.seq (.block 1 [0, 3] (.seq (.draw [[], [], [0, 1], [0, 1, 2], [0, 1, 2, 3], [0, 1, 2, 3, 4], [0, 1, 2, 3, 4, 5], [0, 1, 2, 3, 4, 5, 6], [0, 1, 2, 3, 4, 5, 6, 7], [0, 1, 2, 3, 4, 5, 6, 7, 8], [0, 1, 2, 3, 4, 5, 6, 7, 8, 9], [0, 1, 2, 3, 4, 5, 6, 7, 8, 9], [0, 1, 2, 3, 4, 5, 6, 7, 8, 9, 11], [0, 1, 2, 3, 4, 5, 6, 7, 8, 9, 10, 11, 12], [0, 1, 2, 3, 4, 5, 6, 7, 8, 9, 10, 11, 12, 13], [0, 1, 2, 3, 4, 5, 6, 7, 8, 9], [0, 1, 2, 3, 4, 5, 6, 7, 8, 9], [0, 1, 2, 3, 4, 5, 6, 7, 8, 9, 15, 16], [0, 1, 2, 3, 4, 5, 6, 7, 8, 9, 15, 16, 17], [0, 1, 2, 3, 4, 5, 6, 7, 8, 9, 10, 11, 12, 13, 14, 15, 16, 17, 18], [0, 1, 2, 3, 4, 5, 6, 7, 8, 9, 10, 11, 12, 13, 14, 15, 16, 17, 18, 19], [0, 1, 2, 3, 4, 5, 6, 7, 8, 9, 10, 11, 12, 13, 14, 15, 16, 17, 18, 19, 20]] (.take 0 none (.mv 10 (.t 0)) (.take 1 none (.mv 11 (.t 3)) (.take 2 none (.idx 12 1 (.t 10) (.t 11)) (.take 3 none (.load 13 (.t 12) none) (.only 4 none (.call (some 14) 66 [(.t 13, .val (.int .i64)), (.c (.int .i64 1), .val (.int .i64)), (.c (.int .i64 6), .val (.int .i64))] [.bool]) (.take 5 none (.un 15 .not (.t 14)) (.take 6 none (.mv 16 (.t 15)) (.test 16 (.skip 7 (16, false) (some 17) (.skip 8 (16, false) (some 18) (.skip 9 (16, false) (some 19) (.skip 10 (19, true) (some 20) (.skip 11 (19, true) (some 21) (.skip 12 (19, true) (some 22) (.skip 13 (19, true) (some 23) (.skip 14 (19, true) (some 24) (.skip 15 (19, true) (some 25) (.skip 16 (19, true) (some 26) (.skip 17 (19, true) (some 27) (.skip 18 (19, true) (some 28) (.skip 19 (19, true) (some 29) (.skip 20 (16, false) (some 30) (.take 21 none (.pick 31 (.t 16) (.c (.bool true)) (.t 30)) .done))))))))))))))) (.take 7 (some (16, false)) (.mv 17 (.t 3)) (.take 8 (some (16, false)) (.bin 18 .gtr (.t 17) (.c (.int .i64 0))) (.take 9 (some (16, false)) (.mv 19 (.t 18)) (.test 19 (.take 10 (some (19, true)) (.mv 20 (.t 0)) (.take 11 (some (19, true)) (.mv 21 (.t 3)) (.take 12 (some (19, true)) (.bin 22 .sub (.t 21) (.c (.int .i64 1))) (.take 13 (some (19, true)) (.idx 23 1 (.t 20) (.t 22)) (.take 14 (some (19, true)) (.load 24 (.t 23) none) (.take 15 (some (19, true)) (.mv 25 (.t 0)) (.take 16 (some (19, true)) (.mv 26 (.t 3)) (.take 17 (some (19, true)) (.idx 27 1 (.t 25) (.t 26)) (.take 18 (some (19, true)) (.load 28 (.t 27) none) (.take 19 (some (19, true)) (.bin 29 .geq (.t 24) (.t 28)) (.take 20 (some (16, false)) (.pick 30 (.t 19) (.t 29) (.c (.bool false))) (.take 21 none (.pick 31 (.t 16) (.c (.bool true)) (.t 30)) .done)))))))))))) (.skip 10 (19, true) (some 20) (.skip 11 (19, true) (some 21) (.skip 12 (19, true) (some 22) (.skip 13 (19, true) (some 23) (.skip 14 (19, true) (some 24) (.skip 15 (19, true) (some 25) (.skip 16 (19, true) (some 26) (.skip 17 (19, true) (some 27) (.skip 18 (19, true) (some 28) (.skip 19 (19, true) (some 29) (.take 20 (some (16, false)) (.pick 30 (.t 19) (.t 29) (.c (.bool false))) (.take 21 none (.pick 31 (.t 16) (.c (.bool true)) (.t 30)) .done)))))))))))))))))))))))) [0, 3, 31]) c88_1)) c88_2)
def c88_4 : ACode := (.seq (.seq (.region [.mv 4 (.t 3), .mv 5 (.t 0), .len 6 false (.t 5), .bin 7 .lss (.t 4) (.t 6)] [0, 3, 7]) c88_0) c88_3)
def c88_5 : ACode := (.block 0 [] (.loop [0, 3] c88_4))
def c88_6 : ACode := (.seq (.region [.mv 2 (.c (.bool true))] [2]) .ret)
def c88_7 : ACode := (.seq (.seq (.region [.mv 3 (.c (.int .i64 0))] [0, 3]) c88_5) c88_6)
def a88 : AFn := ⟨[.val (.slice (.int .i64))], [⟨2, false, .bool⟩], (.seq (.region [.mv 2 (.c (.bool false))] [0]) c88_7)⟩
def t88_L0 (C66 : Int → Int → Int → Option Bool)  (goL0 : (List Int) → Int → Option Bool) (x0 : List Int) (x1 : Int) : Option Bool := (if (decide (x1 < (x0.length : Int))) = true then (if 0 ≤ x1 then (if x1 < (x0.length : Int) then ((C66 (x0.getD x1.toNat (0 : Int)) (1 : Int) (6 : Int)).bind fun y1 => (if (!y1) = true then (some false) else (if (decide (x1 > (0 : Int))) = true then (if 0 ≤ (IntKind.i64.wrap (x1 - (1 : Int))) then (if (IntKind.i64.wrap (x1 - (1 : Int))) < (x0.length : Int) then (if 0 ≤ x1 then (if x1 < (x0.length : Int) then (if (decide ((x0.getD (IntKind.i64.wrap (x1 - (1 : Int))).toNat (0 : Int)) ≥ (x0.getD x1.toNat (0 : Int)))) = true then (some false) else (goL0 x0 (IntKind.i64.wrap (x1 + (1 : Int))))) else none) else none) else none) else none) else (goL0 x0 (IntKind.i64.wrap (x1 + (1 : Int))))))) else none) else none) else (some true))
def t88 (C66 : Int → Int → Int → Option Bool) (L0 : (List Int) → Int → Option Bool) (x0 : List Int) : Option Bool := (L0 x0 (0 : Int))
noncomputable def e88_L0 (cal : Cal)  (s : St) : Option (RT (AFn.outs a88)) := loopL (fun goL0 s' => codeG cal loopL c88_4 (fun s'' => goL0 (s''.cut [0, 3] 0)) (retK a88) (fun i s' => if i = 0 then (fun s' => codeG cal loopL c88_6 (retK a88) (retK a88) (fun _ _ => none) s') (s'.cut [] 0) else (fun _ _ => none) i s') s') s
theorem h88_L0 (cal : Cal) (goL0 : St → Option (RT (AFn.outs a88))) (x0 : List Int) (x1 : Int) :
    codeG cal loopL c88_4 (fun s'' => goL0 (s''.cut [0, 3] 0)) (retK a88) (fun i s' => if i = 0 then (fun s' => codeG cal loopL c88_6 (retK a88) (retK a88) (fun _ _ => none) s') (s'.cut [] 0) else (fun _ _ => none) i s') ⟨[(0, .lst (.int .i64) x0), (3, .int .i64 x1)], []⟩ =
    t88_L0 (fun (q0 : Int) (q1 : Int) (q2 : Int) => (cal 66 [.int .i64 q0, .int .i64 q1, .int .i64 q2] []).bind (decAll [.bool]))  (fun (x0 : List Int) (x1 : Int) => goL0 ⟨[(0, .lst (.int .i64) x0), (3, .int .i64 x1)], []⟩) x0 x1 := by kernel_rfl
theorem h88 (cal : Cal) (x0 : List Int) :
    bodyL cal a88 [.lst (.int .i64) x0] [] =
    t88 (fun (q0 : Int) (q1 : Int) (q2 : Int) => (cal 66 [.int .i64 q0, .int .i64 q1, .int .i64 q2] []).bind (decAll [.bool])) (fun (x0 : List Int) (x1 : Int) => e88_L0 cal  ⟨[(0, .lst (.int .i64) x0), (3, .int .i64 x1)], []⟩) x0 := by kernel_rfl
end Go.Proofs.Ytlegaocnobapgaa.Core
