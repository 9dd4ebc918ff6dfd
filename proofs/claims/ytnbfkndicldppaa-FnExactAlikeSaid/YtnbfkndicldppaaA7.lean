/- Code and typed functions. Written by a program of this part. -/
import Derived.Test.YtnbfkndicldppaaKinds
namespace Go.Proofs.Ytnbfkndicldppaa.Core
open Go
set_option linter.unusedVariables false
set_option maxRecDepth 100000

/-! 194 loop.example/g00180/laws.eqMsgS -/
def c_laws_eqMsgS_0 : ACode := (.cond (.t 10) (.seq (.region [.mv 4 (.c (.bool false))] [4]) .ret) .skip)
def c_laws_eqMsgS_1 : ACode := (.cond (.t 14) .skip (.exit 0))
def c_laws_eqMsgS_2 : ACode := (.cond (.t 26) (.seq (.region [.mv 4 (.c (.bool false))] [4]) .ret) .skip)
def c_laws_eqMsgS_3 : ACode := (.region [.mv 15 (.t 5), .bin 16 .add (.t 15) (.c (.int .i64 1)), .mv 5 (.t 16)] [0, 1, 5])
def c_laws_eqMsgS_4 : ACode := (.seq (.block 1 [0, 1, 5] (.seq (.draw [[], [], [0, 1], [0, 1, 2], [], [], [4, 5], [4, 5, 6], [0, 1, 2, 3, 4, 5, 6, 7], [0, 1, 2, 3, 4, 5, 6, 7, 8]] (.take 0 none (.mv 17 (.t 0)) (.take 1 none (.mv 18 (.t 5)) (.take 2 none (.idx 19 6 (.t 17) (.t 18)) (.take 3 none (.load 20 (.t 19) (some 6)) (.take 4 none (.mv 21 (.t 1)) (.take 5 none (.mv 22 (.t 5)) (.take 6 none (.idx 23 6 (.t 21) (.t 22)) (.take 7 none (.load 24 (.t 23) (some 6)) (.only 8 none (.call (some 25) 42 [(.t 20, .val k_Msg), (.t 24, .val k_Msg)] [.bool]) [] (.take 9 none (.un 26 .not (.t 25)) .done)))))))))) [0, 1, 5, 26]) c_laws_eqMsgS_2)) c_laws_eqMsgS_3)
def c_laws_eqMsgS_5 : ACode := (.seq (.seq (.region [.mv 11 (.t 5), .mv 12 (.t 0), .len 13 false (.t 12), .bin 14 .lss (.t 11) (.t 13)] [0, 1, 5, 14]) c_laws_eqMsgS_1) c_laws_eqMsgS_4)
def c_laws_eqMsgS_6 : ACode := (.block 0 [] (.loop [0, 1, 5] c_laws_eqMsgS_5))
def c_laws_eqMsgS_7 : ACode := (.seq (.region [.mv 4 (.c (.bool true))] [4]) .ret)
def c_laws_eqMsgS_8 : ACode := (.seq (.seq (.region [.mv 5 (.c (.int .i64 0))] [0, 1, 5]) c_laws_eqMsgS_6) c_laws_eqMsgS_7)
def c_laws_eqMsgS_9 : ACode := (.seq (.seq (.region [.mv 6 (.t 0), .len 7 false (.t 6), .mv 8 (.t 1), .len 9 false (.t 8), .bin 10 .neq (.t 7) (.t 9)] [0, 1, 10]) c_laws_eqMsgS_0) c_laws_eqMsgS_8)
def a_laws_eqMsgS : AFn := ⟨[.val (.slice k_Msg), .val (.slice k_Msg)], [⟨4, false, .bool⟩], (.seq (.region [.mv 4 (.c (.bool false))] [0, 1]) c_laws_eqMsgS_9)⟩
def t_laws_eqMsgS_L0 (C_laws_eqMsg : y_Msg → y_Msg → Option Bool)  (goL0 : (List y_Msg) → (List y_Msg) → Int → Option Bool) (x0 : List y_Msg) (x1 : List y_Msg) (x2 : Int) : Option Bool := (if (decide (x2 < (x0.length : Int))) = true then (if 0 ≤ x2 then (if x2 < (x0.length : Int) then (if 0 ≤ x2 then (if x2 < (x1.length : Int) then ((C_laws_eqMsg (x0.getD x2.toNat ((0 : Int), (0 : Int), (0 : Int), (0 : Int), (0 : Int), ([] : List y_Item))) (x1.getD x2.toNat ((0 : Int), (0 : Int), (0 : Int), (0 : Int), (0 : Int), ([] : List y_Item)))).bind fun y1 => (if (!y1) = true then (some false) else (goL0 x0 x1 (IntKind.i64.wrap (x2 + (1 : Int)))))) else none) else none) else none) else none) else (some true))
def t_laws_eqMsgS (C_laws_eqMsg : y_Msg → y_Msg → Option Bool) (L0 : (List y_Msg) → (List y_Msg) → Int → Option Bool) (x0 : List y_Msg) (x1 : List y_Msg) : Option Bool := (if ((x0.length : Int) != (x1.length : Int)) = true then (some false) else (L0 x0 x1 (0 : Int)))
noncomputable def e_laws_eqMsgS_L0 (cal : Cal)  (s : St) : Option (RT (AFn.outs a_laws_eqMsgS)) := loopL (fun goL0 s' => codeG cal loopL c_laws_eqMsgS_5 (fun s'' => goL0 (s''.cut [0, 1, 5] 0)) (retK a_laws_eqMsgS) (fun i s' => if i = 0 then (fun s' => codeG cal loopL c_laws_eqMsgS_7 (retK a_laws_eqMsgS) (retK a_laws_eqMsgS) (fun _ _ => none) s') (s'.cut [] 0) else (fun _ _ => none) i s') s') s
theorem h_laws_eqMsgS_L0 (cal : Cal) (goL0 : St → Option (RT (AFn.outs a_laws_eqMsgS))) (x0 : List y_Msg) (x1 : List y_Msg) (x2 : Int) :
    codeG cal loopL c_laws_eqMsgS_5 (fun s'' => goL0 (s''.cut [0, 1, 5] 0)) (retK a_laws_eqMsgS) (fun i s' => if i = 0 then (fun s' => codeG cal loopL c_laws_eqMsgS_7 (retK a_laws_eqMsgS) (retK a_laws_eqMsgS) (fun _ _ => none) s') (s'.cut [] 0) else (fun _ _ => none) i s') ⟨[(0, .lst k_Msg x0), (1, .lst k_Msg x1), (5, .int .i64 x2)], []⟩ =
    t_laws_eqMsgS_L0 (fun (q0 : y_Msg) (q1 : y_Msg) => (cal 42 [.agg [.int .i64 q0.1, .int .i64 q0.2.1, .int .i64 q0.2.2.1, .int .i64 q0.2.2.2.1, .int .i64 q0.2.2.2.2.1, .lst k_Item q0.2.2.2.2.2], .agg [.int .i64 q1.1, .int .i64 q1.2.1, .int .i64 q1.2.2.1, .int .i64 q1.2.2.2.1, .int .i64 q1.2.2.2.2.1, .lst k_Item q1.2.2.2.2.2]] []).bind (decAll [.bool]))  (fun (x0 : List y_Msg) (x1 : List y_Msg) (x2 : Int) => goL0 ⟨[(0, .lst k_Msg x0), (1, .lst k_Msg x1), (5, .int .i64 x2)], []⟩) x0 x1 x2 := by kernel_rfl
theorem h_laws_eqMsgS (cal : Cal) (x0 : List y_Msg) (x1 : List y_Msg) :
    bodyL cal a_laws_eqMsgS [.lst k_Msg x0, .lst k_Msg x1] [] =
    t_laws_eqMsgS (fun (q0 : y_Msg) (q1 : y_Msg) => (cal 42 [.agg [.int .i64 q0.1, .int .i64 q0.2.1, .int .i64 q0.2.2.1, .int .i64 q0.2.2.2.1, .int .i64 q0.2.2.2.2.1, .lst k_Item q0.2.2.2.2.2], .agg [.int .i64 q1.1, .int .i64 q1.2.1, .int .i64 q1.2.2.1, .int .i64 q1.2.2.2.1, .int .i64 q1.2.2.2.2.1, .lst k_Item q1.2.2.2.2.2]] []).bind (decAll [.bool])) (fun (x0 : List y_Msg) (x1 : List y_Msg) (x2 : Int) => e_laws_eqMsgS_L0 cal  ⟨[(0, .lst k_Msg x0), (1, .lst k_Msg x1), (5, .int .i64 x2)], []⟩) x0 x1 := by kernel_rfl

/-! 195 loop.example/g00180/spec.l16SameItems -/
def c_spec_l16SameItems_0 : ACode := (.cond (.t 10) (.seq (.region [.mv 4 (.c (.bool false))] [4]) .ret) .skip)
def c_spec_l16SameItems_1 : ACode := (.cond (.t 14) .skip (.exit 0))
def c_spec_l16SameItems_2 : ACode := (.cond (.t 25) (.seq (.region [.mv 4 (.c (.bool false))] [4]) .ret) .skip)
def c_spec_l16SameItems_3 : ACode := (.region [.mv 15 (.t 5), .bin 16 .add (.t 15) (.c (.int .i64 1)), .mv 5 (.t 16)] [0, 1, 5])
def c_spec_l16SameItems_4 : ACode := (.seq (.block 1 [0, 1, 5] (.seq (.draw [[], [], [0, 1], [0, 1, 2], [], [], [4, 5], [4, 5, 6], [0, 1, 2, 3, 4, 5, 6, 7]] (.take 0 none (.mv 17 (.t 0)) (.take 1 none (.mv 18 (.t 5)) (.take 2 none (.idx 19 3 (.t 17) (.t 18)) (.take 3 none (.load 20 (.t 19) (some 3)) (.take 4 none (.mv 21 (.t 1)) (.take 5 none (.mv 22 (.t 5)) (.take 6 none (.idx 23 3 (.t 21) (.t 22)) (.take 7 none (.load 24 (.t 23) (some 3)) (.take 8 none (.eqs 25 true k_Item (.t 20) (.t 24)) .done))))))))) [0, 1, 5, 25]) c_spec_l16SameItems_2)) c_spec_l16SameItems_3)
def c_spec_l16SameItems_5 : ACode := (.seq (.seq (.region [.mv 11 (.t 5), .mv 12 (.t 0), .len 13 false (.t 12), .bin 14 .lss (.t 11) (.t 13)] [0, 1, 5, 14]) c_spec_l16SameItems_1) c_spec_l16SameItems_4)
def c_spec_l16SameItems_6 : ACode := (.block 0 [] (.loop [0, 1, 5] c_spec_l16SameItems_5))
def c_spec_l16SameItems_7 : ACode := (.seq (.region [.mv 4 (.c (.bool true))] [4]) .ret)
def c_spec_l16SameItems_8 : ACode := (.seq (.seq (.region [.mv 5 (.c (.int .i64 0))] [0, 1, 5]) c_spec_l16SameItems_6) c_spec_l16SameItems_7)
def c_spec_l16SameItems_9 : ACode := (.seq (.seq (.region [.mv 6 (.t 0), .len 7 false (.t 6), .mv 8 (.t 1), .len 9 false (.t 8), .bin 10 .neq (.t 7) (.t 9)] [0, 1, 10]) c_spec_l16SameItems_0) c_spec_l16SameItems_8)
def a_spec_l16SameItems : AFn := ⟨[.val (.slice k_Item), .val (.slice k_Item)], [⟨4, false, .bool⟩], (.seq (.region [.mv 4 (.c (.bool false))] [0, 1]) c_spec_l16SameItems_9)⟩
def t_spec_l16SameItems_L0   (goL0 : (List y_Item) → (List y_Item) → Int → Option Bool) (x0 : List y_Item) (x1 : List y_Item) (x2 : Int) : Option Bool := (if (decide (x2 < (x0.length : Int))) = true then (if 0 ≤ x2 then (if x2 < (x0.length : Int) then (if 0 ≤ x2 then (if x2 < (x1.length : Int) then (if (true != eqK k_Item (x0.getD x2.toNat (ByteArray.empty, ByteArray.empty, (0 : Int))) (x1.getD x2.toNat (ByteArray.empty, ByteArray.empty, (0 : Int)))) = true then (some false) else (goL0 x0 x1 (IntKind.i64.wrap (x2 + (1 : Int))))) else none) else none) else none) else none) else (some true))
def t_spec_l16SameItems  (L0 : (List y_Item) → (List y_Item) → Int → Option Bool) (x0 : List y_Item) (x1 : List y_Item) : Option Bool := (if ((x0.length : Int) != (x1.length : Int)) = true then (some false) else (L0 x0 x1 (0 : Int)))
noncomputable def e_spec_l16SameItems_L0 (cal : Cal)  (s : St) : Option (RT (AFn.outs a_spec_l16SameItems)) := loopL (fun goL0 s' => codeG cal loopL c_spec_l16SameItems_5 (fun s'' => goL0 (s''.cut [0, 1, 5] 0)) (retK a_spec_l16SameItems) (fun i s' => if i = 0 then (fun s' => codeG cal loopL c_spec_l16SameItems_7 (retK a_spec_l16SameItems) (retK a_spec_l16SameItems) (fun _ _ => none) s') (s'.cut [] 0) else (fun _ _ => none) i s') s') s
theorem h_spec_l16SameItems_L0 (cal : Cal) (goL0 : St → Option (RT (AFn.outs a_spec_l16SameItems))) (x0 : List y_Item) (x1 : List y_Item) (x2 : Int) :
    codeG cal loopL c_spec_l16SameItems_5 (fun s'' => goL0 (s''.cut [0, 1, 5] 0)) (retK a_spec_l16SameItems) (fun i s' => if i = 0 then (fun s' => codeG cal loopL c_spec_l16SameItems_7 (retK a_spec_l16SameItems) (retK a_spec_l16SameItems) (fun _ _ => none) s') (s'.cut [] 0) else (fun _ _ => none) i s') ⟨[(0, .lst k_Item x0), (1, .lst k_Item x1), (5, .int .i64 x2)], []⟩ =
    t_spec_l16SameItems_L0   (fun (x0 : List y_Item) (x1 : List y_Item) (x2 : Int) => goL0 ⟨[(0, .lst k_Item x0), (1, .lst k_Item x1), (5, .int .i64 x2)], []⟩) x0 x1 x2 := by kernel_rfl
theorem h_spec_l16SameItems (cal : Cal) (x0 : List y_Item) (x1 : List y_Item) :
    bodyL cal a_spec_l16SameItems [.lst k_Item x0, .lst k_Item x1] [] =
    t_spec_l16SameItems  (fun (x0 : List y_Item) (x1 : List y_Item) (x2 : Int) => e_spec_l16SameItems_L0 cal  ⟨[(0, .lst k_Item x0), (1, .lst k_Item x1), (5, .int .i64 x2)], []⟩) x0 x1 := by kernel_rfl

/-! 196 slices.Equal[[]loop.example/g00180/impl.Item,loop.example/g00180/impl.Item] -/
def c_slices_Equal_impl_Item_impl_Item_0 : ACode := (.cond (.t 10) (.seq (.region [.mv 4 (.c (.bool false))] [4]) .ret) .skip)
def c_slices_Equal_impl_Item_impl_Item_1 : ACode := (.cond (.t 24) (.seq (.region [.mv 4 (.c (.bool false))] [4]) .ret) .skip)
def c_slices_Equal_impl_Item_impl_Item_2 : ACode := (.seq (.draw [[], [], [0, 1], [0, 1, 2], [], [], [4, 5], [4, 5, 6], [0, 1, 2, 3, 4, 5, 6, 7]] (.take 0 none (.mv 16 (.t 0)) (.take 1 none (.mv 17 (.t 5)) (.take 2 none (.idx 18 3 (.t 16) (.t 17)) (.take 3 none (.load 19 (.t 18) (some 3)) (.take 4 none (.mv 20 (.t 1)) (.take 5 none (.mv 21 (.t 5)) (.take 6 none (.idx 22 3 (.t 20) (.t 21)) (.take 7 none (.load 23 (.t 22) (some 3)) (.take 8 none (.eqs 24 true k_Item (.t 19) (.t 23)) .done))))))))) [0, 1, 12, 13, 24]) c_slices_Equal_impl_Item_impl_Item_1)
def c_slices_Equal_impl_Item_impl_Item_3 : ACode := (.region [.bin 25 .add (.t 13) (.c (.int .i64 1)), .mv 13 (.t 25)] [0, 1, 12, 13])
def c_slices_Equal_impl_Item_impl_Item_4 : ACode := (.seq (.block 1 [0, 1, 12, 13] (.seq (.region [.mv 15 (.t 13), .mv 5 (.t 15)] [0, 1, 5, 12, 13]) c_slices_Equal_impl_Item_impl_Item_2)) c_slices_Equal_impl_Item_impl_Item_3)
def c_slices_Equal_impl_Item_impl_Item_5 : ACode := (.seq (.cond (.t 14) .skip (.exit 0)) c_slices_Equal_impl_Item_impl_Item_4)
def c_slices_Equal_impl_Item_impl_Item_6 : ACode := (.seq (.region [.bin 14 .lss (.t 13) (.t 12)] [0, 1, 12, 13, 14]) c_slices_Equal_impl_Item_impl_Item_5)
def c_slices_Equal_impl_Item_impl_Item_7 : ACode := (.block 0 [] (.loop [0, 1, 12, 13] c_slices_Equal_impl_Item_impl_Item_6))
def c_slices_Equal_impl_Item_impl_Item_8 : ACode := (.seq (.region [.mv 4 (.c (.bool true))] [4]) .ret)
def c_slices_Equal_impl_Item_impl_Item_9 : ACode := (.seq (.seq (.region [.mv 11 (.t 0), .len 12 false (.t 11), .mv 13 (.c (.int .i64 0))] [0, 1, 12, 13]) c_slices_Equal_impl_Item_impl_Item_7) c_slices_Equal_impl_Item_impl_Item_8)
def c_slices_Equal_impl_Item_impl_Item_10 : ACode := (.seq (.seq (.region [.mv 6 (.t 0), .len 7 false (.t 6), .mv 8 (.t 1), .len 9 false (.t 8), .bin 10 .neq (.t 7) (.t 9)] [0, 1, 10]) c_slices_Equal_impl_Item_impl_Item_0) c_slices_Equal_impl_Item_impl_Item_9)
def a_slices_Equal_impl_Item_impl_Item : AFn := ⟨[.val (.slice k_Item), .val (.slice k_Item)], [⟨4, false, .bool⟩], (.seq (.region [.mv 4 (.c (.bool false))] [0, 1]) c_slices_Equal_impl_Item_impl_Item_10)⟩
def t_slices_Equal_impl_Item_impl_Item_L0   (goL0 : (List y_Item) → (List y_Item) → Int → Int → Option Bool) (x0 : List y_Item) (x1 : List y_Item) (x2 : Int) (x3 : Int) : Option Bool := (if (decide (x3 < x2)) = true then (if 0 ≤ x3 then (if x3 < (x0.length : Int) then (if 0 ≤ x3 then (if x3 < (x1.length : Int) then (if (true != eqK k_Item (x0.getD x3.toNat (ByteArray.empty, ByteArray.empty, (0 : Int))) (x1.getD x3.toNat (ByteArray.empty, ByteArray.empty, (0 : Int)))) = true then (some false) else (goL0 x0 x1 x2 (IntKind.i64.wrap (x3 + (1 : Int))))) else none) else none) else none) else none) else (some true))
def t_slices_Equal_impl_Item_impl_Item  (L0 : (List y_Item) → (List y_Item) → Int → Int → Option Bool) (x0 : List y_Item) (x1 : List y_Item) : Option Bool := (if ((x0.length : Int) != (x1.length : Int)) = true then (some false) else (L0 x0 x1 (x0.length : Int) (0 : Int)))
noncomputable def e_slices_Equal_impl_Item_impl_Item_L0 (cal : Cal)  (s : St) : Option (RT (AFn.outs a_slices_Equal_impl_Item_impl_Item)) := loopL (fun goL0 s' => codeG cal loopL c_slices_Equal_impl_Item_impl_Item_6 (fun s'' => goL0 (s''.cut [0, 1, 12, 13] 0)) (retK a_slices_Equal_impl_Item_impl_Item) (fun i s' => if i = 0 then (fun s' => codeG cal loopL c_slices_Equal_impl_Item_impl_Item_8 (retK a_slices_Equal_impl_Item_impl_Item) (retK a_slices_Equal_impl_Item_impl_Item) (fun _ _ => none) s') (s'.cut [] 0) else (fun _ _ => none) i s') s') s
theorem h_slices_Equal_impl_Item_impl_Item_L0 (cal : Cal) (goL0 : St → Option (RT (AFn.outs a_slices_Equal_impl_Item_impl_Item))) (x0 : List y_Item) (x1 : List y_Item) (x2 : Int) (x3 : Int) :
    codeG cal loopL c_slices_Equal_impl_Item_impl_Item_6 (fun s'' => goL0 (s''.cut [0, 1, 12, 13] 0)) (retK a_slices_Equal_impl_Item_impl_Item) (fun i s' => if i = 0 then (fun s' => codeG cal loopL c_slices_Equal_impl_Item_impl_Item_8 (retK a_slices_Equal_impl_Item_impl_Item) (retK a_slices_Equal_impl_Item_impl_Item) (fun _ _ => none) s') (s'.cut [] 0) else (fun _ _ => none) i s') ⟨[(0, .lst k_Item x0), (1, .lst k_Item x1), (12, .int .i64 x2), (13, .int .i64 x3)], []⟩ =
    t_slices_Equal_impl_Item_impl_Item_L0   (fun (x0 : List y_Item) (x1 : List y_Item) (x2 : Int) (x3 : Int) => goL0 ⟨[(0, .lst k_Item x0), (1, .lst k_Item x1), (12, .int .i64 x2), (13, .int .i64 x3)], []⟩) x0 x1 x2 x3 := by kernel_rfl
theorem h_slices_Equal_impl_Item_impl_Item (cal : Cal) (x0 : List y_Item) (x1 : List y_Item) :
    bodyL cal a_slices_Equal_impl_Item_impl_Item [.lst k_Item x0, .lst k_Item x1] [] =
    t_slices_Equal_impl_Item_impl_Item  (fun (x0 : List y_Item) (x1 : List y_Item) (x2 : Int) (x3 : Int) => e_slices_Equal_impl_Item_impl_Item_L0 cal  ⟨[(0, .lst k_Item x0), (1, .lst k_Item x1), (12, .int .i64 x2), (13, .int .i64 x3)], []⟩) x0 x1 := by kernel_rfl

/-! 208 loop.example/g00180/spec.l01Once -/
def c_spec_l01Once_0 : ACode := (.seq (.region [.mv 5 (.t 0), .mv 6 (.t 1), .call (some 7) 107 [(.t 5, .ptr k_l01Cur), (.t 6, .val (.int .i64))] [(.int .i64)], .bin 8 .eql (.t 7) (.c (.int .i64 0)), .mv 4 (.t 8)] [4]) .ret)
def a_spec_l01Once : AFn := ⟨[.ptr k_l01Cur, .val (.int .i64)], [⟨4, false, .bool⟩], (.seq (.region [.mv 4 (.c (.bool false))] [0, 1]) c_spec_l01Once_0)⟩
def t_spec_l01Once (C_spec_l01Below : Int → y_l01Cur → Option (Int × y_l01Cur))  (x1 : Int) (b0 : y_l01Cur) : Option (Bool × y_l01Cur) := ((C_spec_l01Below x1 b0).bind fun y1 => (some ((y1.1 == (0 : Int)), y1.2)))
theorem h_spec_l01Once (cal : Cal) (x1 : Int) (b0 : y_l01Cur) :
    bodyL cal a_spec_l01Once [.ptr 0 0, .int .i64 x1] [.agg [.lst (.int .u8) b0.1, .int .i64 b0.2.1, .int .i64 b0.2.2]] =
    t_spec_l01Once (fun (q0 : Int) (q1 : y_l01Cur) => (cal 107 [.ptr 0 0, .int .i64 q0] [.agg [.lst (.int .u8) q1.1, .int .i64 q1.2.1, .int .i64 q1.2.2]]).bind (decAll [(.int .i64), k_l01Cur]))  x1 b0 := by kernel_rfl

/-! 209 loop.example/g00180/spec.l01PickInt -/
def c_spec_l01PickInt_0 : ACode := (.seq (.region [.mv 5 (.t 1), .mv 6 (.t 0), .mv 7 (.t 1), .len 8 false (.t 7), .call (some 9) 107 [(.t 6, .ptr k_l01Cur), (.t 8, .val (.int .i64))] [(.int .i64)], .idx 10 1 (.t 5) (.t 9), .load 11 (.t 10) none, .mv 4 (.t 11)] [4]) .ret)
def a_spec_l01PickInt : AFn := ⟨[.ptr k_l01Cur, .val (.slice (.int .i64))], [⟨4, false, (.int .i64)⟩], (.seq (.region [.mv 4 (.c (.int .i64 0))] [0, 1]) c_spec_l01PickInt_0)⟩
def t_spec_l01PickInt (C_spec_l01Below : Int → y_l01Cur → Option (Int × y_l01Cur))  (x1 : List Int) (b0 : y_l01Cur) : Option (Int × y_l01Cur) := ((C_spec_l01Below (x1.length : Int) b0).bind fun y1 => (if 0 ≤ y1.1 then (if y1.1 < (x1.length : Int) then (some ((x1.getD y1.1.toNat (0 : Int)), y1.2)) else none) else none))
theorem h_spec_l01PickInt (cal : Cal) (x1 : List Int) (b0 : y_l01Cur) :
    bodyL cal a_spec_l01PickInt [.ptr 0 0, .lst (.int .i64) x1] [.agg [.lst (.int .u8) b0.1, .int .i64 b0.2.1, .int .i64 b0.2.2]] =
    t_spec_l01PickInt (fun (q0 : Int) (q1 : y_l01Cur) => (cal 107 [.ptr 0 0, .int .i64 q0] [.agg [.lst (.int .u8) q1.1, .int .i64 q1.2.1, .int .i64 q1.2.2]]).bind (decAll [(.int .i64), k_l01Cur]))  x1 b0 := by kernel_rfl

/-! 210 loop.example/g00180/spec.l11Value -/
def c_spec_l11Value_0 : ACode := (.seq (.region [.mv 3 (.t 0), .brow 4 9 .str [.c (.str ⟨#[120]⟩), .c (.str ⟨#[121]⟩), .c (.str ⟨#[122]⟩), .c (.str ⟨#[49, 44, 50]⟩), .c (.str ⟨#[50, 44, 51]⟩)], .call (some 5) 229 [(.t 3, .ptr k_l01Cur), (.t 4, .val (.slice .str))] [.str], .mv 2 (.t 5)] [2]) .ret)
def a_spec_l11Value : AFn := ⟨[.ptr k_l01Cur], [⟨2, false, .str⟩], (.seq (.region [.mv 2 (.c (.str ⟨#[]⟩))] [0]) c_spec_l11Value_0)⟩
def t_spec_l11Value (C_spec_l01Pick : (List ByteArray) → y_l01Cur → Option (ByteArray × y_l01Cur))  (b0 : y_l01Cur) : Option (ByteArray × y_l01Cur) := ((C_spec_l01Pick ([(⟨#[120]⟩ : ByteArray), (⟨#[121]⟩ : ByteArray), (⟨#[122]⟩ : ByteArray), (⟨#[49, 44, 50]⟩ : ByteArray), (⟨#[50, 44, 51]⟩ : ByteArray)] : List ByteArray) b0).bind fun y1 => (some (y1.1, y1.2)))
theorem h_spec_l11Value (cal : Cal) (b0 : y_l01Cur) :
    bodyL cal a_spec_l11Value [.ptr 0 0] [.agg [.lst (.int .u8) b0.1, .int .i64 b0.2.1, .int .i64 b0.2.2]] =
    t_spec_l11Value (fun (q0 : List ByteArray) (q1 : y_l01Cur) => (cal 229 [.ptr 0 0, .lst .str q0] [.agg [.lst (.int .u8) q1.1, .int .i64 q1.2.1, .int .i64 q1.2.2]]).bind (decAll [.str, k_l01Cur]))  b0 := by kernel_rfl

/-! 211 loop.example/g00180/spec.l01Long -/
def c_spec_l01Long_0 : ACode := (.cond (.t 11) .skip (.exit 0))
def c_spec_l01Long_1 : ACode := (.region [.mv 12 (.t 6), .bin 13 .add (.t 12) (.c (.int .i64 1)), .mv 6 (.t 13)] [0, 1, 5, 6])
def c_spec_l01Long_2 : ACode := (.seq (.block 1 [0, 1, 5, 6] (.region [.mv 14 (.t 5), .mv 15 (.t 6), .mv 16 (.t 1), .idx 17 1 (.t 14) (.t 15), .store (.t 17) (.t 16) 1 false] [0, 1, 5, 6])) c_spec_l01Long_1)
def c_spec_l01Long_3 : ACode := (.seq (.seq (.region [.mv 9 (.t 6), .mv 10 (.t 0), .bin 11 .lss (.t 9) (.t 10)] [0, 1, 5, 6, 11]) c_spec_l01Long_0) c_spec_l01Long_2)
def c_spec_l01Long_4 : ACode := (.block 0 [5] (.loop [0, 1, 5, 6] c_spec_l01Long_3))
def c_spec_l01Long_5 : ACode := (.seq (.region [.mv 18 (.t 5), .bts 19 (.t 18), .mv 4 (.t 19)] [4]) .ret)
def c_spec_l01Long_6 : ACode := (.seq (.seq (.region [.mv 6 (.c (.int .i64 0))] [0, 1, 5, 6]) c_spec_l01Long_4) c_spec_l01Long_5)
def c_spec_l01Long_7 : ACode := (.seq (.region [.mv 7 (.t 0), .mk 8 5 (.int .u8) (.t 7), .mv 5 (.t 8)] [0, 1, 5]) c_spec_l01Long_6)
def a_spec_l01Long : AFn := ⟨[.val (.int .i64), .val (.int .u8)], [⟨4, false, .str⟩], (.seq (.region [.mv 4 (.c (.str ⟨#[]⟩))] [0, 1]) c_spec_l01Long_7)⟩
def t_spec_l01Long_L0   (goL0 : Int → Int → Int → (List Int) → Option ByteArray) (x0 : Int) (x1 : Int) (x2 : Int) (x3 : List Int) : Option ByteArray := (if (decide (x2 < x0)) = true then (if 0 ≤ x2 then (if x2 < (x3.length : Int) then (let z1 : List Int := x3.set x2.toNat x1; (goL0 x0 x1 (IntKind.i64.wrap (x2 + (1 : Int))) z1)) else none) else none) else (some (bytesOf x3)))
def t_spec_l01Long  (L0 : Int → Int → Int → (List Int) → Option ByteArray) (x0 : Int) (x1 : Int) : Option ByteArray := (if 0 ≤ x0 then (if x0 ≤ 68719476736 then (L0 x0 x1 (0 : Int) (List.replicate x0.toNat (0 : Int))) else none) else none)
noncomputable def e_spec_l01Long_L0 (cal : Cal)  (s : St) : Option (RT (AFn.outs a_spec_l01Long)) := loopL (fun goL0 s' => codeG cal loopL c_spec_l01Long_3 (fun s'' => goL0 (s''.cut [0, 1, 5, 6] 1)) (retK a_spec_l01Long) (fun i s' => if i = 0 then (fun s' => codeG cal loopL c_spec_l01Long_5 (retK a_spec_l01Long) (retK a_spec_l01Long) (fun _ _ => none) s') (s'.cut [5] 1) else (fun _ _ => none) i s') s') s
theorem h_spec_l01Long_L0 (cal : Cal) (goL0 : St → Option (RT (AFn.outs a_spec_l01Long))) (x0 : Int) (x1 : Int) (x2 : Int) (x3 : List Int) :
    codeG cal loopL c_spec_l01Long_3 (fun s'' => goL0 (s''.cut [0, 1, 5, 6] 1)) (retK a_spec_l01Long) (fun i s' => if i = 0 then (fun s' => codeG cal loopL c_spec_l01Long_5 (retK a_spec_l01Long) (retK a_spec_l01Long) (fun _ _ => none) s') (s'.cut [5] 1) else (fun _ _ => none) i s') ⟨[(0, .int .i64 x0), (1, .int .u8 x1), (5, .row 0), (6, .int .i64 x2)], [.rows 5 (.int .u8) x3]⟩ =
    t_spec_l01Long_L0   (fun (x0 : Int) (x1 : Int) (x2 : Int) (x3 : List Int) => goL0 ⟨[(0, .int .i64 x0), (1, .int .u8 x1), (5, .row 0), (6, .int .i64 x2)], [.rows 5 (.int .u8) x3]⟩) x0 x1 x2 x3 := by kernel_rfl
theorem h_spec_l01Long (cal : Cal) (x0 : Int) (x1 : Int) :
    bodyL cal a_spec_l01Long [.int .i64 x0, .int .u8 x1] [] =
    t_spec_l01Long  (fun (x0 : Int) (x1 : Int) (x2 : Int) (x3 : List Int) => e_spec_l01Long_L0 cal  ⟨[(0, .int .i64 x0), (1, .int .u8 x1), (5, .row 0), (6, .int .i64 x2)], [.rows 5 (.int .u8) x3]⟩) x0 x1 := by kernel_rfl

/-! 226 slices.Index[[]int,int] -/
def c_slices_Index_int_int_0 : ACode := (.cond (.t 16) (.seq (.region [.mv 17 (.t 5), .mv 4 (.t 17)] [4]) .ret) .skip)
def c_slices_Index_int_int_1 : ACode := (.seq (.region [.mv 11 (.t 1), .mv 12 (.t 0), .mv 13 (.t 5), .idx 14 1 (.t 12) (.t 13), .load 15 (.t 14) none, .bin 16 .eql (.t 11) (.t 15)] [0, 1, 5, 7, 8, 16]) c_slices_Index_int_int_0)
def c_slices_Index_int_int_2 : ACode := (.region [.bin 18 .add (.t 8) (.c (.int .i64 1)), .mv 8 (.t 18)] [0, 1, 7, 8])
def c_slices_Index_int_int_3 : ACode := (.seq (.block 1 [0, 1, 7, 8] (.seq (.region [.mv 10 (.t 8), .mv 5 (.t 10)] [0, 1, 5, 7, 8]) c_slices_Index_int_int_1)) c_slices_Index_int_int_2)
def c_slices_Index_int_int_4 : ACode := (.seq (.cond (.t 9) .skip (.exit 0)) c_slices_Index_int_int_3)
def c_slices_Index_int_int_5 : ACode := (.seq (.region [.bin 9 .lss (.t 8) (.t 7)] [0, 1, 7, 8, 9]) c_slices_Index_int_int_4)
def c_slices_Index_int_int_6 : ACode := (.block 0 [] (.loop [0, 1, 7, 8] c_slices_Index_int_int_5))
def c_slices_Index_int_int_7 : ACode := (.seq (.region [.mv 4 (.c (.int .i64 (-1)))] [4]) .ret)
def c_slices_Index_int_int_8 : ACode := (.seq (.seq (.region [.mv 6 (.t 0), .len 7 false (.t 6), .mv 8 (.c (.int .i64 0))] [0, 1, 7, 8]) c_slices_Index_int_int_6) c_slices_Index_int_int_7)
def a_slices_Index_int_int : AFn := ⟨[.val (.slice (.int .i64)), .val (.int .i64)], [⟨4, false, (.int .i64)⟩], (.seq (.region [.mv 4 (.c (.int .i64 0))] [0, 1]) c_slices_Index_int_int_8)⟩
def t_slices_Index_int_int_L0   (goL0 : (List Int) → Int → Int → Int → Option Int) (x0 : List Int) (x1 : Int) (x2 : Int) (x3 : Int) : Option Int := (if (decide (x3 < x2)) = true then (if 0 ≤ x3 then (if x3 < (x0.length : Int) then (if (x1 == (x0.getD x3.toNat (0 : Int))) = true then (some x3) else (goL0 x0 x1 x2 (IntKind.i64.wrap (x3 + (1 : Int))))) else none) else none) else (some (-1 : Int)))
def t_slices_Index_int_int  (L0 : (List Int) → Int → Int → Int → Option Int) (x0 : List Int) (x1 : Int) : Option Int := (L0 x0 x1 (x0.length : Int) (0 : Int))
noncomputable def e_slices_Index_int_int_L0 (cal : Cal)  (s : St) : Option (RT (AFn.outs a_slices_Index_int_int)) := loopL (fun goL0 s' => codeG cal loopL c_slices_Index_int_int_5 (fun s'' => goL0 (s''.cut [0, 1, 7, 8] 0)) (retK a_slices_Index_int_int) (fun i s' => if i = 0 then (fun s' => codeG cal loopL c_slices_Index_int_int_7 (retK a_slices_Index_int_int) (retK a_slices_Index_int_int) (fun _ _ => none) s') (s'.cut [] 0) else (fun _ _ => none) i s') s') s
theorem h_slices_Index_int_int_L0 (cal : Cal) (goL0 : St → Option (RT (AFn.outs a_slices_Index_int_int))) (x0 : List Int) (x1 : Int) (x2 : Int) (x3 : Int) :
    codeG cal loopL c_slices_Index_int_int_5 (fun s'' => goL0 (s''.cut [0, 1, 7, 8] 0)) (retK a_slices_Index_int_int) (fun i s' => if i = 0 then (fun s' => codeG cal loopL c_slices_Index_int_int_7 (retK a_slices_Index_int_int) (retK a_slices_Index_int_int) (fun _ _ => none) s') (s'.cut [] 0) else (fun _ _ => none) i s') ⟨[(0, .lst (.int .i64) x0), (1, .int .i64 x1), (7, .int .i64 x2), (8, .int .i64 x3)], []⟩ =
    t_slices_Index_int_int_L0   (fun (x0 : List Int) (x1 : Int) (x2 : Int) (x3 : Int) => goL0 ⟨[(0, .lst (.int .i64) x0), (1, .int .i64 x1), (7, .int .i64 x2), (8, .int .i64 x3)], []⟩) x0 x1 x2 x3 := by kernel_rfl
theorem h_slices_Index_int_int (cal : Cal) (x0 : List Int) (x1 : Int) :
    bodyL cal a_slices_Index_int_int [.lst (.int .i64) x0, .int .i64 x1] [] =
    t_slices_Index_int_int  (fun (x0 : List Int) (x1 : Int) (x2 : Int) (x3 : Int) => e_slices_Index_int_int_L0 cal  ⟨[(0, .lst (.int .i64) x0), (1, .int .i64 x1), (7, .int .i64 x2), (8, .int .i64 x3)], []⟩) x0 x1 := by kernel_rfl

/-! 229 loop.example/g00180/spec.l01Pick -/
def c_spec_l01Pick_0 : ACode := (.seq (.region [.mv 5 (.t 1), .mv 6 (.t 0), .mv 7 (.t 1), .len 8 false (.t 7), .call (some 9) 107 [(.t 6, .ptr k_l01Cur), (.t 8, .val (.int .i64))] [(.int .i64)], .idx 10 1 (.t 5) (.t 9), .load 11 (.t 10) none, .mv 4 (.t 11)] [4]) .ret)
def a_spec_l01Pick : AFn := ⟨[.ptr k_l01Cur, .val (.slice .str)], [⟨4, false, .str⟩], (.seq (.region [.mv 4 (.c (.str ⟨#[]⟩))] [0, 1]) c_spec_l01Pick_0)⟩
def t_spec_l01Pick (C_spec_l01Below : Int → y_l01Cur → Option (Int × y_l01Cur))  (x1 : List ByteArray) (b0 : y_l01Cur) : Option (ByteArray × y_l01Cur) := ((C_spec_l01Below (x1.length : Int) b0).bind fun y1 => (if 0 ≤ y1.1 then (if y1.1 < (x1.length : Int) then (some ((x1.getD y1.1.toNat ByteArray.empty), y1.2)) else none) else none))
theorem h_spec_l01Pick (cal : Cal) (x1 : List ByteArray) (b0 : y_l01Cur) :
    bodyL cal a_spec_l01Pick [.ptr 0 0, .lst .str x1] [.agg [.lst (.int .u8) b0.1, .int .i64 b0.2.1, .int .i64 b0.2.2]] =
    t_spec_l01Pick (fun (q0 : Int) (q1 : y_l01Cur) => (cal 107 [.ptr 0 0, .int .i64 q0] [.agg [.lst (.int .u8) q1.1, .int .i64 q1.2.1, .int .i64 q1.2.2]]).bind (decAll [(.int .i64), k_l01Cur]))  x1 b0 := by kernel_rfl
end Go.Proofs.Ytnbfkndicldppaa.Core
