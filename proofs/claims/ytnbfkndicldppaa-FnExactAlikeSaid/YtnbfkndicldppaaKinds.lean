/- Kinds and types of structs. Written by a program of this part. -/
import Derived.Test.YtnbfkndicldppaaLim
namespace Go.Proofs.Ytnbfkndicldppaa.Core
open Go
set_option linter.unusedVariables false
set_option maxRecDepth 100000

abbrev k_Item : Kd := (.pair .str (.pair .str (.int .i64)))
abbrev y_Item : Type := ByteArray × ByteArray × Int
abbrev k_Task : Kd := (.pair (.int .i64) (.pair (.int .i64) (.pair (.int .i64) (.pair k_Item (.slice (.int .i64))))))
abbrev y_Task : Type := Int × Int × Int × y_Item × List Int
abbrev k_Member : Kd := (.pair (.int .i64) (.pair (.int .i64) (.pair .bool (.pair .bool (.pair .bool (.pair .bool (.pair (.slice (.int .i64)) (.pair (.slice k_Item) (.pair (.int .i64) k_Task)))))))))
abbrev y_Member : Type := Int × Int × Bool × Bool × Bool × Bool × List Int × List y_Item × Int × Int × Int × Int × y_Item × List Int
abbrev k_Msg : Kd := (.pair (.int .i64) (.pair (.int .i64) (.pair (.int .i64) (.pair (.int .i64) (.pair (.int .i64) (.slice k_Item))))))
abbrev y_Msg : Type := Int × Int × Int × Int × Int × List y_Item
abbrev k_Call : Kd := (.pair (.int .i64) (.pair .str (.pair .str (.pair (.int .i64) (.pair (.int .i64) (.pair (.int .i64) (.pair (.int .i64) (.pair (.int .i64) .str))))))))
abbrev y_Call : Type := Int × ByteArray × ByteArray × Int × Int × Int × Int × Int × ByteArray
abbrev k_Group : Kd := (.pair (.slice (.slice (.int .i64))) (.pair (.slice k_Member) (.pair (.slice k_Msg) (.slice k_Call))))
abbrev y_Group : Type := List (List Int) × List y_Member × List y_Msg × List y_Call
abbrev k_Group_own : Kd := (.pair (.slice (.slice (.int .i64))) (.pair (.own 89 k_Member) (.pair (.own 68 k_Msg) (.own 157 k_Call))))
abbrev k_Note : Kd := (.pair (.int .i64) (.pair (.int .i64) (.pair (.int .i64) (.pair (.int .i64) (.pair (.int .i64) .str)))))
abbrev y_Note : Type := Int × Int × Int × Int × Int × ByteArray
abbrev k_Voice : Kd := (.pair (.int .i64) (.pair (.int .i64) .str))
abbrev y_Voice : Type := Int × Int × ByteArray
abbrev k_l01Cur : Kd := (.pair (.slice (.int .u8)) (.pair (.int .i64) (.int .i64)))
abbrev y_l01Cur : Type := List Int × Int × Int
abbrev k_Try : Kd := (.pair (.int .i64) (.pair (.int .i64) (.pair .str (.pair (.slice k_Note) (.pair .bool (.pair (.slice (.int .i64)) .bool))))))
abbrev y_Try : Type := Int × Int × ByteArray × List y_Note × Bool × List Int × Bool
abbrev k_Council_own : Kd := (.pair (.own 40 k_Voice) (.pair (.own 37 k_Try) (.pair (.own 42 k_Note) (.own 9 .str))))
abbrev y_Council_own : Type := List y_Voice × List y_Try × List y_Note × List ByteArray
abbrev k_Council : Kd := (.pair (.slice k_Voice) (.pair (.slice k_Try) (.pair (.slice k_Note) (.slice .str))))
abbrev k_Council_ownx : Kd := (.pair (.slice k_Voice) (.pair (.own 37 k_Try) (.pair (.slice k_Note) (.slice .str))))
end Go.Proofs.Ytnbfkndicldppaa.Core
