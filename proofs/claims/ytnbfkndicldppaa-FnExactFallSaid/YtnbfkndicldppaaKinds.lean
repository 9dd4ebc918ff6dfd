/- Kinds and types of structs. Written by a program of this part. -/
import Derived.Test.YtnbfkndicldppaaLim
namespace Go.Proofs.Ytnbfkndicldppaa.Core
open Go
set_option linter.unusedVariables false
set_option maxRecDepth 100000

abbrev k_Call : Kd := (.pair (.int .i64) (.pair .str (.pair .str (.pair (.int .i64) (.pair (.int .i64) (.pair (.int .i64) (.pair (.int .i64) (.pair (.int .i64) .str))))))))
abbrev y_Call : Type := Int × ByteArray × ByteArray × Int × Int × Int × Int × Int × ByteArray
abbrev k_Note : Kd := (.pair (.int .i64) (.pair (.int .i64) (.pair (.int .i64) (.pair (.int .i64) (.pair (.int .i64) .str)))))
abbrev y_Note : Type := Int × Int × Int × Int × Int × ByteArray
abbrev k_Item : Kd := (.pair .str (.pair .str (.int .i64)))
abbrev y_Item : Type := ByteArray × ByteArray × Int
abbrev k_Task : Kd := (.pair (.int .i64) (.pair (.int .i64) (.pair (.int .i64) (.pair k_Item (.slice (.int .i64))))))
abbrev y_Task : Type := Int × Int × Int × y_Item × List Int
abbrev k_Member : Kd := (.pair (.int .i64) (.pair (.int .i64) (.pair .bool (.pair .bool (.pair .bool (.pair .bool (.pair (.slice (.int .i64)) (.pair (.slice k_Item) (.pair (.int .i64) k_Task)))))))))
abbrev y_Member : Type := Int × Int × Bool × Bool × Bool × Bool × List Int × List y_Item × Int × Int × Int × Int × y_Item × List Int
abbrev k_Task_own : Kd := (.pair (.int .i64) (.pair (.int .i64) (.pair (.int .i64) (.pair k_Item (.own 3 (.int .i64))))))
abbrev k_Member_own : Kd := (.pair (.int .i64) (.pair (.int .i64) (.pair .bool (.pair .bool (.pair .bool (.pair .bool (.pair (.own 3 (.int .i64)) (.pair (.own 73 k_Item) (.pair (.int .i64) k_Task_own)))))))))
end Go.Proofs.Ytnbfkndicldppaa.Core
