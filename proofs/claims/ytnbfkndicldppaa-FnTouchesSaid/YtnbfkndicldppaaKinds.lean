/- Kinds and types of structs. Written by a program of this part. -/
import Derived.Test.YtnbfkndicldppaaLim
namespace Go.Proofs.Ytnbfkndicldppaa.Core
open Go
set_option linter.unusedVariables false
set_option maxRecDepth 100000

abbrev k_Call : Kd := (.pair (.int .i64) (.pair .str (.pair .str (.pair (.int .i64) (.pair (.int .i64) (.pair (.int .i64) (.pair (.int .i64) (.pair (.int .i64) .str))))))))
abbrev y_Call : Type := Int × ByteArray × ByteArray × Int × Int × Int × Int × Int × ByteArray
abbrev k_Note : Kd := (.pair (.int .i64) (.pair (.int .i64) (.pair (.int .i64) (.pair (.int .i64) (.pair (.int .i64) .str)))))
abbrev y_Note : Type := Int × Int × Int × Int × Int × ByteArray
abbrev k_Queue : Kd := (.pair (.int .i64) (.slice .str))
abbrev y_Queue : Type := Int × List ByteArray
abbrev k_Queue_own : Kd := (.pair (.int .i64) (.own 9 .str))
abbrev k_l01Cur : Kd := (.pair (.slice (.int .u8)) (.pair (.int .i64) (.int .i64)))
abbrev y_l01Cur : Type := List Int × Int × Int
end Go.Proofs.Ytnbfkndicldppaa.Core
