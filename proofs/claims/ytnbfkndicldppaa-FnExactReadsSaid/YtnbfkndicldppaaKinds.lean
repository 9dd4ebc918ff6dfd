/- Kinds and types of structs. Written by a program of this part. -/
import Derived.Test.YtnbfkndicldppaaLim
namespace Go.Proofs.Ytnbfkndicldppaa.Core
open Go
set_option linter.unusedVariables false
set_option maxRecDepth 100000

abbrev k_Call : Kd := (.pair (.int .i64) (.pair .str (.pair .str (.pair (.int .i64) (.pair (.int .i64) (.pair (.int .i64) (.pair (.int .i64) (.pair (.int .i64) .str))))))))
abbrev y_Call : Type := Int × ByteArray × ByteArray × Int × Int × Int × Int × Int × ByteArray
abbrev k_Note : Kd := (.pair (.int .i64) (.pair (.int .i64) (.pair (.int .i64) (.pair (.int .i64) (.pair (.int .i64) .str)))))
abbrev y_Note : Type := Int × Int × Int × Int × Int × ByteArray
end Go.Proofs.Ytnbfkndicldppaa.Core
