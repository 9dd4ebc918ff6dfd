/- FnExactItemOf: both find the same item. -/
import Derived.Test.YtnbfkndicldppaaStamp
namespace Go.Proofs.Ytnbfkndicldppaa.Core
open Go
set_option linter.unusedVariables false

/-- The first item with a key. -/
def itemOf (x : List (ByteArray × ByteArray × Int)) (k : ByteArray) : ByteArray × ByteArray × Int :=
  (x.find? fun a => a.1.toList == k.toList).getD (ByteArray.empty, ByteArray.empty, 0)

theorem drop_cons {α : Type} {x : List α} {i : Nat} (h : i < x.length) : x.drop i = x[i] :: x.drop (i + 1) := List.drop_eq_getElem_cons h

end Go.Proofs.Ytnbfkndicldppaa.Core
