/- FnExactEventOk: both say the same of an event. -/
import Derived.Test.YtnbfkndicldppaaStamp
namespace Go.Proofs.Ytnbfkndicldppaa.Core
open Go
set_option linter.unusedVariables false

theorem F_impl_isKey_eq k : F_impl_isKey k = some (decide (1 ≤ (k.size : Int)) && decide ((k.size : Int) ≤ 12)) := f_impl_isKey (by simp [t_impl_isKey, F_impl_inRange_eq])
/-- An empty string. -/
def isE (v : ByteArray) : Bool := v.toList == (⟨#[]⟩ : ByteArray).toList
theorem isE_is (v : ByteArray) : (v.toList == (⟨#[]⟩ : ByteArray).toList) = isE v := rfl

/-- An operation, a key and a value that may be asked for. -/
def askOk (op : Int) (k v : ByteArray) : Bool :=
  (decide (op = 1) || decide (op = 2)) && (decide (1 ≤ (k.size : Int)) && decide ((k.size : Int) ≤ 12)) && decide ((v.size : Int) ≤ 20) && (decide (op = 1) || isE v)
def evOk (x : Int × Int × Int × Int × ByteArray × ByteArray) : Bool :=
  decide (1 ≤ x.1) && decide (x.1 ≤ 6) && (decide (1 ≤ x.2.1) && decide (x.2.1 ≤ 6)) && decide (0 ≤ x.2.2.1) &&
    (if x.1 = 1 then askOk x.2.2.2.1 x.2.2.2.2.1 x.2.2.2.2.2 else decide (x.2.2.2.1 = 0) && isE x.2.2.2.2.1 && isE x.2.2.2.2.2)

end Go.Proofs.Ytnbfkndicldppaa.Core
