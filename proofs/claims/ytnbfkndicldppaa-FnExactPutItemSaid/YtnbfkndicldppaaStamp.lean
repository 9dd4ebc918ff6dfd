/- FnExactStamp: both stamps are the same number. -/
import Derived.Test.YtnbfkndicldppaaAll
import Derived.Test.YtnbfkndicldppaaBase
namespace Go.Proofs.Ytnbfkndicldppaa.Core
open Go
set_option linter.unusedVariables false

theorem F_spec_l01In_eq (a b c : Int) : F_spec_l01In a b c = some (decide (b ≤ a) && decide (a ≤ c)) := f_spec_l01In (by
  unfold t_spec_l01In
  by_cases h : b ≤ a <;> simp [h])
theorem F_impl_inRange_eq (a b c : Int) : F_impl_inRange a b c = some (decide (b ≤ a) && decide (a ≤ c)) := f_impl_inRange (by
  unfold t_impl_inRange
  by_cases h : b ≤ a <;> simp [h])
/-- The stamp of a call. -/
def stamp (x : Int × ByteArray × ByteArray × Int × Int × Int × Int × Int × ByteArray) : Int :=
  if (decide ((0 : Int) ≤ x.2.2.2.2.2.2.1) && decide (x.2.2.2.2.2.2.1 ≤ 9)) && (decide ((0 : Int) ≤ x.2.2.2.2.2.2.2.1) && decide (x.2.2.2.2.2.2.2.1 ≤ 999)) then IntKind.i64.wrap (IntKind.i64.wrap (1000 * x.2.2.2.2.2.2.1) + x.2.2.2.2.2.2.2.1) else 0

end Go.Proofs.Ytnbfkndicldppaa.Core
