/- FnExactStamp: both stamps are the same number. -/
import Derived.Test.YtlegaocnobapgaaAll
import Derived.Test.YtlegaocnobapgaaBase
namespace Go.Proofs.Ytlegaocnobapgaa.Core
open Go
set_option linter.unusedVariables false

theorem F66_eq (a b c : Int) : F66 a b c = some (decide (b ≤ a) && decide (a ≤ c)) := f66 (by
  unfold t66
  by_cases h : b ≤ a <;> simp [h])
theorem F67_eq (a b c : Int) : F67 a b c = some (decide (b ≤ a) && decide (a ≤ c)) := f67 (by
  unfold t67
  by_cases h : b ≤ a <;> simp [h])
theorem F17_eq x : F17 x = some x := f17 rfl

/-- The stamp of a call. -/
def stamp (x : Int × ByteArray × ByteArray × Int × Int × Int × Int × Int × ByteArray) : Int :=
  if (decide ((0 : Int) ≤ x.2.2.2.2.2.2.1) && decide (x.2.2.2.2.2.2.1 ≤ 9)) && (decide ((0 : Int) ≤ x.2.2.2.2.2.2.2.1) && decide (x.2.2.2.2.2.2.2.1 ≤ 999)) then IntKind.i64.wrap (IntKind.i64.wrap (1000 * x.2.2.2.2.2.2.1) + x.2.2.2.2.2.2.2.1) else 0

theorem F16_eq x : F16 x = some (stamp x) := f16 (by
  unfold t16 stamp
  simp only [F66_eq, Option.bind_some]
  generalize (decide ((0 : Int) ≤ x.2.2.2.2.2.2.1) && decide (x.2.2.2.2.2.2.1 ≤ 9)) = a
  generalize (decide ((0 : Int) ≤ x.2.2.2.2.2.2.2.1) && decide (x.2.2.2.2.2.2.2.1 ≤ 999)) = b
  cases a <;> cases b <;> simp)
theorem F18_eq x : F18 x = some (stamp x) := f18 (by
  unfold t18 stamp
  simp only [F67_eq, Option.bind_some]
  generalize (decide ((0 : Int) ≤ x.2.2.2.2.2.2.1) && decide (x.2.2.2.2.2.2.1 ≤ 9)) = a
  generalize (decide ((0 : Int) ≤ x.2.2.2.2.2.2.2.1) && decide (x.2.2.2.2.2.2.2.1 ≤ 999)) = b
  cases a <;> cases b <;> simp)

theorem F15_ex x n : ∃ r, F15 x n = some r := by
  have : ∃ r, t15 x n = some r := by
    unfold t15
    (repeat' split) <;> exact ⟨_, rfl⟩
  exact this.elim fun r h => ⟨r, f15 h⟩

theorem law3 (x) (_ : Kd.ok (.pair (.int .i64) (.pair .str (.pair .str (.pair (.int .i64) (.pair (.int .i64) (.pair (.int .i64) (.pair (.int .i64) (.pair (.int .i64) .str)))))))) x) : F3 x = some true := f3 (by
  obtain ⟨y, hy⟩ := F15_ex x 1048576
  unfold t3
  simp [hy, F17_eq, F16_eq, F18_eq])

end Go.Proofs.Ytlegaocnobapgaa.Core
