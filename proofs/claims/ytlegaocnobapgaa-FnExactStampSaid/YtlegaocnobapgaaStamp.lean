/- FnExactStamp: both stamps are the same number. -/
import Derived.Test.YtlegaocnobapgaaF0
namespace Go.Proofs.Ytlegaocnobapgaa.Core
open Go
set_option linter.unusedVariables false

theorem F66_eq (a b c : Int) : F66 a b c = some (decide (b ≤ a) && decide (a ≤ c)) := f66 (by
  unfold t66
  by_cases h : b ≤ a <;> simp [h])
theorem F67_eq (a b c : Int) : F67 a b c = some (decide (b ≤ a) && decide (a ≤ c)) := f67 (by
  unfold t67
  by_cases h : b ≤ a <;> simp [h])
theorem F17_eq x : F17 x = some x := f17 rfl

theorem stamps x : ∃ r, F16 x = some r ∧ F18 x = some r := by
  have w16 := fun b c => w16_J0 (x0 := b) (x1 := c) rfl
  have w18 := fun b c => w18_J0 (x0 := b) (x1 := c) rfl
  by_cases h1 : (!(decide ((0 : Int) ≤ x.2.2.2.2.2.2.1) && decide (x.2.2.2.2.2.2.1 ≤ 9))) = false
  · by_cases h2 : (!(decide ((0 : Int) ≤ x.2.2.2.2.2.2.2.1) && decide (x.2.2.2.2.2.2.2.1 ≤ 999))) = true
    · exact ⟨0, f16 (by unfold t16; rw [F66_eq, Option.bind_some, if_pos h1, F66_eq, Option.bind_some, if_pos h2]), f18 (by unfold t18; rw [F67_eq, Option.bind_some, if_pos h1, F67_eq, Option.bind_some, if_pos h2])⟩
    · exact ⟨_, f16 (by unfold t16; rw [F66_eq, Option.bind_some, if_pos h1, F66_eq, Option.bind_some, if_neg h2]; exact w16 _ _), f18 (by unfold t18; rw [F67_eq, Option.bind_some, if_pos h1, F67_eq, Option.bind_some, if_neg h2]; exact w18 _ _)⟩
  · exact ⟨0, f16 (by unfold t16; rw [F66_eq, Option.bind_some, if_neg h1]), f18 (by unfold t18; rw [F67_eq, Option.bind_some, if_neg h1])⟩

theorem F15_ex x n : ∃ r, F15 x n = some r := by
  have : ∃ r, t15 x n = some r := by
    unfold t15
    split
    · exact ⟨_, rfl⟩
    · split
      · exact ⟨_, rfl⟩
      · split <;> exact ⟨_, rfl⟩
  exact this.elim fun r h => ⟨r, f15 h⟩

theorem law3 (x) (_ : Kd.ok (.pair (.int .i64) (.pair .str (.pair .str (.pair (.int .i64) (.pair (.int .i64) (.pair (.int .i64) (.pair (.int .i64) (.pair (.int .i64) .str)))))))) x) : F3 x = some true := f3 (by
  obtain ⟨y, hy⟩ := F15_ex x 1048576
  obtain ⟨r, ha, hb⟩ := stamps x
  unfold t3
  rw [hy, Option.bind_some, F17_eq, Option.bind_some, ha, Option.bind_some, Option.bind_some, hb, Option.bind_some]
  split
  · rfl
  · rw [if_neg (by simp)])

end Go.Proofs.Ytlegaocnobapgaa.Core
