/- FnExactMsgOk: both say the same of a message. -/
import Derived.Test.YtlegaocnobapgaaItemsOk
namespace Go.Proofs.Ytlegaocnobapgaa.Core
open Go
set_option linter.unusedVariables false

abbrev TMsg : Type := Int × Int × Int × Int × Int × List (ByteArray × ByteArray × Int)

theorem F52_eq (x : TMsg) (h : x.2.2.2.2.2.length ≤ 68719476736) : F52 x = some x := f52 (by
  unfold t52
  rw [F30_eq _ h]
  rfl)
theorem F54_same (x : TMsg) (h : x.2.2.2.2.2.length ≤ 68719476736) : F54 x x = some true := f54 (by
  unfold t54
  simp [F33_same _ h])
theorem F50_ok (x : TMsg) (hx : x.2.2.2.2.2.length ≤ maxLen) (n : Int) (hn : 0 ≤ n ∧ n ≤ 68719476736) : ∃ r, F50 x n = some r ∧ (r < 0 ∨ (x.2.2.2.2.2.length : Int) ≤ n) := by
  obtain ⟨r, hr, ho⟩ := F28_ok x.2.2.2.2.2 hx n hn
  by_cases h : r < 0
  · exact ⟨-1, f50 (by unfold t50; rw [hr, Option.bind_some, if_pos (by simpa using h)]), .inl (by omega)⟩
  · exact ⟨r, f50 (by unfold t50; rw [hr, Option.bind_some, if_neg (by simpa using h)]), ho⟩

def msgOk (x : TMsg) : Bool :=
  (decide (1 ≤ x.1) && decide (x.1 ≤ 8)) && (decide (1 ≤ x.2.1) && decide (x.2.1 ≤ 6)) && (decide (1 ≤ x.2.2.1) && decide (x.2.2.1 ≤ 6)) && (decide (1 ≤ x.2.2.2.1) && decide (x.2.2.2.1 ≤ 9)) && (decide (0 ≤ x.2.2.2.2.1) && decide (x.2.2.2.2.1 ≤ 1000000000)) && itemsFrom x.2.2.2.2.2 0 x.2.2.2.2.2.length &&
    (if x.1 = 2 ∨ x.1 = 3 then true else if x.1 = 5 then ((x.2.2.2.2.2.length : Int) == 1) else ((x.2.2.2.2.2.length : Int) == 0))

theorem F51_eq (x : TMsg) (h : x.2.2.2.2.2.length ≤ maxLen) : F51 x = some (msgOk x) := f51 (by
  have w1 : ∀ a b, W51_J1 a b x = some (if b = true then true else if a = 5 then ((x.2.2.2.2.2.length : Int) == 1) else ((x.2.2.2.2.2.length : Int) == 0)) := fun a b => w51_J1 (by
    unfold t51_J1
    by_cases h1 : b = true <;> by_cases h2 : a = 5 <;> simp [h1, h2])
  have w0 : ∀ b, W51_J0 b x = some (if x.1 = 2 ∨ x.1 = 3 then true else if x.1 = 5 then ((x.2.2.2.2.2.length : Int) == 1) else ((x.2.2.2.2.2.length : Int) == 0)) := fun b => w51_J0 (by
    unfold t51_J0
    by_cases h1 : x.1 = 2 <;> by_cases h2 : x.1 = 3 <;> simp [h1, h2, w1])
  unfold t51 msgOk
  simp only [F66_eq, F34_eq _ h, Option.bind_some, w0]
  generalize (decide (1 ≤ x.1) && decide (x.1 ≤ 8)) = a
  generalize (decide (1 ≤ x.2.1) && decide (x.2.1 ≤ 6)) = b
  generalize (decide (1 ≤ x.2.2.1) && decide (x.2.2.1 ≤ 6)) = c
  generalize (decide (1 ≤ x.2.2.2.1) && decide (x.2.2.2.1 ≤ 9)) = d
  generalize (decide (0 ≤ x.2.2.2.2.1) && decide (x.2.2.2.2.1 ≤ 1000000000)) = e
  generalize itemsFrom x.2.2.2.2.2 0 x.2.2.2.2.2.length = f
  cases a <;> cases b <;> cases c <;> cases d <;> cases e <;> cases f <;> simp)

theorem F53_eq (x : TMsg) (h : x.2.2.2.2.2.length ≤ maxLen) : F53 x = some (msgOk x) := f53 (by
  have w1 : ∀ a b, W53_J1 a b x = some (if b = true then true else if a = 5 then ((x.2.2.2.2.2.length : Int) == 1) else ((x.2.2.2.2.2.length : Int) == 0)) := fun a b => w53_J1 (by
    unfold t53_J1
    by_cases h1 : b = true <;> by_cases h2 : a = 5 <;> simp [h1, h2])
  have w0 : ∀ b, W53_J0 b x = some (if x.1 = 2 ∨ x.1 = 3 then true else if x.1 = 5 then ((x.2.2.2.2.2.length : Int) == 1) else ((x.2.2.2.2.2.length : Int) == 0)) := fun b => w53_J0 (by
    unfold t53_J0
    by_cases h1 : x.1 = 2 <;> by_cases h2 : x.1 = 3 <;> simp [h1, h2, w1])
  unfold t53 msgOk
  simp only [F67_eq, F68_eq, F35_eq _ h bytes_total, Option.bind_some, w0]
  generalize (decide (1 ≤ x.1) && decide (x.1 ≤ 8)) = a
  generalize (decide (1 ≤ x.2.1) && decide (x.2.1 ≤ 6)) = b
  generalize (decide (1 ≤ x.2.2.1) && decide (x.2.2.1 ≤ 6)) = c
  generalize (decide (1 ≤ x.2.2.2.1) && decide (x.2.2.2.1 ≤ 9)) = d
  generalize (decide (0 ≤ x.2.2.2.2.1) && decide (x.2.2.2.2.1 ≤ 1000000000)) = e
  generalize itemsFrom x.2.2.2.2.2 0 x.2.2.2.2.2.length = f
  cases a <;> cases b <;> cases c <;> cases d <;> cases e <;> cases f <;> simp)

theorem law11 (x) (hx : Kd.ok (.pair (.int .i64) (.pair (.int .i64) (.pair (.int .i64) (.pair (.int .i64) (.pair (.int .i64) (.slice (.pair .str (.pair .str (.int .i64))))))))) x) : F11 x = some true := f11 (by
  unfold t11
  have hl0 : x.2.2.2.2.2.length ≤ maxLen := hx.2.2.2.2.2.1
  obtain ⟨r, hr, hl⟩ := F50_ok x hl0 1048576 (by omega)
  rw [hr, Option.bind_some]
  by_cases h2 : r < 0
  · rw [if_pos (by simpa using h2)]
  · have : x.2.2.2.2.2.length ≤ 68719476736 := by omega
    rw [if_neg (by simpa using h2)]
    simp [F52_eq x this, F51_eq x hl0, F53_eq x hl0, F54_same x this, eqK])

end Go.Proofs.Ytlegaocnobapgaa.Core
