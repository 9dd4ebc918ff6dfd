/- FnExactEventOk: both say the same of an event. -/
import Derived.Test.YtlegaocnobapgaaStamp
namespace Go.Proofs.Ytlegaocnobapgaa.Core
open Go
set_option linter.unusedVariables false

theorem F21_eq x : F21 x = some x := f21 rfl
theorem F74_eq k : F74 k = some (decide (1 ≤ (k.size : Int)) && decide ((k.size : Int) ≤ 12)) := f74 (by simp [t74, F67_eq])
theorem F68_eq n : F68 n = some (decide (1 ≤ n) && decide (n ≤ 6)) := f68 (by simp [t68, F67_eq])

/-- An empty string. -/
def isE (v : ByteArray) : Bool := v.toList == (⟨#[]⟩ : ByteArray).toList
theorem isE_is (v : ByteArray) : (v.toList == (⟨#[]⟩ : ByteArray).toList) = isE v := rfl

/-- An operation, a key and a value that may be asked for. -/
def askOk (op : Int) (k v : ByteArray) : Bool :=
  (decide (op = 1) || decide (op = 2)) && (decide (1 ≤ (k.size : Int)) && decide ((k.size : Int) ≤ 12)) && decide ((v.size : Int) ≤ 20) && (decide (op = 1) || isE v)
def evOk (x : Int × Int × Int × Int × ByteArray × ByteArray) : Bool :=
  decide (1 ≤ x.1) && decide (x.1 ≤ 6) && (decide (1 ≤ x.2.1) && decide (x.2.1 ≤ 6)) && decide (0 ≤ x.2.2.1) &&
    (if x.1 = 1 then askOk x.2.2.2.1 x.2.2.2.2.1 x.2.2.2.2.2 else decide (x.2.2.2.1 = 0) && isE x.2.2.2.2.1 && isE x.2.2.2.2.2)

theorem F69_eq a k v : F69 a 0 k v = some (askOk a k v) := f69 (by
  have w : ∀ b, W69_J0 a v b = some (decide (a = 1) || isE v) := fun b => w69_J0 (by
    unfold t69_J0
    rw [isE_is]
    by_cases h : a = 1 <;> simp [h])
  unfold t69 askOk
  have gt20 : decide ((v.size : Int) > 20) = !decide ((v.size : Int) ≤ 20) := by
    by_cases h : (v.size : Int) ≤ 20 <;> simp [h]
    omega
  simp only [gt20, F67_eq, F74_eq, Option.bind_some, w]
  by_cases h1 : a = 1
  · by_cases h2 : 1 ≤ (k.size : Int) <;> by_cases h3 : (k.size : Int) ≤ 12 <;> by_cases h4 : (v.size : Int) ≤ 20 <;> simp [h1, h2, h3, h4]
  · by_cases h1b : a = 2
    · by_cases h2 : 1 ≤ (k.size : Int) <;> by_cases h3 : (k.size : Int) ≤ 12 <;> by_cases h4 : (v.size : Int) ≤ 20 <;> simp [h1b, h2, h3, h4]
    · have : ¬ (1 ≤ a ∧ a ≤ 2) := by omega
      by_cases h5 : 1 ≤ a
      · have : ¬ a ≤ 2 := by omega
        simp [h1, h1b, this]
      · simp [h1, h1b, h5])

theorem F22_eq x : F22 x = some (evOk x) := f22 (by
  have w : ∀ b, W22_J0 b x = some (if x.1 = 1 then askOk x.2.2.2.1 x.2.2.2.2.1 x.2.2.2.2.2 else decide (x.2.2.2.1 = 0) && isE x.2.2.2.2.1 && isE x.2.2.2.2.2) := fun b => w22_J0 (by
    unfold t22_J0
    simp only [isE_is]
    by_cases h : x.1 = 1
    · simp [h, F69_eq]
    · by_cases h2 : x.2.2.2.1 = 0 <;> rcases Bool.eq_false_or_eq_true (isE x.2.2.2.2.1) with h3 | h3 <;> simp [h, h2, h3])
  unfold t22 evOk
  simp only [F67_eq, F68_eq, Option.bind_some, w]
  by_cases h1 : 1 ≤ x.1 <;> by_cases h2 : x.1 ≤ 6 <;> by_cases h3 : 1 ≤ x.2.1 <;> by_cases h4 : x.2.1 ≤ 6 <;> by_cases h5 : 0 ≤ x.2.2.1 <;> simp [h1, h2, h3, h4, h5] <;> omega)

theorem F20_eq x : F20 x = some (evOk x) := f20 (by
  have w : ∀ b, W20_J0 b x = some (if x.1 = 1 then askOk x.2.2.2.1 x.2.2.2.2.1 x.2.2.2.2.2 else decide (x.2.2.2.1 = 0) && isE x.2.2.2.2.1 && isE x.2.2.2.2.2) := fun b => w20_J0 (by
    unfold t20_J0 askOk
    simp only [isE_is]
    by_cases h : x.1 = 1
    · simp only [F66_eq, Option.bind_some]
      by_cases g1 : x.2.2.2.1 = 1
      · by_cases h2 : 1 ≤ (x.2.2.2.2.1.size : Int) <;> by_cases h3 : (x.2.2.2.2.1.size : Int) ≤ 12 <;> by_cases h4 : (x.2.2.2.2.2.size : Int) ≤ 20 <;> simp [h, g1, h2, h3, h4]
      · by_cases g2 : x.2.2.2.1 = 2
        · by_cases h2 : 1 ≤ (x.2.2.2.2.1.size : Int) <;> by_cases h3 : (x.2.2.2.2.1.size : Int) ≤ 12 <;> by_cases h4 : (x.2.2.2.2.2.size : Int) ≤ 20 <;> simp [h, g2, h2, h3, h4]
        · simp [h, g1, g2]
    · by_cases h2 : x.2.2.2.1 = 0 <;> rcases Bool.eq_false_or_eq_true (isE x.2.2.2.2.1) with h3 | h3 <;> simp [h, h2, h3])
  unfold t20 evOk
  simp only [F66_eq, Option.bind_some, w]
  by_cases h1 : 1 ≤ x.1 <;> by_cases h2 : x.1 ≤ 6 <;> by_cases h3 : 1 ≤ x.2.1 <;> by_cases h4 : x.2.1 ≤ 6 <;> by_cases h5 : 0 ≤ x.2.2.1 <;> simp [h1, h2, h3, h4, h5] <;> omega)

theorem F19_ex x n : ∃ r, F19 x n = some r := by
  have : ∃ r, t19 x n = some r := by
    unfold t19
    (repeat' split) <;> exact ⟨_, rfl⟩
  exact this.elim fun r h => ⟨r, f19 h⟩

theorem law4 (x) (_ : Kd.ok (.pair (.int .i64) (.pair (.int .i64) (.pair (.int .i64) (.pair (.int .i64) (.pair .str .str))))) x) : F4 x = some true := f4 (by
  obtain ⟨y, hy⟩ := F19_ex x 1048576
  unfold t4
  simp [hy, F21_eq, F20_eq, F22_eq, eqK])

end Go.Proofs.Ytlegaocnobapgaa.Core
