/- FnExactItemsOk: both say the same of a list of items. -/
import Derived.Test.YtnbfkndicldppaaItem
import Derived.Test.YtnbfkndicldppaaEventOk
namespace Go.Proofs.Ytnbfkndicldppaa.Core
open Go
set_option linter.unusedVariables false

/-- An item of its own. -/
def itemOne (a : ByteArray × ByteArray × Int) : Bool := (decide (1 ≤ (a.1.size : Int)) && decide ((a.1.size : Int) ≤ 12)) && decide ((a.2.1.size : Int) ≤ 20) && (decide (1 ≤ a.2.2) && decide (a.2.2 ≤ 1000000000))
/-- Items from one on, behind those that came before. -/
def itemsFrom (x : List (ByteArray × ByteArray × Int)) (i : Nat) : Nat → Bool
  | 0 => decide ((x.length : Int) ≤ 12)
  | k + 1 => itemOne (x.getD i (ByteArray.empty, ByteArray.empty, 0)) && (decide (i = 0) || Op.bytesLess (x.getD (i - 1) (ByteArray.empty, ByteArray.empty, 0)).1.toList (x.getD i (ByteArray.empty, ByteArray.empty, 0)).1.toList) && itemsFrom x (i + 1) k

theorem gt20 (n : Int) : decide (n > 20) = !decide (n ≤ 20) := by
  by_cases h : n ≤ 20 <;> simp [h]
  omega

theorem wrap_pred {i : Nat} (h : i < 9223372036854775807) (h0 : 0 < i) : IntKind.i64.wrap ((i : Int) - 1) = ((i - 1 : Nat) : Int) := by
  rw [wrap_id (by omega)]
  omega

theorem bytes_total : ∀ a b : List UInt8, (Op.bytesLess a b || a == b) = !Op.bytesLess b a
  | [], [] => rfl
  | [], _ :: _ => rfl
  | _ :: _, [] => rfl
  | a :: l, b :: m => by
    have ih := bytes_total l m
    simp only [Op.bytesLess]
    by_cases h1 : a < b
    · have h2 : ¬ b < a := by exact UInt8.not_lt.2 (UInt8.le_of_lt h1)
      have h3 : ¬ b = a := fun h => by subst h; exact absurd h1 (UInt8.lt_irrefl _)
      simp [h1, h2, h3]
    · by_cases h2 : b < a
      · have h3 : ¬ a = b := fun h => by subst h; exact absurd h2 (UInt8.lt_irrefl _)
        simp [h1, h2, h3]
      · have h3 : a = b := UInt8.le_antisymm (UInt8.not_lt.1 h2) (UInt8.not_lt.1 h1)
        subst h3
        simpa [h1] using ih

end Go.Proofs.Ytnbfkndicldppaa.Core
