/- FnExactOneChosen: both say the same of a council. -/
import Derived.Test.YtnbfkndicldppaaSz
namespace Go.Proofs.Ytnbfkndicldppaa.Core
open Go
set_option linter.unusedVariables false

abbrev TCouncil : Type := List (Int × Int × ByteArray) × List (Int × Int × ByteArray × List (Int × Int × Int × Int × Int × ByteArray) × Bool × List Int × Bool) × List (Int × Int × Int × Int × Int × ByteArray) × List ByteArray

/-- All are the first one. -/
def oneOnly (c : List ByteArray) : List ByteArray → Bool
  | [] => true
  | a :: r => (a.toList == (c.getD 0 ByteArray.empty).toList) && oneOnly c r

theorem oneOnly_step (b : Bool) (g : Bool) : (if (!b) = true then some false else some g) = some (b && g) := by cases b <;> simp

theorem F_impl_OneChosen_eq (x : TCouncil) (h : x.2.2.2.length ≤ maxLen) : F_impl_OneChosen x = some (oneOnly x.2.2.2 x.2.2.2) := f_impl_OneChosen (by
  have hm : x.2.2.2.length ≤ 9223372036854775807 := h
  unfold t_impl_OneChosen
  exact down (n := x.2.2.2.length) (P := fun i => W_impl_OneChosen_L0 x.2.2.2 (x.2.2.2.length : Int) (i : Int) x.1 x.2.1 x.2.2.1 x.2.2.2 = some (oneOnly x.2.2.2 (x.2.2.2.drop i))) (w_impl_OneChosen_L0 (by
    unfold t_impl_OneChosen_L0
    rw [if_neg (by simp), List.drop_length]
    rfl)) (fun i hi ih => w_impl_OneChosen_L0 (by
    unfold t_impl_OneChosen_L0
    simp only [show ((i : Int) < (x.2.2.2.length : Int)) from by omega, show ((0 : Int) < (x.2.2.2.length : Int)) from by omega, decide_true, if_true, show (0 : Int) ≤ (i : Int) from by omega, Int.le_refl, Int.toNat_natCast, Int.toNat_zero, wrap_succ (show i < 9223372036854775807 by omega), ih]
    rw [List.drop_eq_getElem_cons hi, oneOnly, getD_at hi]
    exact oneOnly_step _ _)) 0 (by omega))

end Go.Proofs.Ytnbfkndicldppaa.Core
