/- FnExactItemOf: both find the same item. -/
import Derived.Test.YtnbfkndicldppaaStamp
namespace Go.Proofs.Ytnbfkndicldppaa.Core
open Go
set_option linter.unusedVariables false

/-- The first item with a key. -/
def itemOf (x : List (ByteArray × ByteArray × Int)) (k : ByteArray) : ByteArray × ByteArray × Int :=
  (x.find? fun a => a.1.toList == k.toList).getD (ByteArray.empty, ByteArray.empty, 0)

theorem drop_cons {α : Type} {x : List α} {i : Nat} (h : i < x.length) : x.drop i = x[i] :: x.drop (i + 1) := List.drop_eq_getElem_cons h

theorem F_impl_ItemOf_eq (x k) (h : x.length ≤ maxLen) : F_impl_ItemOf x k = some (itemOf x k) := f_impl_ItemOf (by
  have hm : x.length ≤ 9223372036854775807 := h
  unfold t_impl_ItemOf
  exact down (n := x.length) (P := fun i => ∀ z, W_impl_ItemOf_L0 k x (x.length : Int) (i : Int) z = some (itemOf (x.drop i) k)) (fun z => w_impl_ItemOf_L0 (by
    unfold t_impl_ItemOf_L0
    rw [if_neg (by simp), List.drop_length]
    rfl)) (fun i hi ih z => w_impl_ItemOf_L0 (by
    unfold t_impl_ItemOf_L0
    simp only [show ((i : Int) < (x.length : Int)) from by omega, decide_true, if_true, show (0 : Int) ≤ (i : Int) from by omega, Int.toNat_natCast, getD_at hi, wrap_succ (show i < 9223372036854775807 by omega)]
    rw [drop_cons hi]
    by_cases hk : (x[i].1.toList == k.toList) = true
    · rw [if_pos hk]
      unfold itemOf
      rw [List.find?_cons, hk]
      rfl
    · rw [if_neg hk, ih]
      unfold itemOf
      rw [List.find?_cons, Bool.eq_false_iff.2 hk])) 0 (by omega) _)

end Go.Proofs.Ytnbfkndicldppaa.Core
