/- FnExactItemsOk: both say the same of a list of items. -/
import Derived.Test.YtnbfkndicldppaaItem
import Derived.Test.YtnbfkndicldppaaEventOk
namespace Go.Proofs.Ytnbfkndicldppaa.Core
open Go
set_option linter.unusedVariables false

/-- An item of its own. -/
def itemOne (a : ByteArray × ByteArray × Int) : Bool := (decide (1 ≤ (a.1.size : Int)) && decide ((a.1.size : Int) ≤ 12)) && decide ((a.2.1.size : Int) ≤ 20) && (decide (1 ≤ a.2.2) && decide (a.2.2 ≤ 1000000000))
/-- Items from one on, behind those that came before. -/
def itemsFrom (x : List (ByteArray × ByteArray × Int)) (i : Nat) : Nat → Bool
  | 0 => decide ((x.length : Int) ≤ 12)
  | k + 1 => itemOne (x.getD i (ByteArray.empty, ByteArray.empty, 0)) && (decide (i = 0) || Op.bytesLess (x.getD (i - 1) (ByteArray.empty, ByteArray.empty, 0)).1.toList (x.getD i (ByteArray.empty, ByteArray.empty, 0)).1.toList) && itemsFrom x (i + 1) k

theorem gt20 (n : Int) : decide (n > 20) = !decide (n ≤ 20) := by
  by_cases h : n ≤ 20 <;> simp [h]
  omega

theorem wrap_pred {i : Nat} (h : i < 9223372036854775807) (h0 : 0 < i) : IntKind.i64.wrap ((i : Int) - 1) = ((i - 1 : Nat) : Int) := by
  rw [wrap_id (by omega)]
  omega

theorem F_spec_ItemsOk_eq (x) (h : x.length ≤ maxLen) : F_spec_ItemsOk x = some (itemsFrom x 0 x.length) := f_spec_ItemsOk (by
  have hm : x.length ≤ 9223372036854775807 := h
  unfold t_spec_ItemsOk
  have := down (n := x.length) (P := fun i => W_spec_ItemsOk_L0 x (i : Int) = some (itemsFrom x i (x.length - i))) (w_spec_ItemsOk_L0 (by
    unfold t_spec_ItemsOk_L0
    rw [if_neg (by simp), Nat.sub_self]
    rfl)) (fun i hi ih => w_spec_ItemsOk_L0 (by
    unfold t_spec_ItemsOk_L0
    have e : x.length - i = (x.length - (i + 1)) + 1 := by omega
    simp only [show ((i : Int) < (x.length : Int)) from by omega, decide_true, if_true, show (0 : Int) ≤ (i : Int) from by omega, Int.toNat_natCast, wrap_succ (show i < 9223372036854775807 by omega), ih, F_spec_l01In_eq, Option.bind_some, gt20]
    rw [e, itemsFrom, itemOne]
    generalize (decide (1 ≤ ((x.getD i (ByteArray.empty, ByteArray.empty, 0)).1.size : Int)) && decide (((x.getD i (ByteArray.empty, ByteArray.empty, 0)).1.size : Int) ≤ 12)) = a
    generalize decide (((x.getD i (ByteArray.empty, ByteArray.empty, 0)).2.1.size : Int) ≤ 20) = b
    generalize (decide (1 ≤ (x.getD i (ByteArray.empty, ByteArray.empty, 0)).2.2) && decide ((x.getD i (ByteArray.empty, ByteArray.empty, 0)).2.2 ≤ 1000000000)) = c
    cases a
    · simp
    cases b
    · simp
    cases c
    · simp
    by_cases h0 : 0 < i
    · rw [wrap_pred (by omega) h0]
      simp only [Int.toNat_natCast, show ((0 : Int) ≤ ((i - 1 : Nat) : Int)) from by omega, show (((i - 1 : Nat) : Int) < (x.length : Int)) from by omega, if_true]
      rcases Bool.eq_false_or_eq_true (Op.bytesLess (x.getD (i - 1) (ByteArray.empty, ByteArray.empty, 0)).1.toList (x.getD i (ByteArray.empty, ByteArray.empty, 0)).1.toList) with hb | hb <;> simp only [hb] <;> simp [h0, show i ≠ 0 by omega]
    · have : i = 0 := by omega
      subst this
      simp)) 0 (by omega)
  simpa using this)

theorem F_impl_ItemsOk_eq (x) (h : x.length ≤ maxLen) (hl : ∀ a b : List UInt8, (Op.bytesLess a b || a == b) = !Op.bytesLess b a) : F_impl_ItemsOk x = some (itemsFrom x 0 x.length) := f_impl_ItemsOk (by
  have hm : x.length ≤ 9223372036854775807 := h
  unfold t_impl_ItemsOk
  have := down (n := x.length) (P := fun i => W_impl_ItemsOk_L0 x x (x.length : Int) (i : Int) = some (itemsFrom x i (x.length - i))) (w_impl_ItemsOk_L0 (by
    unfold t_impl_ItemsOk_L0
    rw [if_neg (by simp), Nat.sub_self]
    rfl)) (fun i hi ih => w_impl_ItemsOk_L0 (by
    unfold t_impl_ItemsOk_L0
    have e : x.length - i = (x.length - (i + 1)) + 1 := by omega
    simp only [show ((i : Int) < (x.length : Int)) from by omega, decide_true, if_true, show (0 : Int) ≤ (i : Int) from by omega, Int.toNat_natCast, wrap_succ (show i < 9223372036854775807 by omega), ih, F_impl_inRange_eq, F_impl_isKey_eq, Option.bind_some, gt20, hl]
    rw [e, itemsFrom, itemOne]
    generalize (decide (1 ≤ ((x.getD i (ByteArray.empty, ByteArray.empty, 0)).1.size : Int)) && decide (((x.getD i (ByteArray.empty, ByteArray.empty, 0)).1.size : Int) ≤ 12)) = a
    generalize decide (((x.getD i (ByteArray.empty, ByteArray.empty, 0)).2.1.size : Int) ≤ 20) = b
    generalize (decide (1 ≤ (x.getD i (ByteArray.empty, ByteArray.empty, 0)).2.2) && decide ((x.getD i (ByteArray.empty, ByteArray.empty, 0)).2.2 ≤ 1000000000)) = c
    cases a
    · simp
    cases b
    · simp
    cases c
    · simp
    by_cases h0 : 0 < i
    · rw [wrap_pred (by omega) h0]
      simp only [Int.toNat_natCast, show ((0 : Int) ≤ ((i - 1 : Nat) : Int)) from by omega, show (((i - 1 : Nat) : Int) < (x.length : Int)) from by omega, if_true]
      rcases Bool.eq_false_or_eq_true (Op.bytesLess (x.getD (i - 1) (ByteArray.empty, ByteArray.empty, 0)).1.toList (x.getD i (ByteArray.empty, ByteArray.empty, 0)).1.toList) with hb | hb <;> simp only [hb] <;> simp [h0, show i ≠ 0 by omega]
    · have : i = 0 := by omega
      subst this
      simp)) 0 (by omega)
  simpa using this)

theorem bytes_total : ∀ a b : List UInt8, (Op.bytesLess a b || a == b) = !Op.bytesLess b a
  | [], [] => rfl
  | [], _ :: _ => rfl
  | _ :: _, [] => rfl
  | a :: l, b :: m => by
    have ih := bytes_total l m
    simp only [Op.bytesLess]
    by_cases h1 : a < b
    · have h2 : ¬ b < a := by exact UInt8.not_lt.2 (UInt8.le_of_lt h1)
      have h3 : ¬ b = a := fun h => by subst h; exact absurd h1 (UInt8.lt_irrefl _)
      simp [h1, h2, h3]
    · by_cases h2 : b < a
      · have h3 : ¬ a = b := fun h => by subst h; exact absurd h2 (UInt8.lt_irrefl _)
        simp [h1, h2, h3]
      · have h3 : a = b := UInt8.le_antisymm (UInt8.not_lt.1 h2) (UInt8.not_lt.1 h1)
        subst h3
        simpa [h1] using ih

end Go.Proofs.Ytnbfkndicldppaa.Core
