/- FnExactInTime: both say the same of a list of calls. -/
import Derived.Test.YtnbfkndicldppaaItem
namespace Go.Proofs.Ytnbfkndicldppaa.Core
open Go
set_option linter.unusedVariables false

abbrev TCall : Type := Int × ByteArray × ByteArray × Int × Int × Int × Int × Int × ByteArray

theorem F_impl_isDone_eq x : F_impl_isDone x = some (decide (0 ≤ x.2.2.2.2.1)) := f_impl_isDone rfl
theorem F_laws_eqCall_same x : F_laws_eqCall x x = some true := f_laws_eqCall (by unfold t_laws_eqCall; simp)

theorem F_laws_szCallS_ok (x) (hx : x.length ≤ maxLen) (n : Int) (hn : 0 ≤ n ∧ n ≤ 68719476736) : ∃ r, F_laws_szCallS x n = some r ∧ (r < 0 ∨ (x.length : Int) ≤ n) := by
  by_cases h : IntKind.i64.wrap (n - (x.length : Int)) < 0
  · exact ⟨-1, f_laws_szCallS (by unfold t_laws_szCallS; rw [if_pos (by simpa using h)]), .inl (by omega)⟩
  · obtain ⟨r, hr⟩ := size_loop (x := x) (d := ((0 : Int), ByteArray.empty, ByteArray.empty, (0 : Int), (0 : Int), (0 : Int), (0 : Int), (0 : Int), ByteArray.empty)) (L := fun n i => W_laws_szCallS_L0 x n i) F15_ex hx (fun n i r h => w_laws_szCallS_L0 h) (IntKind.i64.wrap (n - (x.length : Int)))
    exact ⟨r, f_laws_szCallS (by unfold t_laws_szCallS; rw [if_neg (by simpa using h)]; exact hr), .inr (left_len hx (by omega) h)⟩

theorem F_laws_toCallS_eq (x) (h : x.length ≤ 68719476736) : F_laws_toCallS x = some x := f_laws_toCallS (by
  unfold t_laws_toCallS
  rw [if_pos (by omega), if_pos (by omega)]
  exact copy_loop (L := fun i z => W_laws_toCallS_L0 x i z) F_laws_toCall_eq h (fun i z r h => w_laws_toCallS_L0 h))

theorem F_laws_eqCallS_same (x) (h : x.length ≤ 68719476736) : F_laws_eqCallS x x = some true := f_laws_eqCallS (by
  unfold t_laws_eqCallS
  rw [if_neg (by simp)]
  exact same_loop (L := fun i => W_laws_eqCallS_L0 x x i) F_laws_eqCall_same h (fun i r h => w_laws_eqCallS_L0 h))

/-- Two answered calls that are not in time. -/
def late (a b : TCall) : Bool := decide (0 ≤ a.2.2.2.2.1) && decide (0 ≤ b.2.2.2.2.1) && (decide (stamp a = stamp b) || (decide (a.2.2.2.2.1 < b.2.2.2.1) && decide (stamp b ≤ stamp a)))
def rowT (a : TCall) (i : Nat) : Nat → List TCall → Bool
  | _, [] => true
  | j, b :: r => (decide (i = j) || !late a b) && rowT a i (j + 1) r
def allT (x : List TCall) : Nat → List TCall → Bool
  | _, [] => true
  | i, a :: r => rowT a i 0 x && allT x (i + 1) r

end Go.Proofs.Ytnbfkndicldppaa.Core
