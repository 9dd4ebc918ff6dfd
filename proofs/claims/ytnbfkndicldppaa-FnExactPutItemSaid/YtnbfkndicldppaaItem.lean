/- FnExactItemOf: both find the same item. -/
import Derived.Test.YtnbfkndicldppaaStamp
namespace Go.Proofs.Ytnbfkndicldppaa.Core
open Go
set_option linter.unusedVariables false

theorem F72_ex x n : ∃ r, F_laws_szItem x n = some r := by
  have : ∃ r, t_laws_szItem x n = some r := by
    unfold t_laws_szItem
    (repeat' split) <;> exact ⟨_, rfl⟩
  exact this.elim fun r h => ⟨r, f_laws_szItem h⟩
theorem F_laws_toItem_eq x : F_laws_toItem x = some x := f_laws_toItem rfl
theorem F_laws_eqItem_same x : F_laws_eqItem x x = some true := f_laws_eqItem (by unfold t_laws_eqItem; simp)

/-- The measure of a list of items: none, or the list is short. -/
theorem F_laws_szItemS_ok (x) (hx : x.length ≤ maxLen) (n : Int) (hn : 0 ≤ n ∧ n ≤ 68719476736) : ∃ r, F_laws_szItemS x n = some r ∧ (r < 0 ∨ (x.length : Int) ≤ n) := by
  by_cases h : IntKind.i64.wrap (n - (x.length : Int)) < 0
  · exact ⟨-1, f_laws_szItemS (by unfold t_laws_szItemS; rw [if_pos (by simpa using h)]), .inl (by omega)⟩
  · obtain ⟨r, hr⟩ := size_loop (x := x) (d := (ByteArray.empty, ByteArray.empty, (0 : Int))) (L := fun n i => W_laws_szItemS_L0 x n i) F72_ex hx (fun n i r h => w_laws_szItemS_L0 h) (IntKind.i64.wrap (n - (x.length : Int)))
    exact ⟨r, f_laws_szItemS (by unfold t_laws_szItemS; rw [if_neg (by simpa using h)]; exact hr), .inr (left_len hx (by omega) h)⟩

theorem F_laws_toItemS_eq (x) (h : x.length ≤ 68719476736) : F_laws_toItemS x = some x := f_laws_toItemS (by
  unfold t_laws_toItemS
  rw [if_pos (by omega), if_pos (by omega)]
  exact copy_loop (L := fun i z => W_laws_toItemS_L0 x i z) F_laws_toItem_eq h (fun i z r h => w_laws_toItemS_L0 h))

theorem F_laws_eqItemS_same (x) (h : x.length ≤ 68719476736) : F_laws_eqItemS x x = some true := f_laws_eqItemS (by
  unfold t_laws_eqItemS
  rw [if_neg (by simp)]
  exact same_loop (L := fun i => W_laws_eqItemS_L0 x x i) F_laws_eqItem_same h (fun i r h => w_laws_eqItemS_L0 h))

/-- The first item with a key. -/
def itemOf (x : List (ByteArray × ByteArray × Int)) (k : ByteArray) : ByteArray × ByteArray × Int :=
  (x.find? fun a => a.1.toList == k.toList).getD (ByteArray.empty, ByteArray.empty, 0)

theorem drop_cons {α : Type} {x : List α} {i : Nat} (h : i < x.length) : x.drop i = x[i] :: x.drop (i + 1) := List.drop_eq_getElem_cons h

end Go.Proofs.Ytnbfkndicldppaa.Core
