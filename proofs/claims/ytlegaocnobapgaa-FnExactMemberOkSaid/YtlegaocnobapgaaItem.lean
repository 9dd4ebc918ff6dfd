/- FnExactItemOf: both find the same item. -/
import Derived.Test.YtlegaocnobapgaaStamp
namespace Go.Proofs.Ytlegaocnobapgaa.Core
open Go
set_option linter.unusedVariables false

theorem F72_ex x n : ∃ r, F72 x n = some r := by
  have : ∃ r, t72 x n = some r := by
    unfold t72
    (repeat' split) <;> exact ⟨_, rfl⟩
  exact this.elim fun r h => ⟨r, f72 h⟩
theorem F73_eq x : F73 x = some x := f73 rfl
theorem F32_same x : F32 x x = some true := f32 (by unfold t32; simp)

/-- The measure of a list of items: none, or the list is short. -/
theorem F28_ok (x) (hx : x.length ≤ maxLen) (n : Int) (hn : 0 ≤ n ∧ n ≤ 68719476736) : ∃ r, F28 x n = some r ∧ (r < 0 ∨ (x.length : Int) ≤ n) := by
  by_cases h : IntKind.i64.wrap (n - (x.length : Int)) < 0
  · exact ⟨-1, f28 (by unfold t28; rw [if_pos (by simpa using h)]), .inl (by omega)⟩
  · obtain ⟨r, hr⟩ := size_loop (x := x) (d := (ByteArray.empty, ByteArray.empty, (0 : Int))) (L := fun n i => W28_L0 x n i) F72_ex hx (fun n i r h => w28_L0 h) (IntKind.i64.wrap (n - (x.length : Int)))
    exact ⟨r, f28 (by unfold t28; rw [if_neg (by simpa using h)]; exact hr), .inr (left_len hx (by omega) h)⟩

theorem F30_eq (x) (h : x.length ≤ 68719476736) : F30 x = some x := f30 (by
  unfold t30
  rw [if_pos (by omega), if_pos (by omega)]
  exact copy_loop (L := fun i z => W30_L0 x i z) F73_eq h (fun i z r h => w30_L0 h))

theorem F33_same (x) (h : x.length ≤ 68719476736) : F33 x x = some true := f33 (by
  unfold t33
  rw [if_neg (by simp)]
  exact same_loop (L := fun i => W33_L0 x x i) F32_same h (fun i r h => w33_L0 h))

/-- The first item with a key. -/
def itemOf (x : List (ByteArray × ByteArray × Int)) (k : ByteArray) : ByteArray × ByteArray × Int :=
  (x.find? fun a => a.1.toList == k.toList).getD (ByteArray.empty, ByteArray.empty, 0)

theorem drop_cons {α : Type} {x : List α} {i : Nat} (h : i < x.length) : x.drop i = x[i] :: x.drop (i + 1) := List.drop_eq_getElem_cons h

theorem F29_eq (x k) (h : x.length ≤ maxLen) : F29 x k = some (itemOf x k) := f29 (by
  have hm : x.length ≤ 9223372036854775807 := h
  unfold t29
  exact down (n := x.length) (P := fun i => ∀ z, W29_L0 x k (i : Int) z = some (itemOf (x.drop i) k)) (fun z => w29_L0 (by
    unfold t29_L0
    rw [if_neg (by simp), List.drop_length]
    rfl)) (fun i hi ih z => w29_L0 (by
    unfold t29_L0
    simp only [show ((i : Int) < (x.length : Int)) from by omega, decide_true, if_true, show (0 : Int) ≤ (i : Int) from by omega, Int.toNat_natCast, getD_at hi, wrap_succ (show i < 9223372036854775807 by omega)]
    rw [drop_cons hi]
    by_cases hk : (x[i].1.toList == k.toList) = true
    · rw [if_pos hk]
      unfold itemOf
      rw [List.find?_cons, hk]
      rfl
    · rw [if_neg hk, ih]
      unfold itemOf
      rw [List.find?_cons, Bool.eq_false_iff.2 hk])) 0 (by omega) _)

theorem F31_eq (x k) (h : x.length ≤ maxLen) : F31 x k = some (itemOf x k) := f31 (by
  have hm : x.length ≤ 9223372036854775807 := h
  unfold t31
  exact down (n := x.length) (P := fun i => ∀ z, W31_L0 k x (x.length : Int) (i : Int) z = some (itemOf (x.drop i) k)) (fun z => w31_L0 (by
    unfold t31_L0
    rw [if_neg (by simp), List.drop_length]
    rfl)) (fun i hi ih z => w31_L0 (by
    unfold t31_L0
    simp only [show ((i : Int) < (x.length : Int)) from by omega, decide_true, if_true, show (0 : Int) ≤ (i : Int) from by omega, Int.toNat_natCast, getD_at hi, wrap_succ (show i < 9223372036854775807 by omega)]
    rw [drop_cons hi]
    by_cases hk : (x[i].1.toList == k.toList) = true
    · rw [if_pos hk]
      unfold itemOf
      rw [List.find?_cons, hk]
      rfl
    · rw [if_neg hk, ih]
      unfold itemOf
      rw [List.find?_cons, Bool.eq_false_iff.2 hk])) 0 (by omega) _)

theorem law6 (x) (hx : Kd.ok (.slice (.pair .str (.pair .str (.int .i64)))) x) (k) (_ : Kd.ok .str k) : F6 x k = some true := f6 (by
  unfold t6
  obtain ⟨r, hr, hl⟩ := F28_ok x hx.1 1048576 (by omega)
  by_cases h1 : ((k.size : Int) > 1048576)
  · rw [if_pos (by simpa using h1)]
  · rw [if_neg (by simpa using h1), hr, Option.bind_some]
    by_cases h2 : r < 0
    · rw [if_pos (by simpa using h2)]
    · have : x.length ≤ 68719476736 := by omega
      rw [if_neg (by simpa using h2)]
      simp [F30_eq x this, F29_eq x k hx.1, F31_eq x k hx.1, F32_same, F33_same x this])

end Go.Proofs.Ytlegaocnobapgaa.Core
