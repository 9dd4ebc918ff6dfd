/- FnExactInTime: both say the same of a list of calls. -/
import Derived.Test.YtlegaocnobapgaaItem
namespace Go.Proofs.Ytlegaocnobapgaa.Core
open Go
set_option linter.unusedVariables false

abbrev TCall : Type := Int × ByteArray × ByteArray × Int × Int × Int × Int × Int × ByteArray

theorem F83_eq x : F83 x = some (decide (0 ≤ x.2.2.2.2.1)) := f83 rfl
theorem F84_same x : F84 x x = some true := f84 (by unfold t84; simp)

theorem F45_ok (x) (hx : x.length ≤ maxLen) (n : Int) (hn : 0 ≤ n ∧ n ≤ 68719476736) : ∃ r, F45 x n = some r ∧ (r < 0 ∨ (x.length : Int) ≤ n) := by
  by_cases h : IntKind.i64.wrap (n - (x.length : Int)) < 0
  · exact ⟨-1, f45 (by unfold t45; rw [if_pos (by simpa using h)]), .inl (by omega)⟩
  · obtain ⟨r, hr⟩ := size_loop (x := x) (d := ((0 : Int), ByteArray.empty, ByteArray.empty, (0 : Int), (0 : Int), (0 : Int), (0 : Int), (0 : Int), ByteArray.empty)) (L := fun n i => W45_L0 x n i) F15_ex hx (fun n i r h => w45_L0 h) (IntKind.i64.wrap (n - (x.length : Int)))
    exact ⟨r, f45 (by unfold t45; rw [if_neg (by simpa using h)]; exact hr), .inr (left_len hx (by omega) h)⟩

theorem F47_eq (x) (h : x.length ≤ 68719476736) : F47 x = some x := f47 (by
  unfold t47
  rw [if_pos (by omega), if_pos (by omega)]
  exact copy_loop (L := fun i z => W47_L0 x i z) F17_eq h (fun i z r h => w47_L0 h))

theorem F49_same (x) (h : x.length ≤ 68719476736) : F49 x x = some true := f49 (by
  unfold t49
  rw [if_neg (by simp)]
  exact same_loop (L := fun i => W49_L0 x x i) F84_same h (fun i r h => w49_L0 h))

/-- Two answered calls that are not in time. -/
def late (a b : TCall) : Bool := decide (0 ≤ a.2.2.2.2.1) && decide (0 ≤ b.2.2.2.2.1) && (decide (stamp a = stamp b) || (decide (a.2.2.2.2.1 < b.2.2.2.1) && decide (stamp b ≤ stamp a)))
def rowT (a : TCall) (i : Nat) : Nat → List TCall → Bool
  | _, [] => true
  | j, b :: r => (decide (i = j) || !late a b) && rowT a i (j + 1) r
def allT (x : List TCall) : Nat → List TCall → Bool
  | _, [] => true
  | i, a :: r => rowT a i 0 x && allT x (i + 1) r

theorem F46_eq (x) (h : x.length ≤ maxLen) : F46 x = some (allT x 0 x) := f46 (by
  have hm : x.length ≤ 9223372036854775807 := h
  unfold t46
  exact down (n := x.length) (P := fun i => W46_L0 x (i : Int) = some (allT x i (x.drop i))) (w46_L0 (by
    unfold t46_L0
    rw [if_neg (by simp), List.drop_length]
    rfl)) (fun i hi ih => w46_L0 (by
    unfold t46_L0
    simp only [show ((i : Int) < (x.length : Int)) from by omega, decide_true, if_true]
    rw [drop_cons hi]
    have := down (n := x.length) (P := fun j => W46_L1 x (i : Int) (j : Int) = some (rowT x[i] i j (x.drop j) && allT x (i + 1) (x.drop (i + 1)))) (w46_L1 (by
      unfold t46_L1
      rw [if_neg (by simp), List.drop_length, wrap_succ (show i < 9223372036854775807 by omega), ih]
      rfl)) (fun j hj ihj => w46_L1 (by
      have w2 : ∀ b, decide (0 ≤ x[i].2.2.2.2.1) = true → decide (0 ≤ x[j].2.2.2.2.1) = true → W46_J2 x (i : Int) (j : Int) b x[i] x[j] = some (!late x[i] x[j] && (rowT x[i] i (j + 1) (x.drop (j + 1)) && allT x (i + 1) (x.drop (i + 1)))) := fun b g1 g2 => w46_J2 (by
        unfold t46_J2 late
        simp only [F16_eq, Option.bind_some, wrap_succ (show j < 9223372036854775807 by omega), ihj, g1, g2, Bool.true_and]
        by_cases e1 : stamp x[i] = stamp x[j]
        · simp [e1]
        · by_cases e2 : x[i].2.2.2.2.1 < x[j].2.2.2.1 <;> by_cases e3 : stamp x[j] ≤ stamp x[i] <;> simp [e1, e2, e3])
      unfold t46_L1
      simp only [show ((i : Int) < (x.length : Int)) from by omega, show ((j : Int) < (x.length : Int)) from by omega, decide_true, if_true, show (0 : Int) ≤ (i : Int) from by omega, show (0 : Int) ≤ (j : Int) from by omega, Int.toNat_natCast, getD_at hi, getD_at hj, wrap_succ (show j < 9223372036854775807 by omega), ihj]
      rw [drop_cons hj]
      by_cases g1 : x[i].2.2.2.2.1 < 0
      · have : late x[i] x[j] = false := by unfold late; simp [show ¬ 0 ≤ x[i].2.2.2.2.1 by omega]
        simp [g1, rowT, this]
      · by_cases g2 : x[j].2.2.2.2.1 < 0
        · have : late x[i] x[j] = false := by unfold late; simp [show ¬ 0 ≤ x[j].2.2.2.2.1 by omega]
          simp [g1, g2, rowT, this]
        · by_cases e : i = j
          · subst e
            simp [g1, rowT]
          · have := w2 ((i : Int) == (j : Int)) (by simpa using g1) (by simpa using g2)
            have ne : ((i : Int) == (j : Int)) = false := by simp; omega
            rw [ne] at this
            simp [g1, g2, rowT, e, ne, this, Bool.and_assoc])) 0 (by omega)
    exact this)) 0 (by omega))

theorem F48_eq (x) (h : x.length ≤ maxLen) : F48 x = some (allT x 0 x) := f48 (by
  have hm : x.length ≤ 9223372036854775807 := h
  unfold t48
  exact down (n := x.length) (P := fun i => W48_L0 x x (x.length : Int) (i : Int) = some (allT x i (x.drop i))) (w48_L0 (by
    unfold t48_L0
    rw [if_neg (by simp), List.drop_length]
    rfl)) (fun i hi ih => w48_L0 (by
    unfold t48_L0
    simp only [show ((i : Int) < (x.length : Int)) from by omega, decide_true, if_true, show (0 : Int) ≤ (i : Int) from by omega, Int.toNat_natCast, getD_at hi]
    rw [drop_cons hi]
    have := down (n := x.length) (P := fun j => W48_L1 x (i : Int) x (x.length : Int) (i : Int) x (x.length : Int) (j : Int) x[i] = some (rowT x[i] i j (x.drop j) && allT x (i + 1) (x.drop (i + 1)))) (w48_L1 (by
      unfold t48_L1
      rw [if_neg (by simp), List.drop_length, wrap_succ (show i < 9223372036854775807 by omega), ih]
      rfl)) (fun j hj ihj => w48_L1 (by
      have w2 : ∀ b, decide (0 ≤ x[i].2.2.2.2.1) = true → decide (0 ≤ x[j].2.2.2.2.1) = true → W48_J2 x (i : Int) x (x.length : Int) (i : Int) x (x.length : Int) (j : Int) b x[i] x[j] = some (!late x[i] x[j] && (rowT x[i] i (j + 1) (x.drop (j + 1)) && allT x (i + 1) (x.drop (i + 1)))) := fun b g1 g2 => w48_J2 (by
        unfold t48_J2 late
        simp only [F18_eq, Option.bind_some, wrap_succ (show j < 9223372036854775807 by omega), ihj, g1, g2, Bool.true_and]
        by_cases e1 : stamp x[i] = stamp x[j]
        · simp [e1]
        · by_cases e2 : x[i].2.2.2.2.1 < x[j].2.2.2.1 <;> by_cases e3 : stamp x[j] < stamp x[i] <;> simp [e1, e2, e3] <;> intro h <;> omega)
      unfold t48_L1
      simp only [show ((j : Int) < (x.length : Int)) from by omega, decide_true, if_true, show (0 : Int) ≤ (j : Int) from by omega, Int.toNat_natCast, getD_at hj, wrap_succ (show j < 9223372036854775807 by omega), ihj, F83_eq, Option.bind_some]
      rw [drop_cons hj]
      by_cases e : i = j
      · subst e
        simp [rowT]
      · have ne : ((i : Int) == (j : Int)) = false := by simp; omega
        by_cases g1 : 0 ≤ x[i].2.2.2.2.1
        · by_cases g2 : 0 ≤ x[j].2.2.2.2.1
          · have := w2 false (by simpa using g1) (by simpa using g2)
            simp [g1, g2, rowT, e, ne, this, Bool.and_assoc]
          · have : late x[i] x[j] = false := by unfold late; simp [g2]
            simp [g1, g2, rowT, this, ne]
        · have : late x[i] x[j] = false := by unfold late; simp [g1]
          simp [g1, rowT, this, ne])) 0 (by omega)
    exact this)) 0 (by omega))

theorem law10 (x) (hx : Kd.ok (.slice (.pair (.int .i64) (.pair .str (.pair .str (.pair (.int .i64) (.pair (.int .i64) (.pair (.int .i64) (.pair (.int .i64) (.pair (.int .i64) .str))))))))) x) : F10 x = some true := f10 (by
  unfold t10
  obtain ⟨r, hr, hl⟩ := F45_ok x hx.1 1048576 (by omega)
  rw [hr, Option.bind_some]
  by_cases h2 : r < 0
  · rw [if_pos (by simpa using h2)]
  · have : x.length ≤ 68719476736 := by omega
    rw [if_neg (by simpa using h2)]
    simp [F47_eq x this, F46_eq x hx.1, F48_eq x hx.1, F49_same x this, eqK])

end Go.Proofs.Ytlegaocnobapgaa.Core
