/- FnExactOneChosen: both say the same of a council. -/
import Derived.Test.YtlegaocnobapgaaSz
namespace Go.Proofs.Ytlegaocnobapgaa.Core
open Go
set_option linter.unusedVariables false

abbrev TCouncil : Type := List (Int × Int × ByteArray) × List (Int × Int × ByteArray × List (Int × Int × Int × Int × Int × ByteArray) × Bool × List Int × Bool) × List (Int × Int × Int × Int × Int × ByteArray) × List ByteArray

/-- All are the first one. -/
def oneOnly (c : List ByteArray) : List ByteArray → Bool
  | [] => true
  | a :: r => (a.toList == (c.getD 0 ByteArray.empty).toList) && oneOnly c r

theorem oneOnly_step (b : Bool) (g : Bool) : (if (!b) = true then some false else some g) = some (b && g) := by cases b <;> simp

theorem F63_eq (x : TCouncil) (h : x.2.2.2.length ≤ maxLen) : F63 x = some (oneOnly x.2.2.2 x.2.2.2) := f63 (by
  have hm : x.2.2.2.length ≤ 9223372036854775807 := h
  unfold t63
  by_cases h0 : x.2.2.2.length = 0
  · have e : x.2.2.2 = [] := List.length_eq_zero_iff.1 h0
    refine w63_L0 ?_
    unfold t63_L0
    rw [if_neg (by simp [h0]), e]
    rfl
  · have key := down (n := x.2.2.2.length) (P := fun i => W63_L0 (i : Int) x = some (oneOnly x.2.2.2 (x.2.2.2.drop i))) (w63_L0 (by
      unfold t63_L0
      rw [if_neg (by simp), List.drop_length]
      rfl)) (fun i hi ih => w63_L0 (by
      unfold t63_L0
      simp only [show ((i : Int) < (x.2.2.2.length : Int)) from by omega, show ((0 : Int) < (x.2.2.2.length : Int)) from by omega, decide_true, if_true, show (0 : Int) ≤ (i : Int) from by omega, Int.le_refl, Int.toNat_natCast, Int.toNat_zero, wrap_succ (show i < 9223372036854775807 by omega), ih]
      rw [List.drop_eq_getElem_cons hi, oneOnly, getD_at hi]
      exact oneOnly_step _ _)) 1 (by omega)
    have e : x.2.2.2 = x.2.2.2[0] :: x.2.2.2.drop 1 := by
      have := List.drop_eq_getElem_cons (l := x.2.2.2) (i := 0) (by omega)
      simpa using this
    refine Eq.trans key ?_
    have e2 : oneOnly x.2.2.2 x.2.2.2 = oneOnly x.2.2.2 (x.2.2.2[0] :: x.2.2.2.drop 1) := congrArg _ e
    rw [e2, oneOnly, getD_at (by omega)]
    simp)

theorem F27_eq (x : TCouncil) (h : x.2.2.2.length ≤ maxLen) : F27 x = some (oneOnly x.2.2.2 x.2.2.2) := f27 (by
  have hm : x.2.2.2.length ≤ 9223372036854775807 := h
  unfold t27
  exact down (n := x.2.2.2.length) (P := fun i => W27_L0 x.2.2.2 (x.2.2.2.length : Int) (i : Int) x.1 x.2.1 x.2.2.1 x.2.2.2 = some (oneOnly x.2.2.2 (x.2.2.2.drop i))) (w27_L0 (by
    unfold t27_L0
    rw [if_neg (by simp), List.drop_length]
    rfl)) (fun i hi ih => w27_L0 (by
    unfold t27_L0
    simp only [show ((i : Int) < (x.2.2.2.length : Int)) from by omega, show ((0 : Int) < (x.2.2.2.length : Int)) from by omega, decide_true, if_true, show (0 : Int) ≤ (i : Int) from by omega, Int.le_refl, Int.toNat_natCast, Int.toNat_zero, wrap_succ (show i < 9223372036854775807 by omega), ih]
    rw [List.drop_eq_getElem_cons hi, oneOnly, getD_at hi]
    exact oneOnly_step _ _)) 0 (by omega))

theorem law14 (x) (hx : Kd.ok (.pair (.slice (.pair (.int .i64) (.pair (.int .i64) .str))) (.pair (.slice (.pair (.int .i64) (.pair (.int .i64) (.pair .str (.pair (.slice (.pair (.int .i64) (.pair (.int .i64) (.pair (.int .i64) (.pair (.int .i64) (.pair (.int .i64) .str)))))) (.pair .bool (.pair (.slice (.int .i64)) .bool))))))) (.pair (.slice (.pair (.int .i64) (.pair (.int .i64) (.pair (.int .i64) (.pair (.int .i64) (.pair (.int .i64) .str)))))) (.slice .str)))) x) : F14 x = some true := f14 (by
  unfold t14
  obtain ⟨r, hr, ho⟩ := sz62 x 1048576 hx (by omega)
  rw [hr, Option.bind_some]
  by_cases h2 : r < 0
  · rw [if_pos (by simpa using h2)]
  · have hs := (ho.resolve_left h2).1
    rw [if_neg (by simpa using h2)]
    simp [to64 x hs, F63_eq x hx.2.2.2.1, F27_eq x hx.2.2.2.1, eq65 x hs, eqK])

end Go.Proofs.Ytlegaocnobapgaa.Core
