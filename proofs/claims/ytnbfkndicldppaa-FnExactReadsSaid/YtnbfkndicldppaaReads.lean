/- FnExactReads: both say the same of a list of calls. -/
import Derived.Test.YtnbfkndicldppaaInTime
namespace Go.Proofs.Ytnbfkndicldppaa.Core
open Go
set_option linter.unusedVariables false

/-- A call that put what another one got. -/
def isput (g x : TCall) : Bool := (x.1 == 1) && (x.2.1.toList == g.2.1.toList) && (x.2.2.1.toList == g.2.2.2.2.2.2.2.2.toList) && (decide (x.2.2.2.2.1 < 0) || (x.2.2.2.2.2.1 == g.2.2.2.2.2.1))

theorem F_impl_isPut_1_eq x g : F_impl_isPut_1 x g = some (isput g x) := f_impl_isPut_1 (by
  unfold t_impl_isPut_1 isput
  simp only [F_impl_isDone_eq, Option.bind_some]
  by_cases a : x.1 = 1 <;> by_cases b : x.2.1.toList = g.2.1.toList <;> by_cases c : x.2.2.1.toList = g.2.2.2.2.2.2.2.2.toList <;> by_cases d : 0 ≤ x.2.2.2.2.1 <;> simp [a, b, c, d] <;> omega)
theorem F_spec_l16Put_eq g x : F_spec_l16Put g x = some (isput g x) := f_spec_l16Put (by
  unfold t_spec_l16Put isput
  by_cases a : x.1 = 1 <;> by_cases b : x.2.1.toList = g.2.1.toList <;> by_cases c : x.2.2.1.toList = g.2.2.2.2.2.2.2.2.toList <;> by_cases d : x.2.2.2.2.1 < 0 <;> simp [a, b, c, d])

theorem F_impl_isPut_eq (x : List TCall) (g) (h : x.length ≤ maxLen) : F_impl_isPut x g = some (x.any (isput g)) := f_impl_isPut (by
  have hm : x.length ≤ 9223372036854775807 := h
  have : ∃ r, W_slices_IndexFunc_impl_Call_impl_Call_L0 x g (x.length : Int) ((0 : Nat) : Int) = some r ∧ decide (r ≥ 0) = (x.drop 0).any (isput g) :=
    down (n := x.length) (P := fun i => ∃ r, W_slices_IndexFunc_impl_Call_impl_Call_L0 x g (x.length : Int) (i : Int) = some r ∧ decide (r ≥ 0) = (x.drop i).any (isput g))
      ⟨-1, w_slices_IndexFunc_impl_Call_impl_Call_L0 (by
        unfold t_slices_IndexFunc_impl_Call_impl_Call_L0
        rw [if_neg (by simp)]), by simp⟩
      (fun i hi ⟨r, hr, hd⟩ => by
        have e := F_impl_isPut_1_eq x[i] g
        cases q : isput g x[i] with
        | true =>
          refine ⟨i, w_slices_IndexFunc_impl_Call_impl_Call_L0 ?_, by rw [drop_cons hi, List.any_cons, q, Bool.true_or]; simp⟩
          unfold t_slices_IndexFunc_impl_Call_impl_Call_L0
          simp only [show ((i : Int) < (x.length : Int)) from by omega, decide_true, if_true, show (0 : Int) ≤ (i : Int) from by omega, Int.toNat_natCast, getD_at hi, e, q, Option.bind_some]
        | false =>
          refine ⟨r, w_slices_IndexFunc_impl_Call_impl_Call_L0 ?_, by rw [hd, drop_cons hi, List.any_cons, q, Bool.false_or]⟩
          unfold t_slices_IndexFunc_impl_Call_impl_Call_L0
          simp only [show ((i : Int) < (x.length : Int)) from by omega, decide_true, if_true, show (0 : Int) ≤ (i : Int) from by omega, Int.toNat_natCast, getD_at hi, e, q, Option.bind_some, wrap_succ (show i < 9223372036854775807 by omega), hr]
          simp) 0 (by omega)
  obtain ⟨r, hr, hd⟩ := this
  unfold t_impl_isPut
  rw [f_slices_ContainsFunc_impl_Call_impl_Call (x0 := x) (x1 := g) (r := decide (r ≥ 0)) (by
    unfold t_slices_ContainsFunc_impl_Call_impl_Call
    rw [f_slices_IndexFunc_impl_Call_impl_Call (x0 := x) (x1 := g) (r := r) (by unfold t_slices_IndexFunc_impl_Call_impl_Call; exact hr)]
    rfl), hd]
  rfl)

/-- A get of a list of calls has what was put. -/
def readOk (x : List TCall) (g : TCall) : Bool :=
  if g.1 = 2 then
    if 0 ≤ g.2.2.2.2.1 then
      if g.2.2.2.2.2.1 = 0 then g.2.2.2.2.2.2.2.2.toList == (⟨#[]⟩ : ByteArray).toList
      else x.any (isput g) && !decide (g.2.2.2.2.2.1 > stamp g)
    else true
  else true

theorem F_spec_Reads_eq (x) (h : x.length ≤ maxLen) : F_spec_Reads x = some (x.all (readOk x)) := f_spec_Reads (by
  have hm : x.length ≤ 9223372036854775807 := h
  unfold t_spec_Reads
  have := down (n := x.length) (P := fun i => W_spec_Reads_L0 x (i : Int) = some ((x.drop i).all (readOk x))) (w_spec_Reads_L0 (by
    unfold t_spec_Reads_L0
    rw [if_neg (by simp)]
    simp)) (fun i hi ih => w_spec_Reads_L0 (by
    unfold t_spec_Reads_L0
    simp only [show ((i : Int) < (x.length : Int)) from by omega, decide_true, if_true, show (0 : Int) ≤ (i : Int) from by omega, Int.toNat_natCast, getD_at hi, wrap_succ (show i < 9223372036854775807 by omega), ih]
    rw [drop_cons hi, List.all_cons]
    generalize hq : (x.drop (i + 1)).all (readOk x) = q at *
    by_cases a : x[i].1 = 2
    · by_cases b : x[i].2.2.2.2.1 < 0
      · have : ¬ 0 ≤ x[i].2.2.2.2.1 := by omega
        simp [readOk, a, b, this]
      · have b' : 0 ≤ x[i].2.2.2.2.1 := by omega
        have J3 : ∀ f, W_spec_Reads_J3 x (i : Int) f x[i] = some ((f && !decide (x[i].2.2.2.2.2.1 > stamp x[i])) && q) := fun f => w_spec_Reads_J3 (by
          unfold t_spec_Reads_J3
          simp only [F_spec_Stamp_eq, Option.bind_some, wrap_succ (show i < 9223372036854775807 by omega), ih]
          cases f <;> by_cases c : x[i].2.2.2.2.2.1 > stamp x[i] <;> simp [c])
        have L2 : ∀ f, W_spec_Reads_L2 x (i : Int) f ((0 : Nat) : Int) x[i] = some (((f || (x.drop 0).any (isput x[i])) && !decide (x[i].2.2.2.2.2.1 > stamp x[i])) && q) :=
          down (n := x.length) (P := fun j => ∀ f, W_spec_Reads_L2 x (i : Int) f (j : Int) x[i] = some (((f || (x.drop j).any (isput x[i])) && !decide (x[i].2.2.2.2.2.1 > stamp x[i])) && q)) (fun f => w_spec_Reads_L2 (by
            unfold t_spec_Reads_L2
            rw [if_neg (by simp), J3]
            simp)) (fun j hj ihj f => w_spec_Reads_L2 (by
            unfold t_spec_Reads_L2
            simp only [show ((j : Int) < (x.length : Int)) from by omega, decide_true, if_true, show (0 : Int) ≤ (j : Int) from by omega, Int.toNat_natCast, getD_at hj, wrap_succ (show j < 9223372036854775807 by omega), ihj, F_spec_l16Put_eq, Option.bind_some]
            rw [drop_cons hj, List.any_cons]
            cases f <;> simp)) 0 (by omega)
        have J1 : ∀ d, W_spec_Reads_J1 x (i : Int) d x[i] = some (readOk x x[i] && q) := fun d => w_spec_Reads_J1 (by
          unfold t_spec_Reads_J1
          have l2 := L2 false
          simp only [Int.ofNat_zero, Int.natCast_zero] at l2
          simp only [wrap_succ (show i < 9223372036854775807 by omega), ih, l2]
          by_cases c : x[i].2.2.2.2.2.1 = 0
          · cases d : x[i].2.2.2.2.2.2.2.2.toList <;> simp [readOk, a, b', c, d]
          · simp [readOk, a, b', c])
        simp [a, b, J1]
    · simp [readOk, a])) 0 (by omega)
  simpa using this)

theorem F_impl_Reads_eq (x) (h : x.length ≤ maxLen) : F_impl_Reads x = some (x.all (readOk x)) := f_impl_Reads (by
  have hm : x.length ≤ 9223372036854775807 := h
  unfold t_impl_Reads
  have := down (n := x.length) (P := fun i => W_impl_Reads_L0 x x (x.length : Int) (i : Int) = some ((x.drop i).all (readOk x))) (w_impl_Reads_L0 (by
    unfold t_impl_Reads_L0
    rw [if_neg (by simp)]
    simp)) (fun i hi ih => w_impl_Reads_L0 (by
    unfold t_impl_Reads_L0
    simp only [show ((i : Int) < (x.length : Int)) from by omega, decide_true, if_true, show (0 : Int) ≤ (i : Int) from by omega, Int.toNat_natCast, getD_at hi, wrap_succ (show i < 9223372036854775807 by omega), ih, F_impl_isDone_eq, Option.bind_some]
    rw [drop_cons hi, List.all_cons]
    generalize hq : (x.drop (i + 1)).all (readOk x) = q at *
    have J1 : ∀ d, x[i].1 = 2 → 0 ≤ x[i].2.2.2.2.1 → W_impl_Reads_J1 x x (x.length : Int) (i : Int) d x[i] = some (readOk x x[i] && q) := fun d a b' => w_impl_Reads_J1 (by
      unfold t_impl_Reads_J1
      simp only [wrap_succ (show i < 9223372036854775807 by omega), ih, F_impl_isPut_eq x _ h, F_impl_Stamp_eq, Option.bind_some]
      by_cases c : x[i].2.2.2.2.2.1 = 0
      · cases d : x[i].2.2.2.2.2.2.2.2.toList <;> simp [readOk, a, b', c, d]
      · cases e : x.any (isput x[i]) <;> by_cases d : x[i].2.2.2.2.2.1 > stamp x[i] <;> simp [readOk, a, b', c, d, e])
    by_cases a : x[i].1 = 2
    · by_cases b : 0 ≤ x[i].2.2.2.2.1
      · have := J1 (!decide (0 ≤ x[i].2.2.2.2.1)) a b
        simp [b] at this
        simp [a, b, this]
      · simp [readOk, a, b]
    · simp [readOk, a])) 0 (by omega)
  simpa using this)

theorem law_FnExactReads (x) (hx : Kd.ok (.slice (.pair (.int .i64) (.pair .str (.pair .str (.pair (.int .i64) (.pair (.int .i64) (.pair (.int .i64) (.pair (.int .i64) (.pair (.int .i64) .str))))))))) x) : F_laws_FnExactReads x = some true := f_laws_FnExactReads (by
  unfold t_laws_FnExactReads
  obtain ⟨r, hr, hl⟩ := F_laws_szCallS_ok x hx.1 1048576 (by omega)
  rw [hr, Option.bind_some]
  by_cases h2 : r < 0
  · rw [if_pos (by simpa using h2)]
  · have : x.length ≤ 68719476736 := by omega
    rw [if_neg (by simpa using h2)]
    simp [F_laws_toCallS_eq x this, F_spec_Reads_eq x hx.1, F_impl_Reads_eq x hx.1, F_laws_eqCallS_same x this, eqK])

end Go.Proofs.Ytnbfkndicldppaa.Core
