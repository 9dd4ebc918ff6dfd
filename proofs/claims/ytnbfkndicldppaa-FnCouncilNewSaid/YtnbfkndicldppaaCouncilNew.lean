/- FnCouncilNew: a new council has heard nothing and chosen nothing. -/
import Derived.Test.YtnbfkndicldppaaDrawn
import Derived.Test.YtnbfkndicldppaaOneChosen
namespace Go.Proofs.Ytnbfkndicldppaa.Core
open Go
set_option linter.unusedVariables false

abbrev TTry : Type := Int × Int × ByteArray × List (Int × Int × Int × Int × Int × ByteArray) × Bool × List Int × Bool
def tryOf (k : Nat) : TTry := (((k + 1 : Nat) : Int), (0 : Int), ByteArray.empty, [], false, [], false)

theorem F_impl_CouncilNew_bad (v t : Int) (h : ¬ ((1 ≤ v ∧ v ≤ 5) ∧ (1 ≤ t ∧ t ≤ 4))) : F_impl_CouncilNew v t = some (([], [], [], []), false) := f_impl_CouncilNew (by
  unfold t_impl_CouncilNew
  simp only [F_impl_inRange_eq, Option.bind_some]
  by_cases h1 : 1 ≤ v ∧ v ≤ 5
  · have h2 : ¬ (1 ≤ t ∧ t ≤ 4) := fun h2 => h ⟨h1, h2⟩
    rw [if_pos (by simp [h1]), if_pos (by rw [← Bool.decide_and, decide_eq_false h2]; rfl)]
  · rw [if_neg (by rw [← Bool.decide_and, decide_eq_false h1]; simp)])
theorem F_spec_CouncilNew_bad (v t : Int) (h : ¬ ((1 ≤ v ∧ v ≤ 5) ∧ (1 ≤ t ∧ t ≤ 4))) : F_spec_CouncilNew v t = some (([], [], [], []), false) := f_spec_CouncilNew (by
  unfold t_spec_CouncilNew
  simp only [F_spec_l01In_eq, Option.bind_some]
  by_cases h1 : 1 ≤ v ∧ v ≤ 5
  · have h2 : ¬ (1 ≤ t ∧ t ≤ 4) := fun h2 => h ⟨h1, h2⟩
    rw [if_pos (by simp [h1]), if_pos (by rw [← Bool.decide_and, decide_eq_false h2]; rfl)]
  · rw [if_neg (by rw [← Bool.decide_and, decide_eq_false h1]; simp)])

theorem L25 (n : Nat) (hn : n ≤ 4) (a b c d e g i) : ∀ k, k ≤ n → ∀ z : List TTry, z.length = k → W_impl_CouncilNew_L1 (n : Int) (k : Int) a b c d e z g i = some ((e, z ++ (List.range' k (n - k)).map tryOf, g, i), true) :=
  down (P := fun k => ∀ z : List TTry, z.length = k → W_impl_CouncilNew_L1 (n : Int) (k : Int) a b c d e z g i = some ((e, z ++ (List.range' k (n - k)).map tryOf, g, i), true)) (fun z hz => w_impl_CouncilNew_L1 (by
    unfold t_impl_CouncilNew_L1
    rw [if_neg (by simp), Nat.sub_self]
    simp)) (fun k hk ih z hz => w_impl_CouncilNew_L1 (by
    unfold t_impl_CouncilNew_L1
    rw [if_pos (by simpa using hk), if_pos (by rw [hz]; simp; omega), wrap_succ (show k < 9223372036854775807 by omega), ih _ (by simp [hz])]
    have e1 : n - k = (n - (k + 1)) + 1 := by omega
    rw [e1, List.range'_succ]
    simp [tryOf]))
theorem L26 (n : Nat) (hn : n ≤ 4) (a b c) : ∀ k, k ≤ n → ∀ z : List TTry, z.length = k → W_spec_CouncilNew_L1 (n : Int) ((k + 1 : Nat) : Int) a b z c = some ((c, z ++ (List.range' k (n - k)).map tryOf, [], []), true) :=
  down (P := fun k => ∀ z : List TTry, z.length = k → W_spec_CouncilNew_L1 (n : Int) ((k + 1 : Nat) : Int) a b z c = some ((c, z ++ (List.range' k (n - k)).map tryOf, [], []), true)) (fun z hz => w_spec_CouncilNew_L1 (by
    unfold t_spec_CouncilNew_L1
    rw [if_neg (by simp; omega), Nat.sub_self]
    simp)) (fun k hk ih z hz => w_spec_CouncilNew_L1 (by
    unfold t_spec_CouncilNew_L1
    rw [if_pos (by simp; omega), if_pos (by rw [hz]; simp; omega), wrap_succ (show k + 1 < 9223372036854775807 by omega), ih _ (by simp [hz])]
    have e1 : n - k = (n - (k + 1)) + 1 := by omega
    rw [e1, List.range'_succ]
    simp [tryOf]))

theorem F_impl_CouncilNew_good (v t : Nat) (h : (1 ≤ v ∧ v ≤ 5) ∧ (1 ≤ t ∧ t ≤ 4)) : F_impl_CouncilNew (v : Int) (t : Int) = some ((List.replicate v ((0 : Int), (0 : Int), ByteArray.empty), (List.range' 0 t).map tryOf, [], []), true) := f_impl_CouncilNew (by
  unfold t_impl_CouncilNew
  simp only [F_impl_inRange_eq, Option.bind_some]
  rw [if_pos (by simp; omega), if_neg (by simp; omega)]
  refine w_impl_CouncilNew_J0 ?_
  unfold t_impl_CouncilNew_J0
  rw [if_pos (by omega), if_pos (by omega), Int.toNat_natCast]
  exact L25 t (by omega) _ _ _ _ _ _ _ 0 (by omega) [] rfl)
theorem F_spec_CouncilNew_good (v t : Nat) (h : (1 ≤ v ∧ v ≤ 5) ∧ (1 ≤ t ∧ t ≤ 4)) : F_spec_CouncilNew (v : Int) (t : Int) = some ((List.replicate v ((0 : Int), (0 : Int), ByteArray.empty), (List.range' 0 t).map tryOf, [], []), true) := f_spec_CouncilNew (by
  unfold t_spec_CouncilNew
  simp only [F_spec_l01In_eq, Option.bind_some]
  rw [if_pos (by simp; omega), if_neg (by simp; omega)]
  refine w_spec_CouncilNew_J0 ?_
  unfold t_spec_CouncilNew_J0
  rw [if_pos (by omega), if_pos (by omega), Int.toNat_natCast]
  exact L26 t (by omega) _ _ _ 0 (by omega) [] rfl)

theorem F_spec_DrawCouncilNew_ok (x : List Int) (h : x.length ≤ maxLen) : ∃ r, F_spec_DrawCouncilNew x = some r := by
  obtain ⟨d, e, k⟩ := F_spec_l01New_ok x h
  obtain ⟨a, d1, e1, k1⟩ := F_spec_l01Place_ok 6 d k
  obtain ⟨b, d2, e2, k2⟩ := F_spec_l01Place_ok 5 d1 k1
  exact ⟨(a, b), f_spec_DrawCouncilNew (by unfold t_spec_DrawCouncilNew; rw [e, Option.bind_some, e1, Option.bind_some, e2]; rfl)⟩

theorem law_FnCouncilNew (x) (hx : Kd.ok (.slice (.int .u8)) x) : F_laws_FnCouncilNew x = some true := f_laws_FnCouncilNew (by
  unfold t_laws_FnCouncilNew
  rw [show F_laws_big x = some (decide ((x.length : Int) > (1048576 : Int))) from f_laws_big rfl, Option.bind_some]
  split
  · rfl
  · obtain ⟨⟨v, t⟩, e⟩ := F_spec_DrawCouncilNew_ok x hx.1
    rw [e, Option.bind_some]
    by_cases h : (1 ≤ v ∧ v ≤ 5) ∧ (1 ≤ t ∧ t ≤ 4)
    · obtain ⟨n, rfl⟩ := Int.eq_ofNat_of_zero_le (show 0 ≤ v by omega)
      obtain ⟨m, rfl⟩ := Int.eq_ofNat_of_zero_le (show 0 ≤ t by omega)
      simp only [F_impl_CouncilNew_good n m (by omega), F_spec_CouncilNew_good n m (by omega), Option.bind_some]
      have e1 : IntKind.i64.wrap ((m : Int) - 1) = ((m - 1 : Nat) : Int) := by
        rw [wrap_id (by omega)]
        omega
      rw [e1]
      have hg : ((List.range' 0 m).map tryOf).getD (m - 1) ((0 : Int), (0 : Int), ByteArray.empty, [], false, [], false) = tryOf (m - 1) := by
        rw [getD_at (by simp; omega)]
        simp
      have h27 := F_impl_OneChosen_eq (List.replicate n ((0 : Int), (0 : Int), ByteArray.empty), (List.range' 0 m).map tryOf, [], []) (by simp)
      simp only [Int.toNat_natCast, hg, h27, oneOnly, Option.bind_some]
      simp [eqK, tryOf]
      omega
    · simp [F_impl_CouncilNew_bad v t h, F_spec_CouncilNew_bad v t h, eqK])

end Go.Proofs.Ytnbfkndicldppaa.Core
