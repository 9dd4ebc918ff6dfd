/- FnExactMemberOk: both say the same of a member. -/
import Derived.Test.YtlegaocnobapgaaItemsOk
import Derived.Test.YtlegaocnobapgaaViewsOk
namespace Go.Proofs.Ytlegaocnobapgaa.Core
open Go
set_option linter.unusedVariables false

abbrev TTask : Type := Int × Int × Int × (ByteArray × ByteArray × Int) × List Int
abbrev TMember : Type := Int × Int × Bool × Bool × Bool × Bool × List Int × List (ByteArray × ByteArray × Int) × Int × TTask

theorem F90_eq (x : TTask) (h : x.2.2.2.2.length ≤ 68719476736) : F90 x = some x := f90 (by
  unfold t90
  simp [F73_eq, F77_eq _ h])
theorem F93_same (x : TTask) (h : x.2.2.2.2.length ≤ 68719476736) : F93 x x = some true := f93 (by
  unfold t93
  simp [F32_same, F79_same _ h])
theorem F59_eq (x : TMember) (h1 : x.2.2.2.2.2.2.1.length ≤ 68719476736) (h2 : x.2.2.2.2.2.2.2.1.length ≤ 68719476736) (h3 : x.2.2.2.2.2.2.2.2.2.2.2.2.2.length ≤ 68719476736) : F59 x = some x := f59 (by
  unfold t59
  simp [F77_eq _ h1, F30_eq _ h2, F90_eq _ h3])
theorem F61_same (x : TMember) (h1 : x.2.2.2.2.2.2.1.length ≤ 68719476736) (h2 : x.2.2.2.2.2.2.2.1.length ≤ 68719476736) (h3 : x.2.2.2.2.2.2.2.2.2.2.2.2.2.length ≤ 68719476736) : F61 x x = some true := f61 (by
  unfold t61
  simp [F79_same _ h1, F33_same _ h2, F93_same _ h3, eqK])

theorem F72_ok (x) (hx : x.1.size ≤ maxLen ∧ x.2.1.size ≤ maxLen) (n : Int) (hn : 0 ≤ n ∧ n ≤ 68719476736) : ∃ r, F72 x n = some r ∧ (r < 0 ∨ (0 ≤ r ∧ r ≤ n)) := by
  have e1 : x.1.size ≤ 9223372036854775807 := hx.1
  have e2 : x.2.1.size ≤ 9223372036854775807 := hx.2
  have : ∃ r, t72 x n = some r ∧ (r < 0 ∨ (0 ≤ r ∧ r ≤ n)) := by
    unfold t72
    have w1 : IntKind.i64.wrap (n - (x.1.size : Int)) = n - x.1.size := wrap_id (by omega)
    rw [w1]
    by_cases h1 : n - (x.1.size : Int) < 0
    · exact ⟨-1, by rw [if_pos (by simpa using h1)], .inl (by omega)⟩
    · have w2 : IntKind.i64.wrap (n - (x.1.size : Int) - (x.2.1.size : Int)) = n - x.1.size - x.2.1.size := wrap_id (by omega)
      rw [if_neg (by simpa using h1), w2]
      by_cases h2 : n - (x.1.size : Int) - (x.2.1.size : Int) < 0
      · exact ⟨-1, by rw [if_pos (by simpa using h2)], .inl (by omega)⟩
      · exact ⟨_, by rw [if_neg (by simpa using h2)], .inr (by omega)⟩
  exact this.elim fun r h => ⟨r, f72 h.1, h.2⟩

/-- The measure of a list of items, and how it goes down. -/
theorem F28_le (x : List (ByteArray × ByteArray × Int)) (hx : x.length ≤ maxLen) (hok : ∀ a ∈ x, a.1.size ≤ maxLen ∧ a.2.1.size ≤ maxLen) (n : Int) (hn : 0 ≤ n ∧ n ≤ 68719476736) : ∃ r, F28 x n = some r ∧ (r < 0 ∨ ((x.length : Int) ≤ n ∧ 0 ≤ r ∧ r ≤ n)) := by
  have hm : x.length ≤ 9223372036854775807 := hx
  by_cases h : IntKind.i64.wrap (n - (x.length : Int)) < 0
  · exact ⟨-1, f28 (by unfold t28; rw [if_pos (by simpa using h)]), .inl (by omega)⟩
  · have hl := left_len hx (by omega) h
    have key := down (n := x.length) (P := fun i => ∀ m : Int, 0 ≤ m → m ≤ n → ∃ r, W28_L0 x m (i : Int) = some r ∧ (r < 0 ∨ (0 ≤ r ∧ r ≤ n))) (fun m _ _ => ⟨m, w28_L0 (by
      unfold t28_L0
      rw [if_neg (by simp)]), .inr (by omega)⟩) (fun i hi ih m hm0 hmn => by
      obtain ⟨s, hs, hso⟩ := F72_ok x[i] (hok _ (List.getElem_mem _)) m (by omega)
      by_cases h3 : s < 0
      · refine ⟨-1, w28_L0 ?_, .inl (by omega)⟩
        unfold t28_L0
        simp only [show ((i : Int) < (x.length : Int)) from by omega, decide_true, if_true, show (0 : Int) ≤ (i : Int) from by omega, Int.toNat_natCast, getD_at hi, hs, Option.bind_some]
        rw [if_pos (by simpa using h3)]
      · obtain ⟨r, hr, ho⟩ := ih s (by omega) (by omega)
        refine ⟨r, w28_L0 ?_, ho⟩
        unfold t28_L0
        simp only [show ((i : Int) < (x.length : Int)) from by omega, decide_true, if_true, show (0 : Int) ≤ (i : Int) from by omega, Int.toNat_natCast, getD_at hi, hs, Option.bind_some, wrap_succ (show i < 9223372036854775807 by omega)]
        rw [if_neg (by simpa using h3)]
        exact hr) 0 (by omega)
    have e : IntKind.i64.wrap (n - (x.length : Int)) = n - x.length := wrap_id (by omega)
    obtain ⟨r, hr, ho⟩ := key (n - x.length) (by omega) (by omega)
    exact ⟨r, f28 (by unfold t28; rw [if_neg (by simpa using h), e]; exact hr), ho.imp id fun ho => ⟨hl, ho⟩⟩

theorem F87_ok (x : TTask) (hx : x.2.2.2.2.length ≤ maxLen) (hi : x.2.2.2.1.1.size ≤ maxLen ∧ x.2.2.2.1.2.1.size ≤ maxLen) (n : Int) (hn : 0 ≤ n ∧ n ≤ 68719476736) : ∃ r, F87 x n = some r ∧ (r < 0 ∨ (x.2.2.2.2.length : Int) ≤ n) := by
  obtain ⟨a, ha, hao⟩ := F72_ok x.2.2.2.1 hi n hn
  by_cases h1 : a < 0
  · exact ⟨-1, f87 (by unfold t87; rw [ha, Option.bind_some, if_pos (by simpa using h1)]), .inl (by omega)⟩
  · obtain ⟨b, hb, hbo⟩ := F75_ok x.2.2.2.2 hx a (by omega)
    by_cases h2 : b < 0
    · exact ⟨-1, f87 (by unfold t87; rw [ha, Option.bind_some, if_neg (by simpa using h1), hb, Option.bind_some, if_pos (by simpa using h2)]), .inl (by omega)⟩
    · exact ⟨b, f87 (by unfold t87; rw [ha, Option.bind_some, if_neg (by simpa using h1), hb, Option.bind_some, if_neg (by simpa using h2)]), .inr (by omega)⟩

theorem F57_ok (x : TMember) (h1 : x.2.2.2.2.2.2.1.length ≤ maxLen) (h2 : x.2.2.2.2.2.2.2.1.length ≤ maxLen) (hok : ∀ a ∈ x.2.2.2.2.2.2.2.1, a.1.size ≤ maxLen ∧ a.2.1.size ≤ maxLen) (h3 : x.2.2.2.2.2.2.2.2.2.2.2.2.2.length ≤ maxLen)
    (hi : x.2.2.2.2.2.2.2.2.2.2.2.2.1.1.size ≤ maxLen ∧ x.2.2.2.2.2.2.2.2.2.2.2.2.1.2.1.size ≤ maxLen) :
    ∃ r, F57 x 1048576 = some r ∧ (r < 0 ∨ ((x.2.2.2.2.2.2.1.length : Int) ≤ 68719476736 ∧ (x.2.2.2.2.2.2.2.1.length : Int) ≤ 68719476736 ∧ (x.2.2.2.2.2.2.2.2.2.2.2.2.2.length : Int) ≤ 68719476736)) := by
  obtain ⟨a, ha, hao⟩ := F75_ok x.2.2.2.2.2.2.1 h1 1048576 (by omega)
  by_cases g1 : a < 0
  · exact ⟨-1, f57 (by unfold t57; rw [ha, Option.bind_some, if_pos (by simpa using g1)]), .inl (by omega)⟩
  obtain ⟨b, hb, hbo⟩ := F28_le x.2.2.2.2.2.2.2.1 h2 hok a (by omega)
  by_cases g2 : b < 0
  · exact ⟨-1, f57 (by unfold t57; rw [ha, Option.bind_some, if_neg (by simpa using g1), hb, Option.bind_some, if_pos (by simpa using g2)]), .inl (by omega)⟩
  obtain ⟨c, hc, hco⟩ := F87_ok x.2.2.2.2.2.2.2.2.2 h3 hi b (by omega)
  by_cases g3 : c < 0
  · exact ⟨-1, f57 (by unfold t57; rw [ha, Option.bind_some, if_neg (by simpa using g1), hb, Option.bind_some, if_neg (by simpa using g2), hc, Option.bind_some, if_pos (by simpa using g3)]), .inl (by omega)⟩
  · exact ⟨c, f57 (by unfold t57; rw [ha, Option.bind_some, if_neg (by simpa using g1), hb, Option.bind_some, if_neg (by simpa using g2), hc, Option.bind_some, if_neg (by simpa using g3)]), .inr (by omega)⟩

/-- Nodes that go up, from one on. -/
def upFrom (v : List Int) (i : Nat) : Nat → Bool
  | 0 => true
  | k + 1 => (decide (1 ≤ v.getD i 0) && decide (v.getD i 0 ≤ 6)) && (decide (i = 0) || decide (v.getD (i - 1) 0 < v.getD i 0)) && upFrom v (i + 1) k

theorem ge_not (a b : Int) : decide (a ≥ b) = !decide (a < b) := by
  by_cases h : a < b <;> simp [h]
  omega

theorem F88_eq (x : List Int) (h : x.length ≤ maxLen) : F88 x = some (upFrom x 0 x.length) := f88 (by
  have hm : x.length ≤ 9223372036854775807 := h
  unfold t88
  have := down (n := x.length) (P := fun i => W88_L0 x (i : Int) = some (upFrom x i (x.length - i))) (w88_L0 (by
    unfold t88_L0
    rw [if_neg (by simp), Nat.sub_self]
    rfl)) (fun i hi ih => w88_L0 (by
    unfold t88_L0
    have e : x.length - i = (x.length - (i + 1)) + 1 := by omega
    simp only [show ((i : Int) < (x.length : Int)) from by omega, decide_true, if_true, show (0 : Int) ≤ (i : Int) from by omega, Int.toNat_natCast, wrap_succ (show i < 9223372036854775807 by omega), ih, F66_eq, Option.bind_some]
    rw [e, upFrom]
    generalize (decide (1 ≤ x.getD i 0) && decide (x.getD i 0 ≤ 6)) = a
    cases a
    · simp
    by_cases h0 : 0 < i
    · rw [wrap_pred (by omega) h0]
      simp only [Int.toNat_natCast, show ((0 : Int) ≤ ((i - 1 : Nat) : Int)) from by omega, show (((i - 1 : Nat) : Int) < (x.length : Int)) from by omega, if_true]
      rcases Int.lt_or_le (x.getD (i - 1) 0) (x.getD i 0) with hb | hb
      · have d1 : decide (x.getD (i - 1) 0 ≥ x.getD i 0) = false := decide_eq_false (by omega)
        have d2 : decide (x.getD (i - 1) 0 < x.getD i 0) = true := decide_eq_true hb
        simp only [d1, d2]
        simp [h0, show i ≠ 0 by omega]
      · have d1 : decide (x.getD (i - 1) 0 ≥ x.getD i 0) = true := decide_eq_true (by omega)
        have d2 : decide (x.getD (i - 1) 0 < x.getD i 0) = false := decide_eq_false (by omega)
        simp only [d1, d2]
        simp [h0, show i ≠ 0 by omega]
    · have : i = 0 := by omega
      subst this
      simp)) 0 (by omega)
  simpa using this)

theorem F91_eq (x : List Int) (h : x.length ≤ maxLen) : F91 x 1 6 = some (upFrom x 0 x.length) := f91 (by
  have hm : x.length ≤ 9223372036854775807 := h
  unfold t91
  have := down (n := x.length) (P := fun i => W91_L0 x 1 6 x (x.length : Int) (i : Int) = some (upFrom x i (x.length - i))) (w91_L0 (by
    unfold t91_L0
    rw [if_neg (by simp), Nat.sub_self]
    rfl)) (fun i hi ih => w91_L0 (by
    unfold t91_L0
    have e : x.length - i = (x.length - (i + 1)) + 1 := by omega
    simp only [show ((i : Int) < (x.length : Int)) from by omega, decide_true, if_true, show (0 : Int) ≤ (i : Int) from by omega, Int.toNat_natCast, wrap_succ (show i < 9223372036854775807 by omega), ih, F67_eq, Option.bind_some]
    rw [e, upFrom]
    generalize (decide (1 ≤ x.getD i 0) && decide (x.getD i 0 ≤ 6)) = a
    cases a
    · simp
    by_cases h0 : 0 < i
    · rw [wrap_pred (by omega) h0]
      simp only [Int.toNat_natCast, show ((0 : Int) ≤ ((i - 1 : Nat) : Int)) from by omega, show (((i - 1 : Nat) : Int) < (x.length : Int)) from by omega, if_true]
      rcases Int.lt_or_le (x.getD (i - 1) 0) (x.getD i 0) with hb | hb
      · have d1 : decide (x.getD i 0 ≤ x.getD (i - 1) 0) = false := decide_eq_false (by omega)
        have d2 : decide (x.getD (i - 1) 0 < x.getD i 0) = true := decide_eq_true hb
        simp only [d1, d2]
        simp [h0, show i ≠ 0 by omega]
      · have d1 : decide (x.getD i 0 ≤ x.getD (i - 1) 0) = true := decide_eq_true (by omega)
        have d2 : decide (x.getD (i - 1) 0 < x.getD i 0) = false := decide_eq_false (by omega)
        simp only [d1, d2]
        simp [h0, show i ≠ 0 by omega]
    · have : i = 0 := by omega
      subst this
      simp)) 0 (by omega)
  simpa using this)

def noTask (t : TTask) : Bool := (t.1 == 0) && (t.2.1 == 0) && (t.2.2.1 == 0) && eqK (.pair .str (.pair .str (.int .i64))) t.2.2.2.1 (ByteArray.empty, ByteArray.empty, (0 : Int)) && ((t.2.2.2.2.length : Int) == 0)
def someTask (t : TTask) (serves : Bool) : Bool := (t.1 == 1 || t.1 == 2) && serves && (decide (0 ≤ t.2.1) && decide (t.2.1 ≤ 1000)) && (decide (1 ≤ t.2.2.1) && decide (t.2.2.1 ≤ 900))
def memberOk (x : TMember) : Bool :=
  (decide (1 ≤ x.1) && decide (x.1 ≤ 6)) && (decide (1 ≤ x.2.1) && decide (x.2.1 ≤ 9)) && (!x.2.2.2.2.2.1 || (x.2.2.2.1 && x.2.2.2.2.1 && !decide ((x.2.2.2.2.2.2.1.length : Int) > 0))) && (!x.2.2.1 || (!x.2.2.2.1 && !x.2.2.2.2.1)) &&
    upFrom x.2.2.2.2.2.2.1 0 x.2.2.2.2.2.2.1.length && upFrom x.2.2.2.2.2.2.2.2.2.2.2.2.2 0 x.2.2.2.2.2.2.2.2.2.2.2.2.2.length && itemsFrom x.2.2.2.2.2.2.2.1 0 x.2.2.2.2.2.2.2.1.length && (decide (0 ≤ x.2.2.2.2.2.2.2.2.1) && decide (x.2.2.2.2.2.2.2.2.1 ≤ 900)) &&
    (noTask x.2.2.2.2.2.2.2.2.2 || someTask x.2.2.2.2.2.2.2.2.2 x.2.2.2.2.2.1)

theorem F89_eq (t : TTask) : F89 t = some (noTask t) := f89 (by
  unfold t89 noTask
  generalize (t.1 == 0) = a
  generalize (t.2.1 == 0) = b
  generalize (t.2.2.1 == 0) = c
  generalize eqK (.pair .str (.pair .str (.int .i64))) t.2.2.2.1 (ByteArray.empty, ByteArray.empty, (0 : Int)) = d
  cases a <;> cases b <;> cases c <;> cases d <;> simp)

theorem F58_eq (x : TMember) (h1 : x.2.2.2.2.2.2.1.length ≤ maxLen) (h2 : x.2.2.2.2.2.2.2.1.length ≤ maxLen) (h3 : x.2.2.2.2.2.2.2.2.2.2.2.2.2.length ≤ maxLen) : F58 x = some (memberOk x) := f58 (by
  have w0 : ∀ b, W58_J0 b x = some (noTask x.2.2.2.2.2.2.2.2.2 || someTask x.2.2.2.2.2.2.2.2.2 x.2.2.2.2.2.1) := fun b => w58_J0 (by
    unfold t58_J0 someTask
    simp only [F66_eq, F89_eq, Option.bind_some]
    generalize noTask x.2.2.2.2.2.2.2.2.2 = a
    generalize (x.2.2.2.2.2.2.2.2.2.1 == 1) = b
    generalize (x.2.2.2.2.2.2.2.2.2.1 == 2) = c
    generalize x.2.2.2.2.2.1 = d
    generalize (decide (0 ≤ x.2.2.2.2.2.2.2.2.2.2.1) && decide (x.2.2.2.2.2.2.2.2.2.2.1 ≤ 1000)) = e
    generalize (decide (1 ≤ x.2.2.2.2.2.2.2.2.2.2.2.1) && decide (x.2.2.2.2.2.2.2.2.2.2.2.1 ≤ 900)) = f
    cases a <;> cases b <;> cases c <;> cases d <;> cases e <;> simp)
  unfold t58 memberOk
  simp only [F66_eq, F88_eq _ h1, F88_eq _ h3, F34_eq _ h2, Option.bind_some, w0]
  generalize (decide (1 ≤ x.1) && decide (x.1 ≤ 6)) = a
  generalize (decide (1 ≤ x.2.1) && decide (x.2.1 ≤ 9)) = b
  generalize decide ((x.2.2.2.2.2.2.1.length : Int) > 0) = c
  generalize upFrom x.2.2.2.2.2.2.1 0 x.2.2.2.2.2.2.1.length = d
  generalize upFrom x.2.2.2.2.2.2.2.2.2.2.2.2.2 0 x.2.2.2.2.2.2.2.2.2.2.2.2.2.length = e
  generalize itemsFrom x.2.2.2.2.2.2.2.1 0 x.2.2.2.2.2.2.2.1.length = f
  generalize (decide (0 ≤ x.2.2.2.2.2.2.2.2.1) && decide (x.2.2.2.2.2.2.2.2.1 ≤ 900)) = g
  generalize (noTask x.2.2.2.2.2.2.2.2.2 || someTask x.2.2.2.2.2.2.2.2.2 x.2.2.2.2.2.1) = t
  generalize x.2.2.2.2.2.1 = s
  generalize x.2.2.2.2.1 = l
  generalize x.2.2.2.1 = m
  generalize x.2.2.1 = n
  cases a
  · simp
  cases b
  · simp
  cases d <;> cases e <;> cases f <;> cases g <;> cases s <;> cases n <;> cases m <;> cases l <;> cases c <;> simp)

theorem F92_eq (x : TMember) (h3 : x.2.2.2.2.2.2.2.2.2.2.2.2.2.length ≤ maxLen) : F92 x = some (upFrom x.2.2.2.2.2.2.2.2.2.2.2.2.2 0 x.2.2.2.2.2.2.2.2.2.2.2.2.2.length && (noTask x.2.2.2.2.2.2.2.2.2 || someTask x.2.2.2.2.2.2.2.2.2 x.2.2.2.2.2.1), x) := f92 (by
  unfold t92 noTask someTask
  simp only [F67_eq, F91_eq _ h3, Option.bind_some]
  by_cases hk : x.2.2.2.2.2.2.2.2.2.1 = 0
  · rw [if_pos (by simp [hk])]
    have k1 : (x.2.2.2.2.2.2.2.2.2.1 == 1) = false := by simp [hk]
    have k2 : (x.2.2.2.2.2.2.2.2.2.1 == 2) = false := by simp [hk]
    have k0 : (x.2.2.2.2.2.2.2.2.2.1 == 0) = true := by simp [hk]
    rw [k1, k2, k0]
    have hl : ((x.2.2.2.2.2.2.2.2.2.2.2.2.2.length : Int) == 0) = true → upFrom x.2.2.2.2.2.2.2.2.2.2.2.2.2 0 x.2.2.2.2.2.2.2.2.2.2.2.2.2.length = true := by
      intro h
      have : x.2.2.2.2.2.2.2.2.2.2.2.2.2.length = 0 := by simpa using h
      rw [this]
      rfl
    generalize ((x.2.2.2.2.2.2.2.2.2.2.2.2.2.length : Int) == 0) = l at hl
    generalize upFrom x.2.2.2.2.2.2.2.2.2.2.2.2.2 0 x.2.2.2.2.2.2.2.2.2.2.2.2.2.length = u at hl
    generalize (x.2.2.2.2.2.2.2.2.2.2.1 == 0) = b
    generalize (x.2.2.2.2.2.2.2.2.2.2.2.1 == 0) = c
    generalize eqK (.pair .str (.pair .str (.int .i64))) x.2.2.2.2.2.2.2.2.2.2.2.2.1 (ByteArray.empty, ByteArray.empty, (0 : Int)) = d
    cases b <;> cases c <;> cases d <;> cases l <;> cases u <;> simp at hl ⊢
  · rw [if_neg (by simp [hk])]
    have k0 : (x.2.2.2.2.2.2.2.2.2.1 == 0) = false := by simp [hk]
    have k12 : (decide (1 ≤ x.2.2.2.2.2.2.2.2.2.1) && decide (x.2.2.2.2.2.2.2.2.2.1 ≤ 2)) = (x.2.2.2.2.2.2.2.2.2.1 == 1 || x.2.2.2.2.2.2.2.2.2.1 == 2) := by
      rw [Bool.eq_iff_iff]
      simp
      omega
    rw [k12, k0]
    generalize (x.2.2.2.2.2.2.2.2.2.1 == 1 || x.2.2.2.2.2.2.2.2.2.1 == 2) = k
    generalize upFrom x.2.2.2.2.2.2.2.2.2.2.2.2.2 0 x.2.2.2.2.2.2.2.2.2.2.2.2.2.length = u
    generalize (decide (0 ≤ x.2.2.2.2.2.2.2.2.2.2.1) && decide (x.2.2.2.2.2.2.2.2.2.2.1 ≤ 1000)) = e
    generalize (decide (1 ≤ x.2.2.2.2.2.2.2.2.2.2.2.1) && decide (x.2.2.2.2.2.2.2.2.2.2.2.1 ≤ 900)) = f
    cases k <;> cases u <;> cases e <;> cases f <;> rcases Bool.eq_false_or_eq_true x.2.2.2.2.2.1 with hs | hs <;> simp [hs])

theorem F60_eq (x : TMember) (h1 : x.2.2.2.2.2.2.1.length ≤ maxLen) (h2 : x.2.2.2.2.2.2.2.1.length ≤ maxLen) (h3 : x.2.2.2.2.2.2.2.2.2.2.2.2.2.length ≤ maxLen) : F60 x = some (memberOk x) := f60 (by
  have w0 : ∀ b, W60_J0 b x = some ((!x.2.2.2.2.2.1 || (x.2.2.2.1 && x.2.2.2.2.1 && !decide ((x.2.2.2.2.2.2.1.length : Int) > 0))) && (!x.2.2.1 || (!x.2.2.2.1 && !x.2.2.2.2.1)) && (upFrom x.2.2.2.2.2.2.2.2.2.2.2.2.2 0 x.2.2.2.2.2.2.2.2.2.2.2.2.2.length && (noTask x.2.2.2.2.2.2.2.2.2 || someTask x.2.2.2.2.2.2.2.2.2 x.2.2.2.2.2.1))) := fun b => w60_J0 (by
    unfold t60_J0
    simp only [F92_eq x h3, Option.bind_some]
    generalize (upFrom x.2.2.2.2.2.2.2.2.2.2.2.2.2 0 x.2.2.2.2.2.2.2.2.2.2.2.2.2.length && (noTask x.2.2.2.2.2.2.2.2.2 || someTask x.2.2.2.2.2.2.2.2.2 x.2.2.2.2.2.1)) = t
    generalize decide ((x.2.2.2.2.2.2.1.length : Int) > 0) = c
    generalize x.2.2.2.2.2.1 = s
    generalize x.2.2.2.2.1 = l
    generalize x.2.2.2.1 = m
    generalize x.2.2.1 = n
    cases s <;> cases n <;> cases m <;> cases l <;> cases c <;> simp)
  unfold t60 memberOk
  simp only [F67_eq, F68_eq, F91_eq _ h1, F35_eq _ h2 bytes_total, Option.bind_some, w0]
  generalize (decide (1 ≤ x.1) && decide (x.1 ≤ 6)) = a
  generalize (decide (1 ≤ x.2.1) && decide (x.2.1 ≤ 9)) = b
  generalize upFrom x.2.2.2.2.2.2.1 0 x.2.2.2.2.2.2.1.length = d
  generalize upFrom x.2.2.2.2.2.2.2.2.2.2.2.2.2 0 x.2.2.2.2.2.2.2.2.2.2.2.2.2.length = e
  generalize itemsFrom x.2.2.2.2.2.2.2.1 0 x.2.2.2.2.2.2.2.1.length = f
  generalize (decide (0 ≤ x.2.2.2.2.2.2.2.2.1) && decide (x.2.2.2.2.2.2.2.2.1 ≤ 900)) = g
  generalize (noTask x.2.2.2.2.2.2.2.2.2 || someTask x.2.2.2.2.2.2.2.2.2 x.2.2.2.2.2.1) = t
  generalize (!x.2.2.2.2.2.1 || (x.2.2.2.1 && x.2.2.2.2.1 && !decide ((x.2.2.2.2.2.2.1.length : Int) > 0))) = p
  generalize (!x.2.2.1 || (!x.2.2.2.1 && !x.2.2.2.2.1)) = q
  cases a
  · simp
  cases b
  · simp
  cases d <;> cases e <;> cases f <;> cases g <;> cases p <;> cases q <;> simp)

theorem law13 (x) (hx : Kd.ok (.pair (.int .i64) (.pair (.int .i64) (.pair .bool (.pair .bool (.pair .bool (.pair .bool (.pair (.slice (.int .i64)) (.pair (.slice (.pair .str (.pair .str (.int .i64)))) (.pair (.int .i64) (.pair (.int .i64) (.pair (.int .i64) (.pair (.int .i64) (.pair (.pair .str (.pair .str (.int .i64))) (.slice (.int .i64))))))))))))))) x) : F13 x = some true := f13 (by
  unfold t13
  have h1 : x.2.2.2.2.2.2.1.length ≤ maxLen := hx.2.2.2.2.2.2.1.1
  have h2 : x.2.2.2.2.2.2.2.1.length ≤ maxLen := hx.2.2.2.2.2.2.2.1.1
  have h2o : ∀ a ∈ x.2.2.2.2.2.2.2.1, a.1.size ≤ maxLen ∧ a.2.1.size ≤ maxLen := fun a ha => ⟨(hx.2.2.2.2.2.2.2.1.2 a ha).1, (hx.2.2.2.2.2.2.2.1.2 a ha).2.1⟩
  have h3 : x.2.2.2.2.2.2.2.2.2.2.2.2.2.length ≤ maxLen := hx.2.2.2.2.2.2.2.2.2.2.2.2.2.1
  have hi := hx.2.2.2.2.2.2.2.2.2.2.2.2.1
  obtain ⟨r, hr, hl⟩ := F57_ok x h1 h2 h2o h3 ⟨hi.1, hi.2.1⟩
  rw [hr, Option.bind_some]
  by_cases g : r < 0
  · rw [if_pos (by simpa using g)]
  · have l1 : x.2.2.2.2.2.2.1.length ≤ 68719476736 := by omega
    have l2 : x.2.2.2.2.2.2.2.1.length ≤ 68719476736 := by omega
    have l3 : x.2.2.2.2.2.2.2.2.2.2.2.2.2.length ≤ 68719476736 := by omega
    rw [if_neg (by simpa using g)]
    simp [F59_eq x l1 l2 l3, F58_eq x h1 h2 h3, F60_eq x h1 h2 h3, F61_same x l1 l2 l3, eqK])

end Go.Proofs.Ytlegaocnobapgaa.Core
