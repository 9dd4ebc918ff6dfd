/- Small laws on numbers, lists and loops. -/
import Derived.Test.YtnbfkndicldppaaLim
import Derived.IntWalk
namespace Go.Proofs.Ytnbfkndicldppaa.Core
open Go
set_option linter.unusedVariables false

theorem wrap_id {n : Int} (h : -9223372036854775808 ≤ n ∧ n ≤ 9223372036854775807) : IntKind.i64.wrap n = n := IntWalk.i64_in n h
theorem wrap_succ {i : Nat} (h : i < 9223372036854775807) : IntKind.i64.wrap ((i : Int) + 1) = ((i + 1 : Nat) : Int) := by
  rw [wrap_id (by omega)]
  omega

/-- From the end back to each place before. -/
theorem down {P : Nat → Prop} {n : Nat} (h0 : P n) (h : ∀ i, i < n → P (i + 1) → P i) : ∀ i, i ≤ n → P i := by
  intro i hi
  induction hk : n - i generalizing i with
  | zero =>
    have : i = n := by omega
    subst this
    exact h0
  | succ k ih => exact h i (by omega) (ih (i + 1) (by omega) (by omega))

theorem getD_at {α : Type} {xs : List α} {i : Nat} {d : α} (h : i < xs.length) : xs.getD i d = xs[i] := by
  simp [List.getD, h]

theorem take_set {α : Type} {x : List α} {d : α} {i : Nat} (h : i < x.length) :
    (x.take i ++ List.replicate (x.length - i) d).set i x[i] = x.take (i + 1) ++ List.replicate (x.length - (i + 1)) d := by
  have e : x.length - i = (x.length - (i + 1)) + 1 := by omega
  have l : (x.take i).length = i := by rw [List.length_take]; omega
  rw [List.set_append_right _ _ (by omega), l, e, List.replicate_succ, Nat.sub_self, List.set_cons_zero]
  have := List.take_append_getElem (l := x) (i := i) h
  rw [← this, List.append_assoc]
  rfl

/-- A loop that copies a list, place by place. -/
theorem copy_loop {α : Type} {x : List α} {d : α} {L : Int → List α → Option (List α)} {f : α → Option α} (hf : ∀ a, f a = some a) (hn : x.length ≤ 68719476736)
    (h : ∀ i z r, (if decide (i < (x.length : Int)) = true then (if 0 ≤ i then (if i < (x.length : Int) then ((f (x.getD i.toNat d)).bind fun y => (if 0 ≤ i then (if i < (z.length : Int) then (let z2 := z.set i.toNat y; L (IntKind.i64.wrap (i + (1 : Int))) z2) else none) else none)) else none) else none) else some z) = some r → L i z = some r) :
    L 0 (List.replicate x.length d) = some x := by
  have := down (n := x.length) (P := fun i => L (i : Int) (x.take i ++ List.replicate (x.length - i) d) = some x) (by
    refine h _ _ _ ?_
    simp) (fun i hi ih => by
    refine h _ _ _ ?_
    simp only [show ((i : Int) < (x.length : Int)) from by omega, decide_true, if_true, show (0 : Int) ≤ (i : Int) from by omega, Int.toNat_natCast, getD_at hi, hf, Option.bind_some, wrap_succ (show i < 9223372036854775807 by omega)]
    rw [if_pos (by simp; omega), take_set hi]
    exact ih) 0 (by omega)
  simpa using this

/-- A loop that compares two lists that are the same. -/
theorem same_loop {α : Type} {x : List α} {d : α} {L : Int → Option Bool} {f : α → α → Option Bool} (hf : ∀ a, f a a = some true) (hn : x.length ≤ 68719476736)
    (h : ∀ i r, (if decide (i < (x.length : Int)) = true then (if 0 ≤ i then (if i < (x.length : Int) then (if 0 ≤ i then (if i < (x.length : Int) then ((f (x.getD i.toNat d) (x.getD i.toNat d)).bind fun y => (if (!y) = true then some false else L (IntKind.i64.wrap (i + (1 : Int))))) else none) else none) else none) else none) else some true) = some r → L i = some r) :
    L 0 = some true :=
  down (n := x.length) (P := fun i => L (i : Int) = some true) (by
    refine h _ _ ?_
    simp) (fun i hi ih => by
    refine h _ _ ?_
    simp only [show ((i : Int) < (x.length : Int)) from by omega, decide_true, if_true, show (0 : Int) ≤ (i : Int) from by omega, Int.toNat_natCast, hf, Option.bind_some, wrap_succ (show i < 9223372036854775807 by omega)]
    simpa using ih) 0 (by omega)

/-- A loop that measures a list: it has an answer. -/
theorem size_loop {α : Type} {x : List α} {d : α} {L : Int → Int → Option Int} {f : α → Int → Option Int} (hf : ∀ a n, ∃ r, f a n = some r) (hn : x.length ≤ maxLen)
    (h : ∀ n i r, (if decide (i < (x.length : Int)) = true then (if 0 ≤ i then (if i < (x.length : Int) then ((f (x.getD i.toNat d) n).bind fun y => (if decide (y < (0 : Int)) = true then some (-1 : Int) else L y (IntKind.i64.wrap (i + (1 : Int))))) else none) else none) else some n) = some r → L n i = some r) :
    ∀ n, ∃ r, L n 0 = some r :=
  have hm : x.length ≤ 9223372036854775807 := hn
  down (n := x.length) (P := fun i => ∀ n, ∃ r, L n (i : Int) = some r) (fun n => ⟨n, by
    refine h _ _ _ ?_
    simp⟩) (fun i hi ih n => by
    obtain ⟨y, hy⟩ := hf x[i] n
    by_cases hq : y < 0
    · refine ⟨-1, h _ _ _ ?_⟩
      simp only [show ((i : Int) < (x.length : Int)) from by omega, decide_true, if_true, show (0 : Int) ≤ (i : Int) from by omega, Int.toNat_natCast, getD_at hi, hy, Option.bind_some]
      simp [hq]
    · obtain ⟨r, hr⟩ := ih y
      refine ⟨r, h _ _ _ ?_⟩
      simp only [show ((i : Int) < (x.length : Int)) from by omega, decide_true, if_true, show (0 : Int) ≤ (i : Int) from by omega, Int.toNat_natCast, getD_at hi, hy, Option.bind_some, wrap_succ (show i < 9223372036854775807 by omega)]
      rw [if_neg (by simpa using hq)]
      exact hr) 0 (by omega)

/-- The length is taken off the measure first. -/
theorem left_len {n : Int} {m : Nat} (hm : m ≤ maxLen) (hn : 0 ≤ n ∧ n ≤ 4611686018427387904) (h : ¬ IntKind.i64.wrap (n - (m : Int)) < 0) : (m : Int) ≤ n := by
  have : m ≤ 9223372036854775807 := hm
  rw [wrap_id (by omega)] at h
  omega

end Go.Proofs.Ytnbfkndicldppaa.Core
