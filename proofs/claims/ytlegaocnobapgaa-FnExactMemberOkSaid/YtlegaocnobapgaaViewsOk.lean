/- FnExactViewsOk: both say the same of a list of views. -/
import Derived.Test.YtlegaocnobapgaaItem
import Derived.Test.YtlegaocnobapgaaSizes
import Derived.Test.YtlegaocnobapgaaEventOk
namespace Go.Proofs.Ytlegaocnobapgaa.Core
open Go
set_option linter.unusedVariables false

theorem F75_ok (x : List Int) (hx : x.length ≤ maxLen) (n : Int) (hn : 0 ≤ n ∧ n ≤ 68719476736) : ∃ r, F75 x n = some r ∧ (r < 0 ∨ ((x.length : Int) ≤ n ∧ 0 ≤ r ∧ r ≤ n)) := by
  have hm : x.length ≤ 9223372036854775807 := hx
  by_cases h : IntKind.i64.wrap (n - (x.length : Int)) < 0
  · exact ⟨-1, f75 (by unfold t75; rw [if_pos (by simpa using h)]), .inl (by omega)⟩
  · have e : IntKind.i64.wrap (n - (x.length : Int)) = n - x.length := wrap_id (by omega)
    exact ⟨_, f75 (by unfold t75; rw [if_neg (by simpa using h)]), .inr (by omega)⟩

theorem F36_ok (x : List (List Int)) (hx : x.length ≤ maxLen) (hok : ∀ a ∈ x, a.length ≤ maxLen) (n : Int) (hn : 0 ≤ n ∧ n ≤ 68719476736) : ∃ r, F36 x n = some r ∧ (r < 0 ∨ ((x.length : Int) ≤ n ∧ ∀ a ∈ x, (a.length : Int) ≤ n)) := by
  have hm : x.length ≤ 9223372036854775807 := hx
  by_cases h : IntKind.i64.wrap (n - (x.length : Int)) < 0
  · exact ⟨-1, f36 (by unfold t36; rw [if_pos (by simpa using h)]), .inl (by omega)⟩
  · have hl := left_len hx (by omega) h
    have key := down (n := x.length) (P := fun i => ∀ m : Int, 0 ≤ m → m ≤ n → ∃ r, W36_L0 x m (i : Int) = some r ∧ (r < 0 ∨ ∀ a ∈ x.drop i, (a.length : Int) ≤ n)) (fun m _ _ => ⟨m, w36_L0 (by
      unfold t36_L0
      rw [if_neg (by simp)]), .inr (by simp)⟩) (fun i hi ih m hm0 hmn => by
      obtain ⟨s, hs, hso⟩ := F75_ok x[i] (hok _ (List.getElem_mem _)) m (by omega)
      by_cases h3 : s < 0
      · refine ⟨-1, w36_L0 ?_, .inl (by omega)⟩
        unfold t36_L0
        simp only [show ((i : Int) < (x.length : Int)) from by omega, decide_true, if_true, show (0 : Int) ≤ (i : Int) from by omega, Int.toNat_natCast, getD_at hi, hs, Option.bind_some]
        rw [if_pos (by simpa using h3)]
      · rcases hso with hso | ⟨hsl, hs0, hsm⟩
        · omega
        obtain ⟨r, hr, ho⟩ := ih s (by omega) (by omega)
        refine ⟨r, w36_L0 ?_, ho.imp id fun ho a ha => ?_⟩
        · unfold t36_L0
          simp only [show ((i : Int) < (x.length : Int)) from by omega, decide_true, if_true, show (0 : Int) ≤ (i : Int) from by omega, Int.toNat_natCast, getD_at hi, hs, Option.bind_some, wrap_succ (show i < 9223372036854775807 by omega)]
          rw [if_neg (by simpa using h3)]
          exact hr
        · rw [drop_cons hi] at ha
          rcases List.mem_cons.1 ha with rfl | ha
          · omega
          · exact ho a ha) 0 (by omega)
    have e : IntKind.i64.wrap (n - (x.length : Int)) = n - x.length := wrap_id (by omega)
    obtain ⟨r, hr, ho⟩ := key (n - x.length) (by omega) (by omega)
    exact ⟨r, f36 (by unfold t36; rw [if_neg (by simpa using h), e]; exact hr), ho.imp id fun ho => ⟨hl, by simpa using ho⟩⟩

theorem F77_eq (x : List Int) (h : x.length ≤ 68719476736) : F77 x = some x := f77 (by
  unfold t77
  rw [if_pos (by omega), if_pos (by omega)]
  refine copy_loop (L := fun i z => W77_L0 x i z) (f := fun a => some a) (fun _ => rfl) h (fun i z r h => w77_L0 ?_)
  unfold t77_L0
  simpa only [Option.bind_some] using h)

theorem F79_same (x : List Int) (h : x.length ≤ 68719476736) : F79 x x = some true := f79 (by
  unfold t79
  rw [if_neg (by simp)]
  refine same_loop (d := (0 : Int)) (L := fun i => W79_L0 x x i) (f := fun a b => some (a == b)) (fun _ => by simp) h (fun i r h => w79_L0 ?_)
  unfold t79_L0
  simpa using h)

theorem F38_eq (x : List (List Int)) (h : x.length ≤ 68719476736) (ho : ∀ a ∈ x, a.length ≤ 68719476736) : F38 x = some x := f38 (by
  unfold t38
  rw [if_pos (by omega), if_pos (by omega)]
  exact copy_loop' (L := fun i z => W38_L0 x i z) (fun a ha => F77_eq a (ho a ha)) h (fun i z r h => w38_L0 h))

theorem F40_same (x : List (List Int)) (h : x.length ≤ 68719476736) (ho : ∀ a ∈ x, a.length ≤ 68719476736) : F40 x x = some true := f40 (by
  unfold t40
  rw [if_neg (by simp)]
  exact same_loop' (L := fun i => W40_L0 x x i) (fun a ha => F79_same a (ho a ha)) h (fun i r h => w40_L0 h))

theorem F108_eq (x : List Int) (n : Int) (h : x.length ≤ maxLen) : F108 x n = some (x.contains n) := f108 (by
  have hm : x.length ≤ 9223372036854775807 := h
  unfold t108
  have := down (n := x.length) (P := fun i => W108_L0 x n (i : Int) = some ((x.drop i).contains n)) (w108_L0 (by
    unfold t108_L0
    rw [if_neg (by simp), List.drop_length]
    rfl)) (fun i hi ih => w108_L0 (by
    unfold t108_L0
    simp only [show ((i : Int) < (x.length : Int)) from by omega, decide_true, if_true, show (0 : Int) ≤ (i : Int) from by omega, Int.toNat_natCast, getD_at hi, wrap_succ (show i < 9223372036854775807 by omega)]
    rw [drop_cons hi, List.contains_cons, ih]
    by_cases e : x[i] = n
    · subst e
      simp
    · simp [e, Ne.symm e])) 0 (by omega)
  simpa using this)

/-- Where a number stands first. -/
theorem F78_at (x : List Int) (i : Nat) (hi : i < x.length) (h : x.length ≤ maxLen) : ∃ r, F78 x x[i] = some r ∧ ((r = (i : Int)) ↔ x[i] ∉ x.take i) := by
  have hm : x.length ≤ 9223372036854775807 := h
  have key := down (n := i) (P := fun k => ∃ r, W78_L0 x x[i] (x.length : Int) (k : Int) = some r ∧ (k : Int) ≤ r ∧ ((r = (i : Int)) ↔ ∀ m (hm : m < i), k ≤ m → x[m] ≠ x[i])) ⟨i, w78_L0 (by
    unfold t78_L0
    simp only [show ((i : Int) < (x.length : Int)) from by omega, decide_true, if_true, show (0 : Int) ≤ (i : Int) from by omega, Int.toNat_natCast, getD_at hi]
    simp), by omega, ⟨fun _ m hm hk => by omega, fun _ => rfl⟩⟩ (fun k hk ⟨r, hr, hkr, hiff⟩ => by
    have hk2 : k < x.length := by omega
    by_cases e : x[i] = x[k]
    · refine ⟨k, w78_L0 ?_, by omega, ⟨fun he => by omega, fun hall => absurd e.symm (hall k hk (by omega))⟩⟩
      unfold t78_L0
      simp only [show ((k : Int) < (x.length : Int)) from by omega, decide_true, if_true, show (0 : Int) ≤ (k : Int) from by omega, Int.toNat_natCast, getD_at hk2]
      rw [if_pos (by simpa using e)]
    · refine ⟨r, w78_L0 ?_, by omega, hiff.trans ⟨fun hall m hm hkm => ?_, fun hall m hm hkm => hall m hm (by omega)⟩⟩
      · unfold t78_L0
        simp only [show ((k : Int) < (x.length : Int)) from by omega, decide_true, if_true, show (0 : Int) ≤ (k : Int) from by omega, Int.toNat_natCast, getD_at hk2, wrap_succ (show k < 9223372036854775807 by omega)]
        rw [if_neg (by simpa using e)]
        exact hr
      · rcases Nat.lt_or_ge k m with h1 | h1
        · exact hall m hm h1
        · have : m = k := by omega
          subst this
          exact fun h => e h.symm) 0 (by omega)
  obtain ⟨r, hr, _, hiff⟩ := key
  refine ⟨r, f78 hr, hiff.trans ⟨fun hall hmem => ?_, fun hn m hm _ he => hn ?_⟩⟩
  · obtain ⟨m, hm, he⟩ := List.mem_take_iff_getElem.1 hmem
    exact hall m (by omega) (by omega) he
  · exact List.mem_take_iff_getElem.2 ⟨m, by omega, he⟩

/-- Nodes from one on, behind those that came before. -/
def nodesFrom (v : List Int) (i : Nat) : Nat → Bool
  | 0 => true
  | k + 1 => (decide (1 ≤ v.getD i 0) && decide (v.getD i 0 ≤ 6)) && !(v.take i).contains (v.getD i 0) && nodesFrom v (i + 1) k
def viewOk (v : List Int) : Bool := (decide (1 ≤ (v.length : Int)) && decide ((v.length : Int) ≤ 4)) && nodesFrom v 0 v.length
def viewsFrom (x : List (List Int)) (n : Nat) : List (List Int) → Bool
  | [] => decide (1 ≤ (n : Int)) && decide ((n : Int) ≤ 9)
  | v :: r => viewOk v && viewsFrom x n r

theorem F76_eq (v : List Int) (h : v.length ≤ maxLen) : F76 v = some (viewOk v) := f76 (by
  have hm : v.length ≤ 9223372036854775807 := h
  unfold t76 viewOk
  simp only [F66_eq, Option.bind_some]
  have := down (n := v.length) (P := fun i => W76_L0 v (i : Int) = some (nodesFrom v i (v.length - i))) (w76_L0 (by
    unfold t76_L0
    rw [if_neg (by simp), Nat.sub_self]
    rfl)) (fun i hi ih => w76_L0 (by
    unfold t76_L0
    have e : v.length - i = (v.length - (i + 1)) + 1 := by omega
    rw [e, nodesFrom]
    simp only [show ((i : Int) < (v.length : Int)) from by omega, show ((i : Int) ≤ (v.length : Int)) from by omega, decide_true, if_true, show (0 : Int) ≤ (i : Int) from by omega, Int.toNat_natCast, F66_eq, Option.bind_some, wrap_succ (show i < 9223372036854775807 by omega), ih, Int.toNat_zero, List.drop_zero, Int.le_refl,
      F108_eq (v.take i) _ (by rw [List.length_take]; omega)]
    generalize (decide (1 ≤ v.getD i 0) && decide (v.getD i 0 ≤ 6)) = a
    generalize (v.take i).contains (v.getD i 0) = b
    cases a <;> cases b <;> simp)) 0 (by omega)
  simp only [Int.ofNat_zero, Nat.sub_zero] at this
  generalize (decide (1 ≤ (v.length : Int)) && decide ((v.length : Int) ≤ 4)) = a
  cases a
  · simp
  · simpa using this)

theorem F37_eq (x : List (List Int)) (h : x.length ≤ maxLen) (ho : ∀ a ∈ x, a.length ≤ maxLen) : F37 x = some (viewsFrom x x.length x) := f37 (by
  have hm : x.length ≤ 9223372036854775807 := h
  unfold t37
  exact down (n := x.length) (P := fun i => W37_L0 x (i : Int) = some (viewsFrom x x.length (x.drop i))) (w37_L0 (by
    unfold t37_L0
    rw [if_neg (by simp), List.drop_length, F66_eq]
    rfl)) (fun i hi ih => w37_L0 (by
    unfold t37_L0
    simp only [show ((i : Int) < (x.length : Int)) from by omega, decide_true, if_true, show (0 : Int) ≤ (i : Int) from by omega, Int.toNat_natCast, getD_at hi, F76_eq x[i] (ho _ (List.getElem_mem _)), Option.bind_some, wrap_succ (show i < 9223372036854775807 by omega), ih]
    rw [drop_cons hi, viewsFrom]
    generalize viewOk x[i] = a
    cases a <;> simp)) 0 (by omega))

theorem F39_eq (x : List (List Int)) (h : x.length ≤ maxLen) (ho : ∀ a ∈ x, a.length ≤ maxLen) : F39 x = some (viewsFrom x x.length x) := f39 (by
  have hm : x.length ≤ 9223372036854775807 := h
  unfold t39
  exact down (n := x.length) (P := fun i => W39_L0 x x (x.length : Int) (i : Int) = some (viewsFrom x x.length (x.drop i))) (w39_L0 (by
    unfold t39_L0
    rw [if_neg (by simp), List.drop_length, F67_eq]
    rfl)) (fun i hi ih => w39_L0 (by
    unfold t39_L0
    simp only [show ((i : Int) < (x.length : Int)) from by omega, decide_true, if_true, show (0 : Int) ≤ (i : Int) from by omega, Int.toNat_natCast, getD_at hi]
    rw [drop_cons hi, viewsFrom]
    have hv := ho x[i] (List.getElem_mem _)
    generalize x[i] = v at hv
    have hvm : v.length ≤ 9223372036854775807 := hv
    have wj : W39_J2 x v x (x.length : Int) (i : Int) = some ((decide (1 ≤ (v.length : Int)) && decide ((v.length : Int) ≤ 4)) && viewsFrom x x.length (x.drop (i + 1))) := w39_J2 (by
      unfold t39_J2
      rw [F67_eq, Option.bind_some, wrap_succ (show i < 9223372036854775807 by omega), ih]
      generalize (decide (1 ≤ (v.length : Int)) && decide ((v.length : Int) ≤ 4)) = a
      cases a <;> simp)
    have := down (n := v.length) (P := fun j => W39_L1 x v x (x.length : Int) (i : Int) v (v.length : Int) (j : Int) = some (nodesFrom v j (v.length - j) && ((decide (1 ≤ (v.length : Int)) && decide ((v.length : Int) ≤ 4)) && viewsFrom x x.length (x.drop (i + 1))))) (w39_L1 (by
      unfold t39_L1
      rw [if_neg (by simp), Nat.sub_self, wj]
      rfl)) (fun j hj ihj => w39_L1 (by
      unfold t39_L1
      have e : v.length - j = (v.length - (j + 1)) + 1 := by omega
      obtain ⟨r, hr, hiff⟩ := F78_at v j hj hv
      rw [e, nodesFrom]
      simp only [show ((j : Int) < (v.length : Int)) from by omega, decide_true, if_true, show (0 : Int) ≤ (j : Int) from by omega, Int.toNat_natCast, F68_eq, Option.bind_some, wrap_succ (show j < 9223372036854775807 by omega), ihj, getD_at hj, hr]
      have hb : (r != (j : Int)) = (v.take j).contains v[j] := by
        by_cases e2 : r = (j : Int)
        · have := hiff.1 e2
          simp [e2, this]
        · have : v[j] ∈ v.take j := Classical.byContradiction fun hn => e2 (hiff.2 hn)
          simp [e2, this]
      rw [hb]
      generalize (decide (1 ≤ v[j]) && decide (v[j] ≤ 6)) = a
      generalize (v.take j).contains v[j] = b
      cases a <;> cases b <;> simp)) 0 (by omega)
    simp only [Int.ofNat_zero, Nat.sub_zero] at this
    unfold viewOk
    refine Eq.trans this ?_
    congr 1
    generalize nodesFrom v 0 v.length = a
    generalize (decide (1 ≤ (v.length : Int)) && decide ((v.length : Int) ≤ 4)) = b
    cases a <;> cases b <;> simp)) 0 (by omega))

theorem law8 (x) (hx : Kd.ok (.slice (.slice (.int .i64))) x) : F8 x = some true := f8 (by
  unfold t8
  have ho : ∀ a ∈ x, a.length ≤ maxLen := fun a ha => (hx.2 a ha).1
  obtain ⟨r, hr, hl⟩ := F36_ok x hx.1 ho 1048576 (by omega)
  rw [hr, Option.bind_some]
  by_cases h2 : r < 0
  · rw [if_pos (by simpa using h2)]
  · rcases hl with hl | ⟨h3, h4⟩
    · omega
    have : x.length ≤ 68719476736 := by omega
    have h5 : ∀ a ∈ x, a.length ≤ 68719476736 := fun a ha => by have := h4 a ha; omega
    rw [if_neg (by simpa using h2)]
    simp [F38_eq x this h5, F37_eq x hx.1 ho, F39_eq x hx.1 ho, F40_same x this h5, eqK])

end Go.Proofs.Ytlegaocnobapgaa.Core
