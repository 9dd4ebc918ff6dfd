/- FnExactViewsOk: both say the same of a list of views. -/
import Derived.Test.YtnbfkndicldppaaItem
import Derived.Test.YtnbfkndicldppaaSizes
import Derived.Test.YtnbfkndicldppaaEventOk
namespace Go.Proofs.Ytnbfkndicldppaa.Core
open Go
set_option linter.unusedVariables false

theorem F_laws_szIntS_ok (x : List Int) (hx : x.length ≤ maxLen) (n : Int) (hn : 0 ≤ n ∧ n ≤ 68719476736) : ∃ r, F_laws_szIntS x n = some r ∧ (r < 0 ∨ ((x.length : Int) ≤ n ∧ 0 ≤ r ∧ r ≤ n)) := by
  have hm : x.length ≤ 9223372036854775807 := hx
  by_cases h : IntKind.i64.wrap (n - (x.length : Int)) < 0
  · exact ⟨-1, f_laws_szIntS (by unfold t_laws_szIntS; rw [if_pos (by simpa using h)]), .inl (by omega)⟩
  · have e : IntKind.i64.wrap (n - (x.length : Int)) = n - x.length := wrap_id (by omega)
    exact ⟨_, f_laws_szIntS (by unfold t_laws_szIntS; rw [if_neg (by simpa using h)]), .inr (by omega)⟩

theorem F_laws_szIntSS_ok (x : List (List Int)) (hx : x.length ≤ maxLen) (hok : ∀ a ∈ x, a.length ≤ maxLen) (n : Int) (hn : 0 ≤ n ∧ n ≤ 68719476736) : ∃ r, F_laws_szIntSS x n = some r ∧ (r < 0 ∨ ((x.length : Int) ≤ n ∧ ∀ a ∈ x, (a.length : Int) ≤ n)) := by
  have hm : x.length ≤ 9223372036854775807 := hx
  by_cases h : IntKind.i64.wrap (n - (x.length : Int)) < 0
  · exact ⟨-1, f_laws_szIntSS (by unfold t_laws_szIntSS; rw [if_pos (by simpa using h)]), .inl (by omega)⟩
  · have hl := left_len hx (by omega) h
    have key := down (n := x.length) (P := fun i => ∀ m : Int, 0 ≤ m → m ≤ n → ∃ r, W_laws_szIntSS_L0 x m (i : Int) = some r ∧ (r < 0 ∨ ∀ a ∈ x.drop i, (a.length : Int) ≤ n)) (fun m _ _ => ⟨m, w_laws_szIntSS_L0 (by
      unfold t_laws_szIntSS_L0
      rw [if_neg (by simp)]), .inr (by simp)⟩) (fun i hi ih m hm0 hmn => by
      obtain ⟨s, hs, hso⟩ := F_laws_szIntS_ok x[i] (hok _ (List.getElem_mem _)) m (by omega)
      by_cases h3 : s < 0
      · refine ⟨-1, w_laws_szIntSS_L0 ?_, .inl (by omega)⟩
        unfold t_laws_szIntSS_L0
        simp only [show ((i : Int) < (x.length : Int)) from by omega, decide_true, if_true, show (0 : Int) ≤ (i : Int) from by omega, Int.toNat_natCast, getD_at hi, hs, Option.bind_some]
        rw [if_pos (by simpa using h3)]
      · rcases hso with hso | ⟨hsl, hs0, hsm⟩
        · omega
        obtain ⟨r, hr, ho⟩ := ih s (by omega) (by omega)
        refine ⟨r, w_laws_szIntSS_L0 ?_, ho.imp id fun ho a ha => ?_⟩
        · unfold t_laws_szIntSS_L0
          simp only [show ((i : Int) < (x.length : Int)) from by omega, decide_true, if_true, show (0 : Int) ≤ (i : Int) from by omega, Int.toNat_natCast, getD_at hi, hs, Option.bind_some, wrap_succ (show i < 9223372036854775807 by omega)]
          rw [if_neg (by simpa using h3)]
          exact hr
        · rw [drop_cons hi] at ha
          rcases List.mem_cons.1 ha with rfl | ha
          · omega
          · exact ho a ha) 0 (by omega)
    have e : IntKind.i64.wrap (n - (x.length : Int)) = n - x.length := wrap_id (by omega)
    obtain ⟨r, hr, ho⟩ := key (n - x.length) (by omega) (by omega)
    exact ⟨r, f_laws_szIntSS (by unfold t_laws_szIntSS; rw [if_neg (by simpa using h), e]; exact hr), ho.imp id fun ho => ⟨hl, by simpa using ho⟩⟩

theorem F_laws_toIntS_eq (x : List Int) (h : x.length ≤ 68719476736) : F_laws_toIntS x = some x := f_laws_toIntS (by
  unfold t_laws_toIntS
  rw [if_pos (by omega), if_pos (by omega)]
  refine copy_loop (L := fun i z => W_laws_toIntS_L0 x i z) (f := fun a => some a) (fun _ => rfl) h (fun i z r h => w_laws_toIntS_L0 ?_)
  unfold t_laws_toIntS_L0
  simpa only [Option.bind_some] using h)

theorem F_laws_eqIntS_same (x : List Int) (h : x.length ≤ 68719476736) : F_laws_eqIntS x x = some true := f_laws_eqIntS (by
  unfold t_laws_eqIntS
  rw [if_neg (by simp)]
  refine same_loop (d := (0 : Int)) (L := fun i => W_laws_eqIntS_L0 x x i) (f := fun a b => some (a == b)) (fun _ => by simp) h (fun i r h => w_laws_eqIntS_L0 ?_)
  unfold t_laws_eqIntS_L0
  simpa using h)

theorem F_laws_toIntSS_eq (x : List (List Int)) (h : x.length ≤ 68719476736) (ho : ∀ a ∈ x, a.length ≤ 68719476736) : F_laws_toIntSS x = some x := f_laws_toIntSS (by
  unfold t_laws_toIntSS
  rw [if_pos (by omega), if_pos (by omega)]
  exact copy_loop' (L := fun i z => W_laws_toIntSS_L0 x i z) (fun a ha => F_laws_toIntS_eq a (ho a ha)) h (fun i z r h => w_laws_toIntSS_L0 h))

theorem F_laws_eqIntSS_same (x : List (List Int)) (h : x.length ≤ 68719476736) (ho : ∀ a ∈ x, a.length ≤ 68719476736) : F_laws_eqIntSS x x = some true := f_laws_eqIntSS (by
  unfold t_laws_eqIntSS
  rw [if_neg (by simp)]
  exact same_loop' (L := fun i => W_laws_eqIntSS_L0 x x i) (fun a ha => F_laws_eqIntS_same a (ho a ha)) h (fun i r h => w_laws_eqIntSS_L0 h))

theorem F_spec_l10In_eq (x : List Int) (n : Int) (h : x.length ≤ maxLen) : F_spec_l10In x n = some (x.contains n) := f_spec_l10In (by
  have hm : x.length ≤ 9223372036854775807 := h
  unfold t_spec_l10In
  have := down (n := x.length) (P := fun i => W_spec_l10In_L0 x n (i : Int) = some ((x.drop i).contains n)) (w_spec_l10In_L0 (by
    unfold t_spec_l10In_L0
    rw [if_neg (by simp), List.drop_length]
    rfl)) (fun i hi ih => w_spec_l10In_L0 (by
    unfold t_spec_l10In_L0
    simp only [show ((i : Int) < (x.length : Int)) from by omega, decide_true, if_true, show (0 : Int) ≤ (i : Int) from by omega, Int.toNat_natCast, getD_at hi, wrap_succ (show i < 9223372036854775807 by omega)]
    rw [drop_cons hi, List.contains_cons, ih]
    by_cases e : x[i] = n
    · subst e
      simp
    · simp [e, Ne.symm e])) 0 (by omega)
  simpa using this)

/-- Where a number stands first. -/
theorem F78_at (x : List Int) (i : Nat) (hi : i < x.length) (h : x.length ≤ maxLen) : ∃ r, F_slices_Index_int_int x x[i] = some r ∧ ((r = (i : Int)) ↔ x[i] ∉ x.take i) := by
  have hm : x.length ≤ 9223372036854775807 := h
  have key := down (n := i) (P := fun k => ∃ r, W_slices_Index_int_int_L0 x x[i] (x.length : Int) (k : Int) = some r ∧ (k : Int) ≤ r ∧ ((r = (i : Int)) ↔ ∀ m (hm : m < i), k ≤ m → x[m] ≠ x[i])) ⟨i, w_slices_Index_int_int_L0 (by
    unfold t_slices_Index_int_int_L0
    simp only [show ((i : Int) < (x.length : Int)) from by omega, decide_true, if_true, show (0 : Int) ≤ (i : Int) from by omega, Int.toNat_natCast, getD_at hi]
    simp), by omega, ⟨fun _ m hm hk => by omega, fun _ => rfl⟩⟩ (fun k hk ⟨r, hr, hkr, hiff⟩ => by
    have hk2 : k < x.length := by omega
    by_cases e : x[i] = x[k]
    · refine ⟨k, w_slices_Index_int_int_L0 ?_, by omega, ⟨fun he => by omega, fun hall => absurd e.symm (hall k hk (by omega))⟩⟩
      unfold t_slices_Index_int_int_L0
      simp only [show ((k : Int) < (x.length : Int)) from by omega, decide_true, if_true, show (0 : Int) ≤ (k : Int) from by omega, Int.toNat_natCast, getD_at hk2]
      rw [if_pos (by simpa using e)]
    · refine ⟨r, w_slices_Index_int_int_L0 ?_, by omega, hiff.trans ⟨fun hall m hm hkm => ?_, fun hall m hm hkm => hall m hm (by omega)⟩⟩
      · unfold t_slices_Index_int_int_L0
        simp only [show ((k : Int) < (x.length : Int)) from by omega, decide_true, if_true, show (0 : Int) ≤ (k : Int) from by omega, Int.toNat_natCast, getD_at hk2, wrap_succ (show k < 9223372036854775807 by omega)]
        rw [if_neg (by simpa using e)]
        exact hr
      · rcases Nat.lt_or_ge k m with h1 | h1
        · exact hall m hm h1
        · have : m = k := by omega
          subst this
          exact fun h => e h.symm) 0 (by omega)
  obtain ⟨r, hr, _, hiff⟩ := key
  refine ⟨r, f_slices_Index_int_int hr, hiff.trans ⟨fun hall hmem => ?_, fun hn m hm _ he => hn ?_⟩⟩
  · obtain ⟨m, hm, he⟩ := List.mem_take_iff_getElem.1 hmem
    exact hall m (by omega) (by omega) he
  · exact List.mem_take_iff_getElem.2 ⟨m, by omega, he⟩

/-- Nodes from one on, behind those that came before. -/
def nodesFrom (v : List Int) (i : Nat) : Nat → Bool
  | 0 => true
  | k + 1 => (decide (1 ≤ v.getD i 0) && decide (v.getD i 0 ≤ 6)) && !(v.take i).contains (v.getD i 0) && nodesFrom v (i + 1) k
def viewOk (v : List Int) : Bool := (decide (1 ≤ (v.length : Int)) && decide ((v.length : Int) ≤ 4)) && nodesFrom v 0 v.length
def viewsFrom (x : List (List Int)) (n : Nat) : List (List Int) → Bool
  | [] => decide (1 ≤ (n : Int)) && decide ((n : Int) ≤ 9)
  | v :: r => viewOk v && viewsFrom x n r

end Go.Proofs.Ytnbfkndicldppaa.Core
