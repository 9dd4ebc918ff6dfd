/- Rows that a law marks hold what was put there. -/
import Derived.Test.YtnbfkndicldppaaBase
import Derived.Test.YtnbfkndicldppaaAll
namespace Go.Proofs.Ytnbfkndicldppaa.Core
open Go
set_option linter.unusedVariables false
set_option linter.unusedSimpArgs false

theorem set_here {α : Type} {p r : List α} {v w : α} {i : Nat} (h : p.length = i) : (p ++ v :: r).set i w = p ++ w :: r := by
  subst h
  rw [List.set_append_right _ _ (Nat.le_refl _), Nat.sub_self, List.set_cons_zero]
theorem get_here {α : Type} {p r : List α} {v d : α} {i : Nat} (h : p.length = i) : (p ++ v :: r).getD i d = v := by
  subst h
  simp [List.getD]

theorem tenth {k : Int} (h0 : 0 ≤ k) (h1 : k ≤ 9223372036854775807) : IntKind.i64.wrap (Int.tdiv k 10) = k / 10 := by
  rw [Int.tdiv_eq_ediv_of_nonneg h0, wrap_id (by omega)]

theorem mtext_loop : ∀ (n : Nat) (k : Int) (s : ByteArray), 0 ≤ k → k < 10 ^ n → k ≤ 9223372036854775807 → s.size + n ≤ 1000 → ∃ r, W_laws_markText_L0 k s = some r
  | 0, k, s, h0, h1, h2, h3 => by
    have : k = 0 := by simp at h1; omega
    subst this
    refine ⟨(⟨#[109]⟩ : ByteArray) ++ s, w_laws_markText_L0 ?_⟩
    unfold t_laws_markText_L0
    rw [if_neg (by decide), if_pos (by
      have : (⟨#[109]⟩ : ByteArray).size = 1 := rfl
      omega)]
  | n + 1, k, s, h0, h1, h2, h3 => by
    by_cases hk : k > 0
    · have hs : ∀ d : Int, (bytesOf ([d] : List Int)).size = 1 := fun d => rfl
      obtain ⟨r, hr⟩ := mtext_loop n (k / 10) (bytesOf ([(IntKind.u8.wrap (IntKind.i64.wrap (48 + (Int.tmod k 10))))] : List Int) ++ s) (by omega) (by rw [Int.pow_succ] at h1; omega) (by omega) (by rw [ByteArray.size_append, hs]; omega)
      refine ⟨r, w_laws_markText_L0 ?_⟩
      unfold t_laws_markText_L0
      rw [if_pos (by simpa using hk), if_neg (by decide), if_pos (by rw [hs]; omega), if_neg (by decide), tenth h0 h2]
      exact hr
    · have : k = 0 := by omega
      subst this
      refine ⟨(⟨#[109]⟩ : ByteArray) ++ s, w_laws_markText_L0 ?_⟩
      unfold t_laws_markText_L0
      rw [if_neg (by decide), if_pos (by
        have : (⟨#[109]⟩ : ByteArray).size = 1 := rfl
        omega)]

noncomputable def mtext (k : Int) : ByteArray := (F_laws_markText k).getD ByteArray.empty
theorem F_laws_markText_eq {k : Int} (h : k ≤ 9223372036854775807) : F_laws_markText k = some (mtext k) := by
  have : ∃ r, F_laws_markText k = some r := by
    by_cases h0 : k ≤ 0
    · refine ⟨(⟨#[109, 48]⟩ : ByteArray), f_laws_markText ?_⟩
      unfold t_laws_markText
      rw [if_pos (by simpa using h0)]
    · obtain ⟨r, hr⟩ := mtext_loop 19 k ⟨#[]⟩ (by omega) (by omega) h (by decide)
      refine ⟨r, f_laws_markText ?_⟩
      unfold t_laws_markText
      rw [if_neg (by simpa using h0)]
      exact hr
  obtain ⟨r, hr⟩ := this
  unfold mtext
  rw [hr]
  rfl

/-- Marked items. -/
noncomputable def marksI : Int → Nat → List (ByteArray × ByteArray × Int)
  | _, 0 => []
  | k, n + 1 => (mtext k, mtext (k + 1), k + 2) :: marksI (k + 3) n
theorem marksI_len : ∀ (n : Nat) (k : Int), (marksI k n).length = n
  | 0, _ => rfl
  | n + 1, k => by simp [marksI, marksI_len n]

theorem markItem_loop : ∀ (r p : List (ByteArray × ByteArray × Int)) (k : Int), 0 ≤ k → k + 3 * (r.length : Int) ≤ 4611686018427387904 → p.length + r.length ≤ 4611686018427387904 →
    W_laws_markItemS_L0 k (p.length : Int) (p ++ r) = some (k + 3 * (r.length : Int), p ++ marksI k r.length)
  | [], p, k, h0, h1, h2 => w_laws_markItemS_L0 (by
    unfold t_laws_markItemS_L0
    rw [if_neg (by simp)]
    simp [marksI])
  | v :: r, p, k, h0, h1, h2 => w_laws_markItemS_L0 (by
    simp only [List.length_cons] at h1 h2
    unfold t_laws_markItemS_L0
    have w1 : IntKind.i64.wrap (k + 1) = k + 1 := wrap_id (by omega)
    have w2 : IntKind.i64.wrap (k + 1 + 1) = k + 2 := by rw [wrap_id (by omega)]; omega
    have w3 : IntKind.i64.wrap (k + 2 + 1) = k + 3 := by rw [wrap_id (by omega)]; omega
    have hl : ∀ m : ByteArray × ByteArray × Int, ((p.length : Int) < ((p ++ m :: r).length : Int)) := fun m => by simp only [List.length_append, List.length_cons]; omega
    have ih := markItem_loop r (p ++ [(mtext k, mtext (k + 1), k + 2)]) (k + 3) (by omega) (by omega) (by simp only [List.length_append, List.length_cons, List.length_nil]; omega)
    simp only [List.length_append, List.length_cons, List.length_nil, List.append_assoc, List.cons_append, List.nil_append] at ih
    simp only [hl, decide_true, if_true, show (0 : Int) ≤ (p.length : Int) from by omega, F_laws_markText_eq (show k ≤ 9223372036854775807 by omega), F_laws_markText_eq (show k + 1 ≤ 9223372036854775807 by omega), Option.bind_some, w1, w2, w3, Int.toNat_natCast, set_here rfl, get_here rfl, wrap_succ (show p.length < 9223372036854775807 by omega)]
    rw [show p.length + (0 + 1) = p.length + 1 from rfl] at ih
    rw [ih]
    simp only [marksI, List.length_cons]
    congr 2
    omega)

theorem F_laws_markItemS_eq (k : Int) (x : List (ByteArray × ByteArray × Int)) (h0 : 0 ≤ k) (h1 : k ≤ 1152921504606846976) (hx : x.length ≤ 68719476736) : F_laws_markItemS k x = some (k + 3 * (x.length : Int), marksI k x.length) := f_laws_markItemS (by
  unfold t_laws_markItemS
  have := markItem_loop x [] k h0 (by omega) (by simp; omega)
  simpa using this)

theorem heldItem_loop : ∀ (n : Nat) (p : List (ByteArray × ByteArray × Int)) (k : Int), 0 ≤ k → k + 3 * (n : Int) ≤ 4611686018427387904 → p.length + n ≤ 4611686018427387904 →
    W_laws_heldItemS_L0 (p ++ marksI k n) k (p.length : Int) = some (k + 3 * (n : Int))
  | 0, p, k, h0, h1, h2 => w_laws_heldItemS_L0 (by
    unfold t_laws_heldItemS_L0
    rw [if_neg (by simp [marksI])]
    simp)
  | n + 1, p, k, h0, h1, h2 => w_laws_heldItemS_L0 (by
    unfold t_laws_heldItemS_L0
    simp only [marksI]
    have w1 : IntKind.i64.wrap (k + 1) = k + 1 := wrap_id (by omega)
    have w2 : IntKind.i64.wrap (k + 1 + 1) = k + 2 := by rw [wrap_id (by omega)]; omega
    have w3 : IntKind.i64.wrap (k + 2 + 1) = k + 3 := by rw [wrap_id (by omega)]; omega
    have hl : ((p.length : Int) < ((p ++ (mtext k, mtext (k + 1), k + 2) :: marksI (k + 3) n).length : Int)) := by simp only [List.length_append, List.length_cons]; omega
    have ih := heldItem_loop n (p ++ [(mtext k, mtext (k + 1), k + 2)]) (k + 3) (by omega) (by omega) (by simp only [List.length_append, List.length_cons, List.length_nil]; omega)
    simp only [List.length_append, List.length_cons, List.length_nil, List.append_assoc, List.cons_append, List.nil_append] at ih
    simp only [hl, decide_true, if_true, show (0 : Int) ≤ (p.length : Int) from by omega, F_laws_markText_eq (show k ≤ 9223372036854775807 by omega), F_laws_markText_eq (show k + 1 ≤ 9223372036854775807 by omega), Option.bind_some, w1, w2, w3, Int.toNat_natCast, get_here rfl, wrap_succ (show p.length < 9223372036854775807 by omega)]
    rw [show p.length + (0 + 1) = p.length + 1 from rfl] at ih
    rw [ih]
    simp
    omega)

theorem F_laws_heldItemS_eq (k : Int) (n : Nat) (h0 : 0 ≤ k) (h1 : k ≤ 1152921504606846976) (hn : n ≤ 68719476736) : F_laws_heldItemS (marksI k n) k = some (k + 3 * (n : Int)) := f_laws_heldItemS (by
  unfold t_laws_heldItemS
  have := heldItem_loop n [] k h0 (by omega) (by simp; omega)
  simpa using this)

end Go.Proofs.Ytnbfkndicldppaa.Core
