/- FnExactFall: both give the same member; what is marked holds its marks. -/
import Derived.Test.YtnbfkndicldppaaSz
import Derived.Test.YtnbfkndicldppaaMark
namespace Go.Proofs.Ytnbfkndicldppaa.Core
open Go
set_option linter.unusedVariables false
set_option linter.unusedSimpArgs false

theorem markInt_loop : ∀ (r p : List Int) (k : Int), 0 ≤ k → k + (r.length : Int) ≤ 4611686018427387904 → p.length + r.length ≤ 4611686018427387904 →
    ∃ z, W_laws_markIntS_L0 k (p.length : Int) (p ++ r) = some (k + (r.length : Int), z)
  | [], p, k, h0, h1, h2 => ⟨p ++ [], w_laws_markIntS_L0 (by
    unfold t_laws_markIntS_L0
    rw [if_neg (by simp)]
    simp)⟩
  | v :: r, p, k, h0, h1, h2 => by
    simp only [List.length_cons] at h1 h2
    obtain ⟨z, ih⟩ := markInt_loop r (p ++ [k]) (k + 1) (by omega) (by omega) (by simp only [List.length_append, List.length_cons, List.length_nil]; omega)
    refine ⟨z, w_laws_markIntS_L0 ?_⟩
    unfold t_laws_markIntS_L0
    have w1 : IntKind.i64.wrap (k + 1) = k + 1 := wrap_id (by omega)
    have hl : ∀ m : Int, ((p.length : Int) < ((p ++ m :: r).length : Int)) := fun m => by simp only [List.length_append, List.length_cons]; omega
    simp only [List.length_append, List.length_cons, List.length_nil, List.append_assoc, List.cons_append, List.nil_append] at ih
    simp only [hl, decide_true, if_true, show (0 : Int) ≤ (p.length : Int) from by omega, w1, Int.toNat_natCast, set_here rfl, wrap_succ (show p.length < 9223372036854775807 by omega)]
    rw [show p.length + (0 + 1) = p.length + 1 from rfl] at ih
    rw [ih]
    simp only [List.length_cons]
    congr 2
    omega
theorem F_laws_markIntS_ok (k : Int) (x : List Int) (h0 : 0 ≤ k) (h1 : k ≤ 1152921504606846976) (hx : x.length ≤ 68719476736) : ∃ z, F_laws_markIntS k x = some (k + (x.length : Int), z) := by
  obtain ⟨z, hz⟩ := markInt_loop x [] k h0 (by omega) (by simp; omega)
  refine ⟨z, f_laws_markIntS ?_⟩
  unfold t_laws_markIntS
  simpa using hz
theorem F_laws_markIntS_nil (k : Int) : F_laws_markIntS k [] = some (k, []) := f_laws_markIntS (by
  unfold t_laws_markIntS
  exact w_laws_markIntS_L0 (by unfold t_laws_markIntS_L0; rfl))
theorem F_laws_markItemS_nil (k : Int) : F_laws_markItemS k [] = some (k, []) := f_laws_markItemS (by
  unfold t_laws_markItemS
  exact w_laws_markItemS_L0 (by unfold t_laws_markItemS_L0; rfl))
theorem F_laws_heldIntS_nil (k : Int) : F_laws_heldIntS [] k = some k := f_laws_heldIntS (by
  unfold t_laws_heldIntS
  exact w_laws_heldIntS_L0 (by unfold t_laws_heldIntS_L0; rfl))
theorem F_laws_heldItemS_nil (k : Int) : F_laws_heldItemS [] k = some k := f_laws_heldItemS (by
  unfold t_laws_heldItemS
  exact w_laws_heldItemS_L0 (by unfold t_laws_heldItemS_L0; rfl))

/-- A member that has fallen. -/
def fallen (id epoch : Int) : y_Member := (id, epoch, true, false, false, false, ([] : List Int), ([] : List y_Item), (0 : Int), (0 : Int), (0 : Int), (0 : Int), (ByteArray.empty, ByteArray.empty, (0 : Int)), ([] : List Int))
theorem fallen_small (id epoch : Int) : k_Member.small (fallen id epoch) := by
  unfold fallen
  simp [Kd.small]
theorem F_impl_Fall_eq (x : y_Member) : F_impl_Fall x = some (fallen x.1 x.2.1) := f_impl_Fall rfl
theorem F_spec_Fall_eq (x : y_Member) : F_spec_Fall x = some (fallen x.1 x.2.1) := f_spec_Fall rfl

theorem mark_fallen (a b c d e f g h i j k l m : _) : F_laws_markMember a b c d e f g h i j k l m 1 [] [] [] = some (1, [], [], []) := f_laws_markMember (by
  unfold t_laws_markMember
  rw [F_laws_markIntS_nil, Option.bind_some, F_laws_markItemS_nil, Option.bind_some, show F_laws_markTask h i j k l m (1 : Int) [] = some (1, []) from f_laws_markTask (by
    unfold t_laws_markTask
    rw [F_laws_markIntS_nil]
    rfl)]
  rfl)
theorem held_fallen (id epoch : Int) : F_laws_heldMember (fallen id epoch) 1 = some 1 := f_laws_heldMember (by
  unfold t_laws_heldMember
  rw [show (fallen id epoch).2.2.2.2.2.2.1 = [] from rfl, show (fallen id epoch).2.2.2.2.2.2.2.1 = [] from rfl, F_laws_heldIntS_nil, Option.bind_some, if_neg (by decide), F_laws_heldItemS_nil, Option.bind_some, if_neg (by decide),
    show F_laws_heldTask (fallen id epoch).2.2.2.2.2.2.2.2.2 1 = some 1 from f_laws_heldTask (by
      unfold t_laws_heldTask
      rw [show (fallen id epoch).2.2.2.2.2.2.2.2.2.2.2.2.2 = [] from rfl, F_laws_heldIntS_nil]
      rfl)]
  rfl)
theorem mark_ok (a b c d e f g h i j k l m : _) (x : List Int) (y : List (ByteArray × ByteArray × Int)) (z : List Int) (h1 : x.length ≤ 68719476736) (h2 : y.length ≤ 68719476736) (h3 : z.length ≤ 68719476736) :
    ∃ r q, F_laws_markMember a b c d e f g h i j k l m 1 x y z = some (r, q) ∧ 0 ≤ r := by
  obtain ⟨z1, e1⟩ := F_laws_markIntS_ok 1 x (by omega) (by omega) h1
  have e2 := F_laws_markItemS_eq (1 + (x.length : Int)) y (by omega) (by omega) h2
  obtain ⟨z3, e3⟩ := F_laws_markIntS_ok (1 + (x.length : Int) + 3 * (y.length : Int)) z (by omega) (by omega) h3
  refine ⟨_, _, f_laws_markMember (r := (1 + (x.length : Int) + 3 * (y.length : Int) + (z.length : Int), z1, marksI (1 + (x.length : Int)) y.length, z3)) ?_, by omega⟩
  unfold t_laws_markMember
  rw [e1, Option.bind_some, e2, Option.bind_some, show F_laws_markTask h i j k l m (1 + (x.length : Int) + 3 * (y.length : Int)) z = some (1 + (x.length : Int) + 3 * (y.length : Int) + (z.length : Int), z3) from f_laws_markTask (by
    unfold t_laws_markTask
    rw [e3]
    rfl)]
  rfl

theorem law_FnExactFall (x0 : y_Member) (hx0 : Kd.ok k_Member x0) : F_laws_FnExactFall x0 = some true := f_laws_FnExactFall (by
  unfold t_laws_FnExactFall
  obtain ⟨r, hr, hl⟩ := sz_laws_szMember x0 1048576 hx0 (by omega)
  rw [hr, Option.bind_some]
  by_cases h2 : r < 0
  · rw [if_pos (by simpa using h2)]
  · rw [if_neg (by simpa using h2)]
    have hs : k_Member.small x0 := (hl.resolve_left h2).1
    have hf := fallen_small x0.1 x0.2.1
    have et := to_laws_toMember x0 hs
    have ef := eq_laws_eqMember _ hf
    have ex := eq_laws_eqMember _ hs
    obtain ⟨q, z, hm, hq⟩ := mark_ok x0.1 x0.2.1 x0.2.2.1 x0.2.2.2.1 x0.2.2.2.2.1 x0.2.2.2.2.2.1 x0.2.2.2.2.2.2.2.2.1 x0.2.2.2.2.2.2.2.2.2.1 x0.2.2.2.2.2.2.2.2.2.2.1 x0.2.2.2.2.2.2.2.2.2.2.2.1 x0.2.2.2.2.2.2.2.2.2.2.2.2.1.1 x0.2.2.2.2.2.2.2.2.2.2.2.2.1.2.1 x0.2.2.2.2.2.2.2.2.2.2.2.2.1.2.2
      x0.2.2.2.2.2.2.1 x0.2.2.2.2.2.2.2.1 x0.2.2.2.2.2.2.2.2.2.2.2.2.2 hs.2.2.2.2.2.2.1.1 hs.2.2.2.2.2.2.2.1.1 hs.2.2.2.2.2.2.2.2.2.2.2.2.2.1
    simp only [et, F_spec_Fall_eq, F_impl_Fall_eq, ef, ex, hm, Option.bind_some]
    rw [if_neg (by simp), if_neg (by simp), if_pos (by simpa using hq), if_neg (by simp)]
    refine w_laws_FnExactFall_J0 ?_
    unfold t_laws_FnExactFall_J0
    simp only [show (fallen x0.1 x0.2.1).2.2.2.2.2.2.1 = [] from rfl, show (fallen x0.1 x0.2.1).2.2.2.2.2.2.2.1 = [] from rfl, show (fallen x0.1 x0.2.1).2.2.2.2.2.2.2.2.2.2.2.2.2 = [] from rfl, mark_fallen, Option.bind_some]
    change (F_laws_heldMember (fallen x0.1 x0.2.1) 1).bind _ = _
    rw [held_fallen, Option.bind_some, if_neg (by decide), if_neg (by decide), et, Option.bind_some, F_impl_Fall_eq, Option.bind_some]
    change (F_laws_eqMember (fallen x0.1 x0.2.1) (fallen x0.1 x0.2.1)).bind _ = _
    rw [ef, Option.bind_some, if_neg (by simp)]
    change (F_laws_heldMember (fallen x0.1 x0.2.1) 1).bind _ = _
    rw [held_fallen, Option.bind_some, if_neg (by decide), if_neg (by decide)])

end Go.Proofs.Ytnbfkndicldppaa.Core
