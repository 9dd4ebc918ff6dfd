/- FnExactAlike: both look at who has the same items. -/
import Derived.Test.YtnbfkndicldppaaGroup
namespace Go.Proofs.Ytnbfkndicldppaa.Core
open Go
set_option linter.unusedVariables false
set_option linter.unusedSimpArgs false

theorem eqK_Item_refl (x : TItem) : eqK k_Item x x = true := by simp [eqK]
theorem sameItems_refl (a : List TItem) : sameItems a a = true := by
  unfold sameItems
  simp only [beq_self_eq_true, Bool.true_and, List.all_eq_true]
  exact fun i _ => eqK_Item_refl _

/-- Who has other items than it should. -/
def unlike (g : TGroup) (m x : TMember) : Bool := decide (x.1 ∈ viewAt g m.2.1) && x.2.2.2.1 && (x.2.1 == m.2.1) && !sameItems x.2.2.2.2.2.2.2.1 m.2.2.2.2.2.2.2.1
def alike (g : TGroup) : Bool := (List.range g.2.1.length).all fun i => !(memberAt g i).2.2.2.2.2.1 || !((memberAt g i).2.2.2.2.2.2.2.2.2.1 == 0) || (List.range g.2.1.length).all fun k => !unlike g (memberAt g i) (memberAt g k)

theorem memberAt_ok {g : TGroup} (h : Kd.ok k_Group g) {i : Nat} (hi : i < g.2.1.length) : Kd.ok k_Member (memberAt g i) := by
  unfold memberAt
  rw [getD_at hi]
  exact h.2.1.2 _ (List.getElem_mem _)
theorem viewAt_len {g : TGroup} (h : Kd.ok k_Group g) (e : Int) : (viewAt g e).length ≤ maxLen := by
  unfold viewAt
  split
  · rename_i c
    rw [getD_at (by omega)]
    exact (h.1.2 _ (List.getElem_mem _)).1
  · simp

theorem F_spec_Alike_eq (g : TGroup) (hx : Kd.ok k_Group g) : F_spec_Alike g = some (alike g) := f_spec_Alike (by
  have hm1 : g.1.length ≤ 9223372036854775807 := hx.1.1
  have hm2 : g.2.1.length ≤ 9223372036854775807 := hx.2.1.1
  unfold t_spec_Alike
  have key := all_loop0 (n := g.2.1.length) (L := fun i => W_spec_Alike_L0 (i : Int) g) (b := fun i => !(memberAt g i).2.2.2.2.2.1 || !((memberAt g i).2.2.2.2.2.2.2.2.2.1 == 0) || (List.range g.2.1.length).all fun k => !unlike g (memberAt g i) (memberAt g k)) (e := true) (s := false) (w_spec_Alike_L0 (by
    unfold t_spec_Alike_L0
    rw [if_neg (by simp)])) (fun i hi w hw => w_spec_Alike_L0 (by
    unfold t_spec_Alike_L0
    have hgd : (g.2.1.getD (i : Int).toNat ((0 : Int), (0 : Int), false, false, false, false, ([] : List Int), ([] : List TItem), (0 : Int), (0 : Int), (0 : Int), (0 : Int), (ByteArray.empty, ByteArray.empty, (0 : Int)), ([] : List Int))) = memberAt g i := rfl
    rw [if_pos (by simpa using hi), if_pos (by omega), if_pos (by omega)]
    simp only [hgd, F_spec_l01In_eq, Option.bind_some, wrap_succ (show i < 9223372036854775807 by omega), hw]
    generalize hm : memberAt g i = m
    cases hs : m.2.2.2.2.2.1
    · simp
    · by_cases ho : m.2.2.2.2.2.2.2.2.2.1 = 0
      · rw [if_pos (by simp), if_pos (by simp [ho])]
        by_cases c : 1 ≤ m.2.1 ∧ m.2.1 ≤ (g.1.length : Int)
        · rw [if_neg (by simp [c.1, c.2])]
          have inner : W_spec_Alike_L1 (i : Int) 0 g m = some (if (List.range g.2.1.length).all (fun k => !unlike g m (memberAt g k)) = true then w else false) := by
            refine all_loop0 (n := g.2.1.length) (L := fun k => W_spec_Alike_L1 (i : Int) (k : Int) g m) (w_spec_Alike_L1 (by
              unfold t_spec_Alike_L1
              rw [if_neg (by simp), wrap_succ (show i < 9223372036854775807 by omega)]
              exact hw)) (fun k hk u hu => w_spec_Alike_L1 (by
              unfold t_spec_Alike_L1
              have hgk : (g.2.1.getD (k : Int).toNat ((0 : Int), (0 : Int), false, false, false, false, ([] : List Int), ([] : List TItem), (0 : Int), (0 : Int), (0 : Int), (0 : Int), (ByteArray.empty, ByteArray.empty, (0 : Int)), ([] : List Int))) = memberAt g k := rfl
              have hok := memberAt_ok hx hk
              rw [if_pos (by simpa using hk), if_pos (by omega), if_pos (by omega)]
              have hv : g.1.getD (m.2.1 - 1).toNat [] = viewAt g m.2.1 := by unfold viewAt; rw [if_pos c]
              simp only [hgk, wrap_succ (show k < 9223372036854775807 by omega), hu, wrap_id (show -9223372036854775808 ≤ m.2.1 - 1 ∧ m.2.1 - 1 ≤ 9223372036854775807 by omega), hv, show (0 : Int) ≤ m.2.1 - 1 from by omega, show m.2.1 - 1 < (g.1.length : Int) from by omega, if_true,
                F_spec_l10In_eq _ _ (viewAt_len hx _), F_spec_l16SameItems_eq _ _ (hok.2.2.2.2.2.2.2.1.1), Option.bind_some]
              unfold unlike
              rw [show List.contains (viewAt g m.2.1) (memberAt g k).1 = decide ((memberAt g k).1 ∈ viewAt g m.2.1) from List.contains_eq_mem _ _]
              generalize decide ((memberAt g k).1 ∈ viewAt g m.2.1) = a
              generalize (memberAt g k).2.2.2.1 = b
              generalize ((memberAt g k).2.1 == m.2.1) = d
              generalize sameItems (memberAt g k).2.2.2.2.2.2.2.1 m.2.2.2.2.2.2.2.1 = e
              cases a <;> cases b <;> cases d <;> cases e <;> simp))
          rw [inner]
          simp [ho]
        · rw [if_pos (by rw [← Bool.decide_and, decide_eq_false c]; rfl)]
          have : (List.range g.2.1.length).all (fun k => !unlike g m (memberAt g k)) = true := by
            rw [List.all_eq_true]
            intro k _
            unfold unlike viewAt
            rw [if_neg c]
            simp
          rw [this]
          simp
      · rw [if_pos (by simp), if_neg (by simp [ho])]
        simp [ho]))
  rw [ite_tt] at key
  exact key)

theorem F_impl_Alike_eq (g : TGroup) (hx : Kd.ok k_Group g) : F_impl_Alike g = some (alike g) := f_impl_Alike (by
  have hm1 : g.1.length ≤ 9223372036854775807 := hx.1.1
  have hm2 : g.2.1.length ≤ 9223372036854775807 := hx.2.1.1
  unfold t_impl_Alike
  have key := all_loop0 (n := g.2.1.length) (L := fun i => W_impl_Alike_L0 g.2.1 (g.2.1.length : Int) (i : Int) g.1 g.2.1 g.2.2.1 g.2.2.2) (b := fun i => !(memberAt g i).2.2.2.2.2.1 || !((memberAt g i).2.2.2.2.2.2.2.2.2.1 == 0) || (List.range g.2.1.length).all fun k => !unlike g (memberAt g i) (memberAt g k)) (e := true) (s := false) (w_impl_Alike_L0 (by
    unfold t_impl_Alike_L0
    rw [if_neg (by simp)])) (fun i hi w hw => w_impl_Alike_L0 (by
    unfold t_impl_Alike_L0
    have hgd : (g.2.1.getD (i : Int).toNat ((0 : Int), (0 : Int), false, false, false, false, ([] : List Int), ([] : List TItem), (0 : Int), (0 : Int), (0 : Int), (0 : Int), (ByteArray.empty, ByteArray.empty, (0 : Int)), ([] : List Int))) = memberAt g i := rfl
    rw [if_pos (by simpa using hi), if_pos (by omega), if_pos (by omega)]
    simp only [hgd, wrap_succ (show i < 9223372036854775807 by omega), hw]
    generalize hm : memberAt g i = m
    cases hs : m.2.2.2.2.2.1
    · simp
    · by_cases ho : m.2.2.2.2.2.2.2.2.2.1 = 0
      · rw [if_pos (by simp), if_neg (by simp [ho])]
        have inner : ∀ b, W_impl_Alike_J1 (i : Int) g.2.1 (g.2.1.length : Int) (i : Int) b g.1 g.2.1 g.2.2.1 g.2.2.2 m = some (if (List.range g.2.1.length).all (fun k => !unlike g m (memberAt g k)) = true then w else false) := fun b => w_impl_Alike_J1 (by
          unfold t_impl_Alike_J1
          rw [F_impl_Group_view_eq _ (g.1, g.2.1, g.2.2.1, g.2.2.2) hx.1.1, Option.bind_some]
          show W_impl_Alike_L2 (i : Int) (viewAt g m.2.1) g.2.1 (g.2.1.length : Int) (i : Int) g.2.1 (g.2.1.length : Int) 0 g m = _
          refine all_loop0 (n := g.2.1.length) (L := fun k => W_impl_Alike_L2 (i : Int) (viewAt g m.2.1) g.2.1 (g.2.1.length : Int) (i : Int) g.2.1 (g.2.1.length : Int) (k : Int) g m) (w_impl_Alike_L2 (by
            unfold t_impl_Alike_L2
            rw [if_neg (by simp), wrap_succ (show i < 9223372036854775807 by omega)]
            exact hw)) (fun k hk u hu => w_impl_Alike_L2 (by
            unfold t_impl_Alike_L2
            have hgk : (g.2.1.getD (k : Int).toNat ((0 : Int), (0 : Int), false, false, false, false, ([] : List Int), ([] : List TItem), (0 : Int), (0 : Int), (0 : Int), (0 : Int), (ByteArray.empty, ByteArray.empty, (0 : Int)), ([] : List Int))) = memberAt g k := rfl
            have hok := memberAt_ok hx hk
            rw [if_pos (by simpa using hk), if_pos (by omega), if_pos (by omega)]
            simp only [hgk, wrap_succ (show k < 9223372036854775807 by omega), hu, F_slices_Contains_int_int_eq _ _ (viewAt_len hx _), F_slices_Equal_impl_Item_impl_Item_eq _ _ (hok.2.2.2.2.2.2.2.1.1), Option.bind_some]
            by_cases hki : k = i
            · subst hki
              rw [if_neg (by simp), hm]
              unfold unlike
              rw [sameItems_refl]
              simp
            · rw [if_pos (by simpa using fun q => hki (by omega))]
              unfold unlike
              generalize decide ((memberAt g k).1 ∈ viewAt g m.2.1) = a
              generalize (memberAt g k).2.2.2.1 = b
              generalize ((memberAt g k).2.1 == m.2.1) = d
              generalize sameItems (memberAt g k).2.2.2.2.2.2.2.1 m.2.2.2.2.2.2.2.1 = e
              cases a <;> cases b <;> cases d <;> cases e <;> simp)))
        rw [inner]
        simp [ho]
      · rw [if_pos (by simp), if_pos (by simp [ho])]
        simp [ho]))
  rw [ite_tt] at key
  exact key)

theorem law_FnExactAlike (x) (hx : Kd.ok k_Group x) : F_laws_FnExactAlike x = some true := f_laws_FnExactAlike (by
  unfold t_laws_FnExactAlike
  obtain ⟨r, hr, ho⟩ := sz_laws_szGroup x 1048576 hx (by omega)
  rw [hr, Option.bind_some]
  by_cases h2 : r < 0
  · rw [if_pos (by simpa using h2)]
  · have hs := (ho.resolve_left h2).1
    rw [if_neg (by simpa using h2)]
    simp [to_laws_toGroup x hs, F_spec_Alike_eq x hx, F_impl_Alike_eq x hx, eq_laws_eqGroup x hs, eqK])

end Go.Proofs.Ytnbfkndicldppaa.Core
