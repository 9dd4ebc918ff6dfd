/- Groups looked at: who serves, who has the same items. -/
import Derived.Test.YtnbfkndicldppaaItemsOk
import Derived.Test.YtnbfkndicldppaaViewsOk
import Derived.Test.YtnbfkndicldppaaSz
namespace Go.Proofs.Ytnbfkndicldppaa.Core
open Go
set_option linter.unusedVariables false
set_option linter.unusedSimpArgs false

/-- A loop in which each place must be met. -/
theorem all_loop {β : Type} {n : Nat} {L : Nat → Option β} {b : Nat → Bool} {e s : β} (h0 : L n = some e) (h : ∀ i, i < n → ∀ w, L (i + 1) = some w → L i = some (if b i = true then w else s)) :
    ∀ i, i ≤ n → L i = some (if (List.range' i (n - i)).all b = true then e else s) := by
  refine down (P := fun i => L i = some (if (List.range' i (n - i)).all b = true then e else s)) (by simp [h0]) fun i hi ih => ?_
  rw [h i hi _ ih, show n - i = (n - (i + 1)) + 1 from by omega, List.range'_succ, List.all_cons]
  by_cases hb : b i = true
  · rw [if_pos hb, hb, Bool.true_and]
  · have hb' : b i = false := by simpa using hb
    rw [if_neg hb, hb', Bool.false_and]
    rfl
theorem all_loop0 {β : Type} {n : Nat} {L : Nat → Option β} {b : Nat → Bool} {e s : β} (h0 : L n = some e) (h : ∀ i, i < n → ∀ w, L (i + 1) = some w → L i = some (if b i = true then w else s)) :
    L 0 = some (if (List.range n).all b = true then e else s) := by
  have := all_loop h0 h 0 (by omega)
  rwa [Nat.sub_zero, ← List.range_eq_range'] at this
theorem ite_tt (b : Bool) : (if b = true then true else false) = b := by cases b <;> rfl

/-- The place of a number; -1 without one. -/
def indexI (x : List Int) (n : Int) : Int := if n ∈ x then (x.idxOf n : Int) else -1

theorem F_slices_Index_int_int_eq (x : List Int) (n : Int) (h : x.length ≤ maxLen) : F_slices_Index_int_int x n = some (indexI x n) := f_slices_Index_int_int (by
  have hm : x.length ≤ 9223372036854775807 := h
  unfold t_slices_Index_int_int
  have := down (n := x.length) (P := fun i => W_slices_Index_int_int_L0 x n (x.length : Int) (i : Int) = some (if n ∈ x.drop i then (((x.drop i).idxOf n + i : Nat) : Int) else -1)) (w_slices_Index_int_int_L0 (by
    unfold t_slices_Index_int_int_L0
    rw [if_neg (by simp)]
    simp)) (fun i hi ih => w_slices_Index_int_int_L0 (by
    unfold t_slices_Index_int_int_L0
    rw [if_pos (by simpa using hi), if_pos (by omega), if_pos (by omega), Int.toNat_natCast, getD_at hi, List.drop_eq_getElem_cons hi]
    rw [wrap_succ (show i < 9223372036854775807 by omega), ih]
    generalize x.drop (i + 1) = l
    by_cases e : n = x[i]
    · rw [if_pos (by simpa using e), if_pos (by simp [e])]
      simp [e]
    · rw [if_neg (by simpa using e)]
      by_cases m : n ∈ l
      · rw [if_pos m, if_pos (by simp [m])]
        have e2 : (x[i] == n) = false := by simpa using Ne.symm e
        simp [List.idxOf_cons, e2]
        omega
      · rw [if_neg m, if_neg (by simp [m, e])])) 0 (by omega)
  simpa [indexI] using this)

theorem F_slices_Contains_int_int_eq (x : List Int) (n : Int) (h : x.length ≤ maxLen) : F_slices_Contains_int_int x n = some (decide (n ∈ x)) := f_slices_Contains_int_int (by
  unfold t_slices_Contains_int_int
  rw [F_slices_Index_int_int_eq x n h, Option.bind_some]
  by_cases m : n ∈ x <;> simp [indexI, m])

abbrev TItem : Type := ByteArray × ByteArray × Int
abbrev TMember : Type := Int × Int × Bool × Bool × Bool × Bool × List Int × List TItem × Int × Int × Int × Int × TItem × List Int
abbrev TMsg : Type := Int × Int × Int × Int × Int × List TItem
abbrev TCall : Type := Int × ByteArray × ByteArray × Int × Int × Int × Int × Int × ByteArray
abbrev TGroup : Type := List (List Int) × List TMember × List TMsg × List TCall
def noItem : TItem := (ByteArray.empty, ByteArray.empty, 0)
def noMember : TMember := ((0 : Int), (0 : Int), false, false, false, false, [], [], (0 : Int), (0 : Int), (0 : Int), (0 : Int), (ByteArray.empty, ByteArray.empty, (0 : Int)), [])

/-- The same items. -/
def sameItems (a b : List TItem) : Bool := (a.length == b.length) && (List.range a.length).all fun i => eqK k_Item (a.getD i noItem) (b.getD i noItem)

theorem F_spec_l16SameItems_eq (a b : List TItem) (h : a.length ≤ maxLen) : F_spec_l16SameItems a b = some (sameItems a b) := f_spec_l16SameItems (by
  have hm : a.length ≤ 9223372036854775807 := h
  unfold t_spec_l16SameItems sameItems
  by_cases e : a.length = b.length
  · rw [if_neg (by simp [e])]
    have := all_loop0 (n := a.length) (L := fun i => W_spec_l16SameItems_L0 a b (i : Int)) (b := fun i => eqK k_Item (a.getD i noItem) (b.getD i noItem)) (e := true) (s := false) (w_spec_l16SameItems_L0 (by
      unfold t_spec_l16SameItems_L0
      rw [if_neg (by simp)])) (fun i hi w hw => w_spec_l16SameItems_L0 (by
      unfold t_spec_l16SameItems_L0
      rw [if_pos (by simpa using hi), if_pos (by omega), if_pos (by omega), if_pos (by omega), if_pos (by omega), Int.toNat_natCast, wrap_succ (show i < 9223372036854775807 by omega), hw]
      show _ = some (if eqK k_Item (a.getD i (ByteArray.empty, ByteArray.empty, (0 : Int))) (b.getD i (ByteArray.empty, ByteArray.empty, (0 : Int))) = true then w else false)
      generalize eqK k_Item (a.getD i (ByteArray.empty, ByteArray.empty, (0 : Int))) (b.getD i (ByteArray.empty, ByteArray.empty, (0 : Int))) = q
      cases q <;> rfl))
    simp only [e, beq_self_eq_true, Bool.true_and]
    rw [show ((0 : Int)) = ((0 : Nat) : Int) from rfl, this]
    rw [e]
    cases (List.range b.length).all fun i => eqK k_Item (a.getD i noItem) (b.getD i noItem) <;> rfl
  · rw [if_pos (by simpa using fun q => e (by omega))]
    simp [e])
theorem F_slices_Equal_impl_Item_impl_Item_eq (a b : List TItem) (h : a.length ≤ maxLen) : F_slices_Equal_impl_Item_impl_Item a b = some (sameItems a b) := f_slices_Equal_impl_Item_impl_Item (by
  have hm : a.length ≤ 9223372036854775807 := h
  unfold t_slices_Equal_impl_Item_impl_Item sameItems
  by_cases e : a.length = b.length
  · rw [if_neg (by simp [e])]
    have := all_loop0 (n := a.length) (L := fun i => W_slices_Equal_impl_Item_impl_Item_L0 a b (a.length : Int) (i : Int)) (b := fun i => eqK k_Item (a.getD i noItem) (b.getD i noItem)) (e := true) (s := false) (w_slices_Equal_impl_Item_impl_Item_L0 (by
      unfold t_slices_Equal_impl_Item_impl_Item_L0
      rw [if_neg (by simp)])) (fun i hi w hw => w_slices_Equal_impl_Item_impl_Item_L0 (by
      unfold t_slices_Equal_impl_Item_impl_Item_L0
      rw [if_pos (by simpa using hi), if_pos (by omega), if_pos (by omega), if_pos (by omega), if_pos (by omega), Int.toNat_natCast, wrap_succ (show i < 9223372036854775807 by omega), hw]
      show _ = some (if eqK k_Item (a.getD i (ByteArray.empty, ByteArray.empty, (0 : Int))) (b.getD i (ByteArray.empty, ByteArray.empty, (0 : Int))) = true then w else false)
      generalize eqK k_Item (a.getD i (ByteArray.empty, ByteArray.empty, (0 : Int))) (b.getD i (ByteArray.empty, ByteArray.empty, (0 : Int))) = q
      cases q <;> rfl))
    simp only [e, beq_self_eq_true, Bool.true_and]
    rw [e] at this
    rw [show ((0 : Int)) = ((0 : Nat) : Int) from rfl, this]
    cases (List.range b.length).all fun i => eqK k_Item (a.getD i noItem) (b.getD i noItem) <;> rfl
  · rw [if_pos (by simpa using fun q => e (by omega))]
    simp [e])

/-- The view of an epoch; nothing where there is none. -/
def viewAt (g : TGroup) (e : Int) : List Int := if 1 ≤ e ∧ e ≤ (g.1.length : Int) then g.1.getD (e - 1).toNat [] else []
def inView (g : TGroup) (e : Int) : Bool := decide (1 ≤ e) && decide (e ≤ (g.1.length : Int))

theorem F_impl_Group_view_eq (e : Int) (g : TGroup) (h : g.1.length ≤ maxLen) : F_impl_Group_view e g = some (viewAt g e, g) := f_impl_Group_view (by
  have hm : g.1.length ≤ 9223372036854775807 := h
  unfold t_impl_Group_view viewAt
  rw [F_impl_inRange_eq, Option.bind_some]
  by_cases c : 1 ≤ e ∧ e ≤ (g.1.length : Int)
  · rw [if_neg (by simp [c.1, c.2]), wrap_id (by omega), if_pos (by omega), if_pos (by omega), if_pos c]
  · rw [if_pos (by rw [← Bool.decide_and, decide_eq_false c]; rfl), if_neg c])

def memberAt (g : TGroup) (i : Nat) : TMember := g.2.1.getD i noMember
def leadsView (g : TGroup) (m : TMember) : Bool := !((viewAt g m.2.1).length == 0) && (viewAt g m.2.1).getD 0 0 == m.1
def oneServes (g : TGroup) : Bool := (List.range g.2.1.length).all fun i => !(memberAt g i).2.2.2.2.2.1 || (leadsView g (memberAt g i) && (List.range i).all fun k => !((memberAt g k).2.2.2.2.2.1 && (memberAt g k).2.1 == (memberAt g i).2.1))

theorem F_spec_OneServes_eq (g : TGroup) (h1 : g.1.length ≤ maxLen) (h2 : g.2.1.length ≤ maxLen) : F_spec_OneServes g = some (oneServes g) := f_spec_OneServes (by
  have hm1 : g.1.length ≤ 9223372036854775807 := h1
  have hm2 : g.2.1.length ≤ 9223372036854775807 := h2
  unfold t_spec_OneServes
  have key := all_loop0 (n := g.2.1.length) (L := fun i => W_spec_OneServes_L0 (i : Int) g) (b := fun i => !(memberAt g i).2.2.2.2.2.1 || (leadsView g (memberAt g i) && (List.range i).all fun k => !((memberAt g k).2.2.2.2.2.1 && (memberAt g k).2.1 == (memberAt g i).2.1))) (e := true) (s := false) (w_spec_OneServes_L0 (by
    unfold t_spec_OneServes_L0
    rw [if_neg (by simp)])) (fun i hi w hw => w_spec_OneServes_L0 (by
    unfold t_spec_OneServes_L0
    have hgd : (g.2.1.getD (i : Int).toNat ((0 : Int), (0 : Int), false, false, false, false, ([] : List Int), ([] : List TItem), (0 : Int), (0 : Int), (0 : Int), (0 : Int), (ByteArray.empty, ByteArray.empty, (0 : Int)), ([] : List Int))) = memberAt g i := rfl
    rw [if_pos (by simpa using hi), if_pos (by omega), if_pos (by omega)]
    simp only [hgd, F_spec_l01In_eq, Option.bind_some, wrap_succ (show i < 9223372036854775807 by omega), hw]
    have inner : W_spec_OneServes_L1 (i : Int) 0 g (memberAt g i) = some (if (List.range i).all (fun k => !((memberAt g k).2.2.2.2.2.1 && (memberAt g k).2.1 == (memberAt g i).2.1)) = true then w else false) := by
      refine all_loop0 (n := i) (L := fun k => W_spec_OneServes_L1 (i : Int) (k : Int) g (memberAt g i)) (w_spec_OneServes_L1 (by
        unfold t_spec_OneServes_L1
        rw [if_neg (by simp), wrap_succ (show i < 9223372036854775807 by omega)]
        exact hw)) (fun k hk u hu => w_spec_OneServes_L1 (by
        unfold t_spec_OneServes_L1
        have hgk : (g.2.1.getD (k : Int).toNat ((0 : Int), (0 : Int), false, false, false, false, ([] : List Int), ([] : List TItem), (0 : Int), (0 : Int), (0 : Int), (0 : Int), (ByteArray.empty, ByteArray.empty, (0 : Int)), ([] : List Int))) = memberAt g k := rfl
        rw [if_pos (by simpa using hk), if_pos (by omega), if_pos (by omega)]
        simp only [hgk, show (0 : Int) ≤ (k : Int) from by omega, show (k : Int) < (g.2.1.length : Int) from by omega, if_true, wrap_succ (show k < 9223372036854775807 by omega), hu]
        cases (memberAt g k).2.2.2.2.2.1 <;> cases ((memberAt g k).2.1 == (memberAt g i).2.1) <;> simp))
    generalize (List.range i).all (fun k => !((memberAt g k).2.2.2.2.2.1 && (memberAt g k).2.1 == (memberAt g i).2.1)) = q at inner ⊢
    cases hs : (memberAt g i).2.2.2.2.2.1
    · simp
    · simp only [Bool.not_true, Bool.false_or, Bool.false_eq_true, if_false]
      unfold leadsView viewAt
      by_cases c : 1 ≤ (memberAt g i).2.1 ∧ (memberAt g i).2.1 ≤ (g.1.length : Int)
      · rw [if_neg (by simp [c.1, c.2]), wrap_id (by omega), if_pos (by omega), if_pos (by omega), if_pos c]
        generalize g.1.getD ((memberAt g i).2.1 - 1).toNat [] = v
        by_cases c2 : v.length = 0
        · rw [if_pos (by simp [c2])]
          simp [c2]
        · rw [if_neg (by simp only [beq_iff_eq]; omega), if_pos (by omega), if_pos (by omega), if_pos (by omega), if_pos (by omega), Int.toNat_zero]
          have hv : (!v.length == 0) = true := by simp [c2]
          by_cases c3 : v.getD 0 0 = (memberAt g i).1
          · rw [if_neg (by simpa using c3), inner, hv, c3, beq_self_eq_true, Bool.true_and, Bool.true_and]
          · rw [if_pos (by simpa using c3)]
            have hv2 : (v.getD 0 0 == (memberAt g i).1) = false := by simpa using c3
            rw [hv2]
            simp
      · rw [if_pos (by rw [← Bool.decide_and, decide_eq_false c]; rfl), if_neg c]
        simp))
  rw [ite_tt] at key
  exact key)

theorem F_impl_OneServes_eq (g : TGroup) (h1 : g.1.length ≤ maxLen) (h2 : g.2.1.length ≤ maxLen) : F_impl_OneServes g = some (oneServes g) := f_impl_OneServes (by
  have hm1 : g.1.length ≤ 9223372036854775807 := h1
  have hm2 : g.2.1.length ≤ 9223372036854775807 := h2
  unfold t_impl_OneServes
  have key := all_loop0 (n := g.2.1.length) (L := fun i => W_impl_OneServes_L0 g.2.1 (g.2.1.length : Int) (i : Int) g.1 g.2.1 g.2.2.1 g.2.2.2) (b := fun i => !(memberAt g i).2.2.2.2.2.1 || (leadsView g (memberAt g i) && (List.range i).all fun k => !((memberAt g k).2.2.2.2.2.1 && (memberAt g k).2.1 == (memberAt g i).2.1))) (e := true) (s := false) (w_impl_OneServes_L0 (by
    unfold t_impl_OneServes_L0
    rw [if_neg (by simp)])) (fun i hi w hw => w_impl_OneServes_L0 (by
    unfold t_impl_OneServes_L0
    have hgd : (g.2.1.getD (i : Int).toNat ((0 : Int), (0 : Int), false, false, false, false, ([] : List Int), ([] : List TItem), (0 : Int), (0 : Int), (0 : Int), (0 : Int), (ByteArray.empty, ByteArray.empty, (0 : Int)), ([] : List Int))) = memberAt g i := rfl
    rw [if_pos (by simpa using hi), if_pos (by omega), if_pos (by omega)]
    simp only [hgd, F_impl_Group_view_eq _ (g.1, g.2.1, g.2.2.1, g.2.2.2) h1, Option.bind_some, wrap_succ (show i < 9223372036854775807 by omega), hw]
    have inner : ∀ b, W_impl_OneServes_J1 (i : Int) g.2.1 (g.2.1.length : Int) (i : Int) b g (memberAt g i) = some (if (List.range i).all (fun k => !((memberAt g k).2.2.2.2.2.1 && (memberAt g k).2.1 == (memberAt g i).2.1)) = true then w else false) := fun b => w_impl_OneServes_J1 (by
      unfold t_impl_OneServes_J1
      have hl : ((g.2.1.take (i : Int).toNat).drop (0 : Int).toNat) = g.2.1.take i := by simp
      have hl2 : (g.2.1.take i).length = i := by rw [List.length_take]; omega
      rw [if_pos (by omega), if_pos (by omega), if_pos (by omega), hl, hl2]
      refine all_loop0 (n := i) (L := fun k => W_impl_OneServes_L2 g.2.1 (g.2.1.length : Int) (i : Int) (g.2.1.take i) (i : Int) (k : Int) g (memberAt g i)) (w_impl_OneServes_L2 (by
        unfold t_impl_OneServes_L2
        rw [if_neg (by simp), wrap_succ (show i < 9223372036854775807 by omega)]
        exact hw)) (fun k hk u hu => w_impl_OneServes_L2 (by
        unfold t_impl_OneServes_L2
        have hgk : ((g.2.1.take i).getD (k : Int).toNat ((0 : Int), (0 : Int), false, false, false, false, ([] : List Int), ([] : List TItem), (0 : Int), (0 : Int), (0 : Int), (0 : Int), (ByteArray.empty, ByteArray.empty, (0 : Int)), ([] : List Int))) = memberAt g k := by
          show (g.2.1.take i).getD k noMember = g.2.1.getD k noMember
          rw [getD_at (by omega), getD_at (by omega), List.getElem_take]
        rw [if_pos (by simpa using hk), if_pos (by omega), if_pos (by omega)]
        simp only [hgk, if_true, wrap_succ (show k < 9223372036854775807 by omega), hu]
        cases (memberAt g k).2.2.2.2.2.1 <;> cases ((memberAt g k).2.1 == (memberAt g i).2.1) <;> simp)))
    generalize (List.range i).all (fun k => !((memberAt g k).2.2.2.2.2.1 && (memberAt g k).2.1 == (memberAt g i).2.1)) = q at inner ⊢
    have hview : viewAt (g.1, g.2.1, g.2.2.1, g.2.2.2) (memberAt g i).2.1 = viewAt g (memberAt g i).2.1 := rfl
    rw [hview]
    cases hs : (memberAt g i).2.2.2.2.2.1
    · simp
    · simp only [Bool.not_true, Bool.false_or, Bool.false_eq_true, if_false]
      unfold leadsView
      generalize viewAt g (memberAt g i).2.1 = v
      by_cases c2 : v.length = 0
      · rw [if_pos (by simp [c2])]
        simp [c2]
      · rw [if_neg (by simp only [beq_iff_eq]; omega), if_pos (by omega), if_pos (by omega), Int.toNat_zero]
        have hv : (!v.length == 0) = true := by simp [c2]
        by_cases c3 : v.getD 0 0 = (memberAt g i).1
        · rw [if_neg (by simpa using c3), show ((g.1, g.2.1, g.2.2.1, g.2.2.2) : TGroup) = g from rfl, inner, hv, c3, beq_self_eq_true, Bool.true_and, Bool.true_and]
        · rw [if_pos (by simpa using c3)]
          have hv2 : (v.getD 0 0 == (memberAt g i).1) = false := by simpa using c3
          rw [hv2]
          simp))
  rw [ite_tt] at key
  exact key)

theorem law_FnExactOneServes (x) (hx : Kd.ok k_Group x) : F_laws_FnExactOneServes x = some true := f_laws_FnExactOneServes (by
  unfold t_laws_FnExactOneServes
  obtain ⟨r, hr, ho⟩ := sz_laws_szGroup x 1048576 hx (by omega)
  rw [hr, Option.bind_some]
  by_cases h2 : r < 0
  · rw [if_pos (by simpa using h2)]
  · have hs := (ho.resolve_left h2).1
    rw [if_neg (by simpa using h2)]
    simp [to_laws_toGroup x hs, F_spec_OneServes_eq x hx.1.1 hx.2.1.1, F_impl_OneServes_eq x hx.1.1 hx.2.1.1, eq_laws_eqGroup x hs, eqK])

end Go.Proofs.Ytnbfkndicldppaa.Core
