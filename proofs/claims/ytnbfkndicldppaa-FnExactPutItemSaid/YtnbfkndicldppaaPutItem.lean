/- What PutItem gives, in the program and in the reference: the same. -/
import Derived.Test.YtnbfkndicldppaaItemsOk
namespace Go.Proofs.Ytnbfkndicldppaa.Core
open Go
set_option linter.unusedVariables false

abbrev TItem : Type := ByteArray × ByteArray × Int
abbrev ZItem : TItem := (ByteArray.empty, ByteArray.empty, (0 : Int))

theorem bl_irrefl : ∀ a : List UInt8, Op.bytesLess a a = false
  | [] => rfl
  | a :: l => by simp [Op.bytesLess, bl_irrefl l, UInt8.lt_irrefl]
theorem bl_trans : ∀ {a b c : List UInt8}, Op.bytesLess a b = true → Op.bytesLess b c = true → Op.bytesLess a c = true
  | _, [], _, h, _ => by cases ‹List UInt8› <;> simp [Op.bytesLess] at h
  | _, _ :: _, [], _, h => by simp [Op.bytesLess] at h
  | [], _ :: _, _ :: _, _, _ => rfl
  | a :: x, b :: y, c :: z, h, g => by
    simp only [Op.bytesLess, Bool.or_eq_true, decide_eq_true_eq, Bool.and_eq_true, beq_iff_eq] at h g ⊢
    rcases h with h | ⟨rfl, h⟩
    · rcases g with g | ⟨rfl, g⟩
      · exact .inl (UInt8.lt_trans h g)
      · exact .inl h
    · rcases g with g | ⟨rfl, g⟩
      · exact .inl g
      · exact .inr ⟨rfl, bl_trans h g⟩
theorem cmp_laws : ∀ a b : List UInt8, decide (Lib.compareBytes a b < 0) = Op.bytesLess a b ∧ (Lib.compareBytes a b == 0) = (a == b)
  | [], [] => ⟨rfl, rfl⟩
  | [], _ :: _ => ⟨rfl, rfl⟩
  | _ :: _, [] => ⟨rfl, rfl⟩
  | a :: l, b :: m => by
    have ih := cmp_laws l m
    simp only [Lib.compareBytes, Op.bytesLess]
    by_cases h1 : a < b
    · have h3 : ¬ a = b := fun h => by subst h; exact absurd h1 (UInt8.lt_irrefl _)
      simp [h1, h3]
    · by_cases h2 : b < a
      · have h3 : ¬ a = b := fun h => by subst h; exact absurd h2 (UInt8.lt_irrefl _)
        simp [h1, h2, h3]
      · have h3 : a = b := UInt8.le_antisymm (UInt8.not_lt.1 h2) (UInt8.not_lt.1 h1)
        subst h3
        simpa [h1] using ih

theorem F_impl_PutItem_1_eq (a : TItem) (k : ByteArray) : F_impl_PutItem_1 a k = some (Lib.compareBytes a.1.toList k.toList) := f_impl_PutItem_1 (by
  unfold t_impl_PutItem_1
  rw [f_strings_Compare, ByteArray.toList_eq, ByteArray.toList_eq]
  rfl)

/-- The item at a place has this key. -/
def hasAt (x : List TItem) (i : Nat) (k : ByteArray) : Bool := match x[i]? with
  | some b => b.1.toList == k.toList
  | none => false
def low (k : ByteArray) (b : TItem) : Bool := Op.bytesLess b.1.toList k.toList
/-- Items in the order of their keys. -/
def inOrder (x : List TItem) : Prop := ∀ a b (ha : a < x.length) (hb : b < x.length), a < b → Op.bytesLess x[a].1.toList x[b].1.toList = true
def cutAt (x : List TItem) (k : ByteArray) (i j : Nat) : Prop := ∀ a (ha : a < x.length), (a < i → low k x[a] = true) ∧ (j ≤ a → low k x[a] = false)

theorem mid_eq {i j : Nat} (h : i + j ≤ 137438953472) : IntKind.i64.wrap (Int.fdiv (IntKind.u64.wrap (IntKind.i64.wrap ((i : Int) + (j : Int)))) (2 ^ (min (1 : Int).toNat (IntKind.bits .u64)))) = (((i + j) / 2 : Nat) : Int) := by
  have e1 : IntKind.i64.wrap ((i : Int) + (j : Int)) = ((i + j : Nat) : Int) := by rw [wrap_id (by omega)]; omega
  have e2 : IntKind.u64.wrap ((i + j : Nat) : Int) = ((i + j : Nat) : Int) := by
    simp only [IntKind.wrap, IntKind.bits, IntKind.signed]
    simp
    omega
  have e3 : (2 : Int) ^ (min (1 : Int).toNat (IntKind.bits .u64)) = 2 := by decide
  rw [e1, e2, e3, Int.fdiv_eq_ediv_of_nonneg _ (by omega)]
  rw [wrap_id (by omega)]
  omega

theorem search_loop (x : List TItem) (k : ByteArray) (hx : x.length ≤ 68719476736) : ∀ (m i j : Nat), j - i ≤ m → i ≤ j → j ≤ x.length →
    ∃ r : Nat, i ≤ r ∧ r ≤ j ∧ W_slices_BinarySearchFunc_impl_Item_impl_Item_string_L0 x k (x.length : Int) (i : Int) (j : Int) = some ((r : Int), hasAt x r k) ∧ (inOrder x → cutAt x k i j → cutAt x k r r) := by
  intro m
  induction m with
  | zero =>
    intro i j hm hij hj
    have : i = j := by omega
    subst this
    refine ⟨i, Nat.le_refl _, Nat.le_refl _, w_slices_BinarySearchFunc_impl_Item_impl_Item_string_L0 ?_, fun _ h => h⟩
    unfold t_slices_BinarySearchFunc_impl_Item_impl_Item_string_L0
    rw [if_neg (by simp)]
    refine w_slices_BinarySearchFunc_impl_Item_impl_Item_string_J1 ?_
    unfold t_slices_BinarySearchFunc_impl_Item_impl_Item_string_J1 hasAt
    by_cases h : i < x.length
    · simp only [show ((i : Int) < (x.length : Int)) from by omega, decide_true, if_true, show (0 : Int) ≤ (i : Int) from by omega, Int.toNat_natCast, getD_at h, F_impl_PutItem_1_eq, Option.bind_some, (cmp_laws _ _).2, List.getElem?_eq_getElem h]
    · rw [if_neg (by simp; omega), List.getElem?_eq_none (by omega)]
  | succ m ih =>
    intro i j hm hij hj
    by_cases hlt : i < j
    · have hmid : i ≤ (i + j) / 2 ∧ (i + j) / 2 < j := by omega
      generalize hh : (i + j) / 2 = h at hmid
      have hb : h < x.length := by omega
      have step : ∀ r, (if low k x[h] = true then W_slices_BinarySearchFunc_impl_Item_impl_Item_string_L0 x k (x.length : Int) ((h + 1 : Nat) : Int) (j : Int) else W_slices_BinarySearchFunc_impl_Item_impl_Item_string_L0 x k (x.length : Int) (i : Int) (h : Int)) = some r → W_slices_BinarySearchFunc_impl_Item_impl_Item_string_L0 x k (x.length : Int) (i : Int) (j : Int) = some r := fun r hr => w_slices_BinarySearchFunc_impl_Item_impl_Item_string_L0 (by
        unfold t_slices_BinarySearchFunc_impl_Item_impl_Item_string_L0
        simp only [show ((i : Int) < (j : Int)) from by omega, decide_true, if_true, mid_eq (show i + j ≤ 137438953472 by omega), hh, show ¬ ((1 : Int) < 0) from by decide, if_false, show ((0 : Int) ≤ (h : Int)) from by omega, show ((h : Int) < (x.length : Int)) from by omega, Int.toNat_natCast, getD_at hb, F_impl_PutItem_1_eq, Option.bind_some, (cmp_laws _ _).1, wrap_succ (show h < 9223372036854775807 by omega)]
        exact hr)
      cases hl : low k x[h] with
      | true =>
        obtain ⟨r, h1, h2, h3, h4⟩ := ih (h + 1) j (by omega) (by omega) hj
        refine ⟨r, by omega, h2, step _ (by rw [hl]; exact h3), fun ho hc => h4 ho fun a ha => ⟨fun hlt => ?_, (hc a ha).2⟩⟩
        by_cases e : a = h
        · subst e; exact hl
        · exact bl_trans (ho a h ha hb (by omega)) hl
      | false =>
        obtain ⟨r, h1, h2, h3, h4⟩ := ih i h (by omega) hmid.1 (by omega)
        refine ⟨r, h1, by omega, step _ (by rw [hl]; exact h3), fun ho hc => h4 ho fun a ha => ⟨(hc a ha).1, fun hle => ?_⟩⟩
        by_cases e : a = h
        · subst e; exact hl
        · cases q : low k x[a] with
          | false => rfl
          | true =>
            have := bl_trans (ho h a hb ha (by omega)) q
            rw [show Op.bytesLess x[h].1.toList k.toList = false from hl] at this
            cases this
    · have : i = j := by omega
      subst this
      exact ih i i (by omega) (Nat.le_refl _) hj

theorem search_ok (x : List TItem) (k : ByteArray) (hx : x.length ≤ 68719476736) : ∃ r : Nat, r ≤ x.length ∧ F_slices_BinarySearchFunc_impl_Item_impl_Item_string x k () = some ((r : Int), hasAt x r k) ∧ (inOrder x → cutAt x k r r) := by
  obtain ⟨r, _, h2, h3, h4⟩ := search_loop x k hx x.length 0 x.length (by omega) (by omega) (Nat.le_refl _)
  refine ⟨r, h2, f_slices_BinarySearchFunc_impl_Item_impl_Item_string (by unfold t_slices_BinarySearchFunc_impl_Item_impl_Item_string; exact h3), fun ho => h4 ho fun a ha => ⟨fun h => by omega, fun h => by omega⟩⟩

/-- Good items are in order. -/
theorem itemsFrom_step {x : List TItem} : ∀ (m i : Nat), itemsFrom x i m = true → ∀ a, i ≤ a → a < i + m → a ≠ 0 → Op.bytesLess (x.getD (a - 1) ZItem).1.toList (x.getD a ZItem).1.toList = true
  | 0, i, _, a, h1, h2, _ => by omega
  | m + 1, i, h, a, h1, h2, h0 => by
    simp only [itemsFrom, Bool.and_eq_true, Bool.or_eq_true, decide_eq_true_eq] at h
    obtain ⟨⟨_, h3⟩, h4⟩ := h
    by_cases e : a = i
    · subst e
      exact h3.resolve_left h0
    · exact itemsFrom_step m (i + 1) h4 a (by omega) (by omega) h0
theorem order_of {x : List TItem} (h : itemsFrom x 0 x.length = true) : inOrder x := by
  have st := itemsFrom_step _ _ h
  have : ∀ d a (ha : a + d + 1 < x.length), Op.bytesLess (x.getD a ZItem).1.toList (x.getD (a + d + 1) ZItem).1.toList = true := by
    intro d
    induction d with
    | zero => intro a ha; exact st (a + 1) (by omega) (by omega) (by omega)
    | succ d ih =>
      intro a ha
      exact bl_trans (ih a (by omega)) (st (a + (d + 1) + 1) (by omega) (by omega) (by omega))
  intro a b ha hb hab
  have := this (b - a - 1) a (by omega)
  rw [show a + (b - a - 1) + 1 = b by omega, getD_at ha, getD_at hb] at this
  exact this

theorem cut_take {x : List TItem} {k : ByteArray} {r : Nat} (hr : r ≤ x.length) (h : cutAt x k r r) : x.take r = x.filter (low k) ∧ x.drop r = x.filter (fun b => !low k b) := by
  have e1 : (x.take r).filter (low k) = x.take r := List.filter_eq_self.2 fun b hb => by
    obtain ⟨a, ha, rfl⟩ := List.getElem_of_mem hb
    rw [List.length_take] at ha
    rw [List.getElem_take]
    exact (h a (by omega)).1 (by omega)
  have e2 : (x.drop r).filter (low k) = [] := List.filter_eq_nil_iff.2 fun b hb => by
    obtain ⟨a, ha, rfl⟩ := List.getElem_of_mem hb
    rw [List.length_drop] at ha
    rw [List.getElem_drop]
    have := (h (r + a) (by omega)).2 (by omega)
    simp [this]
  have e3 : (x.take r).filter (fun b => !low k b) = [] := List.filter_eq_nil_iff.2 fun b hb => by
    obtain ⟨a, ha, rfl⟩ := List.getElem_of_mem hb
    rw [List.length_take] at ha
    rw [List.getElem_take]
    have := (h a (by omega)).1 (by omega)
    simp [this]
  have e4 : (x.drop r).filter (fun b => !low k b) = x.drop r := List.filter_eq_self.2 fun b hb => by
    obtain ⟨a, ha, rfl⟩ := List.getElem_of_mem hb
    rw [List.length_drop] at ha
    rw [List.getElem_drop]
    have := (h (r + a) (by omega)).2 (by omega)
    simp [this]
  have f1 : x.filter (low k) = (x.take r).filter (low k) ++ (x.drop r).filter (low k) := by rw [← List.filter_append, List.take_append_drop]
  have f2 : x.filter (fun b => !low k b) = (x.take r).filter (fun b => !low k b) ++ (x.drop r).filter (fun b => !low k b) := by rw [← List.filter_append, List.take_append_drop]
  rw [f1, f2, e1, e2, e3, e4]
  simp

theorem key_at {x : List TItem} {k : ByteArray} {r : Nat} (ho : inOrder x) (h : cutAt x k r r) (j : Nat) (hj : j < x.length) (e : x[j].1.toList = k.toList) : j = r := by
  rcases Nat.lt_trichotomy j r with g | g | g
  · have := (h j hj).1 g
    simp only [low, e, bl_irrefl] at this
    cases this
  · exact g
  · have h1 := ho r j (by omega) hj g
    have h2 := (h r (by omega)).2 (Nat.le_refl _)
    rw [e] at h1
    rw [show low k x[r] = true from h1] at h2
    cases h2

def stale (x : List TItem) (a : TItem) : Bool := x.any fun b => (b.1.toList == a.1.toList) && decide (b.2.2 ≥ a.2.2)
def high (k : ByteArray) (b : TItem) : Bool := !(Op.bytesLess b.1.toList k.toList || (b.1.toList == k.toList))
def laid (x : List TItem) (a : TItem) : List TItem := x.filter (low a.1) ++ [a] ++ x.filter (high a.1)
def itemsOk (x : List TItem) : Bool := itemsFrom x 0 x.length
/-- What PutItem gives. -/
def putItem (x : List TItem) (a : TItem) : List TItem := if stale x a = true then x else if itemsOk x = true then (if itemsOk (laid x a) = true then laid x a else x) else x

theorem laid_length (x : List TItem) (a : TItem) : (laid x a).length ≤ 2 * x.length + 1 := by
  simp only [laid, List.length_append, List.length_cons, List.length_nil]
  have h1 := List.length_filter_le (low a.1) x
  have h2 := List.length_filter_le (high a.1) x
  omega

theorem high_split {x : List TItem} {k : ByteArray} {r : Nat} (hr : r ≤ x.length) (h : cutAt x k r r) : x.filter (high k) = (x.drop r).filter fun b => !(b.1.toList == k.toList) := by
  rw [(cut_take hr h).2, List.filter_filter]
  congr 1
  funext b
  simp only [high, low, Bool.not_or]
  exact Bool.and_comm _ _

theorem F_spec_PutItem_eq (x : List TItem) (a : TItem) (hx : x.length ≤ 34359738367) : F_spec_PutItem x a = some (putItem x a) := f_spec_PutItem (by
  have J4 : ∀ same out : List TItem, out.length ≤ maxLen → W_spec_PutItem_J4 x a same out = some (if itemsOk x = true then (if itemsOk out = true then out else same) else same) := fun same out ho => w_spec_PutItem_J4 (by
    unfold t_spec_PutItem_J4 itemsOk
    rw [F_spec_ItemsOk_eq x (by unfold maxLen; omega), F_spec_ItemsOk_eq out ho]
    cases itemsFrom x 0 x.length <;> cases itemsFrom out 0 out.length <;> simp)
  have L3 : ∀ same out : List TItem, out.length ≤ x.length + 1 → W_spec_PutItem_L3 x ((0 : Nat) : Int) a same out = some (if itemsOk x = true then (if itemsOk (out ++ (x.drop 0).filter (high a.1)) = true then out ++ (x.drop 0).filter (high a.1) else same) else same) := by
    intro same out ho
    refine down (n := x.length) (P := fun i => ∀ out : List TItem, out.length ≤ x.length + 1 + i → W_spec_PutItem_L3 x (i : Int) a same out = some (if itemsOk x = true then (if itemsOk (out ++ (x.drop i).filter (high a.1)) = true then out ++ (x.drop i).filter (high a.1) else same) else same)) (fun out ho => w_spec_PutItem_L3 ?_) (fun i hi ih out ho => w_spec_PutItem_L3 ?_) 0 (by omega) out ho
    · unfold t_spec_PutItem_L3
      rw [if_neg (by simp), J4 same out (by unfold maxLen; omega)]
      simp
    · unfold t_spec_PutItem_L3
      simp only [show ((i : Int) < (x.length : Int)) from by omega, decide_true, if_true, show (0 : Int) ≤ (i : Int) from by omega, Int.toNat_natCast, getD_at hi, wrap_succ (show i < 9223372036854775807 by omega)]
      rw [drop_cons hi, List.filter_cons]
      change (if high a.1 x[i] = true then _ else _) = _
      by_cases hh : high a.1 x[i] = true
      · rw [if_pos hh, if_pos (by simp; omega), ih _ (by simp; omega), if_pos hh, List.append_assoc]
        rfl
      · rw [if_neg hh, ih _ (by omega), if_neg hh]
  have J2 : ∀ same out : List TItem, out.length ≤ x.length → W_spec_PutItem_J2 x a same out = some (if itemsOk x = true then (if itemsOk (out ++ [a] ++ x.filter (high a.1)) = true then out ++ [a] ++ x.filter (high a.1) else same) else same) := fun same out ho => w_spec_PutItem_J2 (by
    unfold t_spec_PutItem_J2
    rw [if_pos (by simp; omega)]
    have := L3 same (out ++ [a]) (by simp; omega)
    simpa using this)
  have L0 : ∀ same : List TItem, W_spec_PutItem_L0 x ((0 : Nat) : Int) a same [] = some (if stale (x.drop 0) a = true then same else if itemsOk x = true then (if itemsOk (([] ++ (x.drop 0).filter (low a.1)) ++ [a] ++ x.filter (high a.1)) = true then ([] ++ (x.drop 0).filter (low a.1)) ++ [a] ++ x.filter (high a.1) else same) else same) := by
    intro same
    refine down (n := x.length) (P := fun i => ∀ out : List TItem, out.length ≤ i → W_spec_PutItem_L0 x (i : Int) a same out = some (if stale (x.drop i) a = true then same else if itemsOk x = true then (if itemsOk ((out ++ (x.drop i).filter (low a.1)) ++ [a] ++ x.filter (high a.1)) = true then (out ++ (x.drop i).filter (low a.1)) ++ [a] ++ x.filter (high a.1) else same) else same)) (fun out ho => w_spec_PutItem_L0 ?_) (fun i hi ih out ho => w_spec_PutItem_L0 ?_) 0 (by omega) [] (by simp)
    · unfold t_spec_PutItem_L0
      rw [if_neg (by simp), J2 same out ho]
      simp [stale]
    · unfold t_spec_PutItem_L0
      simp only [show ((i : Int) < (x.length : Int)) from by omega, decide_true, if_true, show (0 : Int) ≤ (i : Int) from by omega, Int.toNat_natCast, getD_at hi]
      have J1 : ∀ out : List TItem, out.length ≤ i + 1 → W_spec_PutItem_J1 x (i : Int) a same out = some (if stale (x.drop i) a = true then same else if itemsOk x = true then (if itemsOk ((out ++ (x.drop (i + 1)).filter (low a.1)) ++ [a] ++ x.filter (high a.1)) = true then (out ++ (x.drop (i + 1)).filter (low a.1)) ++ [a] ++ x.filter (high a.1) else same) else same) := fun out ho => w_spec_PutItem_J1 (by
        unfold t_spec_PutItem_J1
        simp only [show ((i : Int) < (x.length : Int)) from by omega, decide_true, if_true, show (0 : Int) ≤ (i : Int) from by omega, Int.toNat_natCast, getD_at hi, wrap_succ (show i < 9223372036854775807 by omega), ih out ho]
        rw [drop_cons hi]
        rw [show stale (x[i] :: x.drop (i + 1)) a = (((x[i].1.toList == a.1.toList) && decide (x[i].2.2 ≥ a.2.2)) || stale (x.drop (i + 1)) a) from List.any_cons]
        generalize (x[i].1.toList == a.1.toList) = p
        generalize decide (x[i].2.2 ≥ a.2.2) = q
        cases p <;> cases q <;> simp)
      rw [drop_cons hi, List.filter_cons]
      change (if low a.1 x[i] = true then _ else _) = _
      rw [drop_cons hi] at J1
      by_cases hh : low a.1 x[i] = true
      · rw [if_pos hh, if_pos (by simp; omega), J1 _ (by simp; omega), if_pos hh]
        simp only [List.append_assoc, List.cons_append, List.nil_append]
      · rw [if_neg hh, J1 _ (by omega), if_neg hh]
  unfold t_spec_PutItem
  rw [if_pos (by simp; omega)]
  have := L0 ([] ++ x)
  simpa [putItem, laid] using this)

theorem stale_at {x : List TItem} {a : TItem} {r : Nat} (hr : r ≤ x.length) (ho : inOrder x) (h : cutAt x a.1 r r) : stale x a = (hasAt x r a.1 && decide ((x.getD r ZItem).2.2 ≥ a.2.2)) := by
  unfold stale hasAt
  by_cases hl : r < x.length
  · rw [List.getElem?_eq_getElem hl, getD_at hl]
    rw [Bool.eq_iff_iff, List.any_eq_true]
    simp only [Bool.and_eq_true, beq_iff_eq, decide_eq_true_eq]
    refine ⟨fun ⟨b, hb, e, hv⟩ => ?_, fun ⟨e, hv⟩ => ⟨_, List.getElem_mem hl, e, hv⟩⟩
    obtain ⟨j, hj, rfl⟩ := List.getElem_of_mem hb
    have := key_at ho h j hj e
    subst this
    exact ⟨e, hv⟩
  · rw [List.getElem?_eq_none (by omega), Bool.false_and, List.any_eq_false]
    intro b hb
    obtain ⟨j, hj, rfl⟩ := List.getElem_of_mem hb
    intro hc
    simp only [Bool.and_eq_true, beq_iff_eq] at hc
    have := key_at ho h j hj hc.1
    omega

theorem laid_at {x : List TItem} {a : TItem} {r : Nat} (hr : r ≤ x.length) (ho : inOrder x) (h : cutAt x a.1 r r) : laid x a = if hasAt x r a.1 = true then x.set r a else x.take r ++ [a] ++ x.drop r := by
  unfold laid
  rw [high_split hr h, ← (cut_take hr h).1]
  have hk : ∀ (j : Nat) (hj : j < x.length), j ≠ r → (x[j].1.toList == a.1.toList) = false := fun j hj hne => by
    cases q : (x[j].1.toList == a.1.toList) with
    | false => rfl
    | true => exact absurd (key_at ho h j hj (by simpa using q)) hne
  have tail : (x.drop (r + 1)).filter (fun b => !(b.1.toList == a.1.toList)) = x.drop (r + 1) := List.filter_eq_self.2 fun b hb => by
    obtain ⟨j, hj, rfl⟩ := List.getElem_of_mem hb
    rw [List.length_drop] at hj
    rw [List.getElem_drop, hk (r + 1 + j) (by omega) (by omega)]
    rfl
  by_cases hl : r < x.length
  · rw [drop_cons hl, List.filter_cons, tail]
    unfold hasAt
    rw [List.getElem?_eq_getElem hl]
    cases q : (x[r].1.toList == a.1.toList) with
    | true => simp [q, List.set_eq_take_append_cons_drop, hl]
    | false => simp [q]
  · have : x.drop r = [] := List.drop_eq_nil_of_le (by omega)
    rw [this]
    unfold hasAt
    rw [List.getElem?_eq_none (by omega)]
    simp

theorem F_impl_PutItem_eq (x : List TItem) (a : TItem) (hx : x.length ≤ 34359738367) : F_impl_PutItem x a = some (putItem x a) := f_impl_PutItem (by
  obtain ⟨r, hr, hs, hc⟩ := search_ok x a.1 (by omega)
  have ok : ∀ y : List TItem, y.length ≤ 68719476736 → F_impl_ItemsOk y = some (itemsOk y) := fun y hy => F_impl_ItemsOk_eq y (by unfold maxLen; omega) bytes_total
  have J1 : ∀ y : List TItem, y.length ≤ 68719476736 → W_impl_PutItem_J1 x a y = some (if itemsOk y = true then y else x) := fun y hy => w_impl_PutItem_J1 (by
    unfold t_impl_PutItem_J1
    rw [ok y hy, f_slices_Clone_impl_Item_impl_Item (by omega)]
    cases itemsOk y <;> simp)
  have hl : hasAt x r a.1 = true → r < x.length := fun h => by
    by_cases hl : r < x.length
    · exact hl
    · unfold hasAt at h
      rw [List.getElem?_eq_none (by omega)] at h
      cases h
  have J0 : ∀ b, itemsOk x = true → W_impl_PutItem_J0 x (r : Int) (hasAt x r a.1) b a x = some (if itemsOk (laid x a) = true then laid x a else x) := fun b hok => w_impl_PutItem_J0 (by
    unfold t_impl_PutItem_J0
    rw [laid_at hr (order_of hok) (hc (order_of hok))]
    cases hh : hasAt x r a.1 with
    | true =>
      have := hl hh
      simp only [if_true, show (0 : Int) ≤ (r : Int) from by omega, show ((r : Int) < (x.length : Int)) from by omega, Int.toNat_natCast]
      rw [J1 _ (by simp; omega)]
    | false =>
      rw [if_neg (by simp), f_slices_Insert_impl_Item_impl_Item (by simp; omega) hr (by simp), Option.bind_some, J1 _ (by simp; omega)]
      simp)
  unfold t_impl_PutItem
  rw [f_slices_Clone_impl_Item_impl_Item (by omega), Option.bind_some, hs, Option.bind_some, ok x (by omega), Option.bind_some]
  cases hok : itemsOk x with
  | false => simp [putItem, hok]
  | true =>
    have hst := stale_at hr (order_of hok) (hc (order_of hok))
    have j0 := J0
    unfold putItem
    rw [hst, hok]
    cases hh : hasAt x r a.1 with
    | false =>
      have := J0 false hok
      rw [hh] at this
      simp [this]
    | true =>
      have hlr := hl hh
      have := J0 false hok
      rw [hh] at this
      simp only [if_true, show (0 : Int) ≤ (r : Int) from by omega, show ((r : Int) < (x.length : Int)) from by omega, Int.toNat_natCast, Bool.true_and]
      cases q : decide ((x.getD r ZItem).2.2 ≥ a.2.2) with
      | true => simp
      | false => simp [this])

end Go.Proofs.Ytnbfkndicldppaa.Core
