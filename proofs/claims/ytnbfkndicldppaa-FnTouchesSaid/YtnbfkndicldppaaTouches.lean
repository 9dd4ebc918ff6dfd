/- FnTouches: a key that is touched in a drawn queue is the first one, the others stay in order; one that is dropped is gone. -/
import Derived.Test.YtnbfkndicldppaaDrawn
import Derived.Test.YtnbfkndicldppaaStamp
import Derived.Test.YtnbfkndicldppaaEventOk
namespace Go.Proofs.Ytnbfkndicldppaa.Core
open Go
set_option linter.unusedVariables false

theorem tl_eq (a b : ByteArray) : (a.toList == b.toList) = decide (a = b) := by
  rw [Bool.eq_iff_iff, beq_iff_eq, decide_eq_true_eq]
  refine ⟨fun h => ?_, fun h => by rw [h]⟩
  rw [ByteArray.toList_eq, ByteArray.toList_eq] at h
  cases a with
  | mk da =>
    cases b with
    | mk db =>
      have : da = db := by
        cases da
        cases db
        simpa using h
      rw [this]

theorem dropc {α : Type} {x : List α} {i : Nat} (h : i < x.length) : x.drop i = x[i] :: x.drop (i + 1) := List.drop_eq_getElem_cons h

/-- The list holds the key. -/
def hasK (x : List ByteArray) (k : ByteArray) : Bool := x.any fun b => decide (b = k)
theorem hasK_iff {x : List ByteArray} {k : ByteArray} : hasK x k = true ↔ k ∈ x := by
  simp [hasK]

abbrev TQueue : Type := Int × List ByteArray

/-- A queue that is right. -/
structure QOk (q : TQueue) : Prop where
  lo : 0 ≤ q.1
  hi : q.1 ≤ 24
  len : (q.2.length : Int) ≤ q.1
  keys : ∀ k ∈ q.2, 1 ≤ k.size ∧ k.size ≤ 12
  diff : q.2.Nodup

theorem index_at (x : List ByteArray) (k : ByteArray) (hx : x.length ≤ maxLen) (i : Nat) (hi : i < x.length) (he : x[i] = k) (hn : ∀ j (hj : j < i), x[j] ≠ k) : F_slices_Index_string_string x k = some (i : Int) := f_slices_Index_string_string (by
  have hm : x.length ≤ 9223372036854775807 := hx
  unfold t_slices_Index_string_string
  exact down (n := i) (P := fun j => W_slices_Index_string_string_L0 x k (x.length : Int) (j : Int) = some (i : Int)) (w_slices_Index_string_string_L0 (by
    unfold t_slices_Index_string_string_L0
    simp only [show ((i : Int) < (x.length : Int)) from by omega, decide_true, if_true, show (0 : Int) ≤ (i : Int) from by omega, Int.toNat_natCast, getD_at hi, he, tl_eq])) (fun j hj ih => w_slices_Index_string_string_L0 (by
    unfold t_slices_Index_string_string_L0
    have hjl : j < x.length := by omega
    simp only [show ((j : Int) < (x.length : Int)) from by omega, decide_true, if_true, show (0 : Int) ≤ (j : Int) from by omega, Int.toNat_natCast, getD_at hjl, tl_eq, wrap_succ (show j < 9223372036854775807 by omega), ih]
    rw [if_neg (by simpa using fun h => hn j hj h.symm)])) 0 (by omega))

theorem index_none (x : List ByteArray) (k : ByteArray) (hx : x.length ≤ maxLen) (hn : k ∉ x) : F_slices_Index_string_string x k = some (-1) := f_slices_Index_string_string (by
  have hm : x.length ≤ 9223372036854775807 := hx
  unfold t_slices_Index_string_string
  exact down (n := x.length) (P := fun j => W_slices_Index_string_string_L0 x k (x.length : Int) (j : Int) = some (-1)) (w_slices_Index_string_string_L0 (by
    unfold t_slices_Index_string_string_L0
    rw [if_neg (by simp)])) (fun j hj ih => w_slices_Index_string_string_L0 (by
    unfold t_slices_Index_string_string_L0
    simp only [show ((j : Int) < (x.length : Int)) from by omega, decide_true, if_true, show (0 : Int) ≤ (j : Int) from by omega, Int.toNat_natCast, getD_at hj, tl_eq, wrap_succ (show j < 9223372036854775807 by omega), ih]
    rw [if_neg (by simpa using fun h => hn (by rw [h]; exact List.getElem_mem hj))])) 0 (by omega))

theorem impl_HasKey_eq (q : TQueue) (k : ByteArray) (hx : q.2.length ≤ maxLen) (hd : q.2.Nodup) : F_impl_HasKey q k = some (hasK q.2 k) := f_impl_HasKey (by
  unfold t_impl_HasKey
  have : F_slices_Contains_string_string q.2 k = some (hasK q.2 k) := f_slices_Contains_string_string (by
    unfold t_slices_Contains_string_string
    by_cases h : k ∈ q.2
    · obtain ⟨i, hi, he⟩ := List.getElem_of_mem h
      rw [index_at q.2 k hx i hi he (fun j hj e => by
        have := (List.getElem_inj hd (i := i) (j := j) (h₀ := hi) (h₁ := by omega)).1 (by rw [he, e])
        omega)]
      rw [hasK_iff.2 h]
      simp
    · rw [index_none q.2 k hx h, Bool.eq_false_iff.2 (fun e => h (hasK_iff.1 e))]
      simp)
  rw [this]
  rfl)

theorem impl_QueueOk_true {q : TQueue} (h : QOk q) : F_impl_QueueOk q = some true := f_impl_QueueOk (by
  have hl : q.2.length ≤ 24 := by have := h.len; have := h.hi; omega
  have hx : q.2.length ≤ maxLen := by unfold maxLen; omega
  unfold t_impl_QueueOk
  exact down (n := q.2.length) (P := fun i => W_impl_QueueOk_L0 q.2 (q.2.length : Int) (i : Int) q.1 q.2 = some true) (w_impl_QueueOk_L0 (by
    unfold t_impl_QueueOk_L0
    rw [if_neg (by simp)]
    exact w_impl_QueueOk_J1 (by
      unfold t_impl_QueueOk_J1
      rw [F_impl_inRange_eq]
      have h1 := h.lo
      have h2 := h.hi
      have h3 := h.len
      simp [h1, h2, h3]))) (fun i hi ih => w_impl_QueueOk_L0 (by
    unfold t_impl_QueueOk_L0
    have hk := h.keys _ (List.getElem_mem hi)
    simp only [show ((i : Int) < (q.2.length : Int)) from by omega, decide_true, if_true, show (0 : Int) ≤ (i : Int) from by omega, Int.toNat_natCast, getD_at hi, F_impl_isKey_eq, Option.bind_some, wrap_succ (show i < 9223372036854775807 by omega), ih]
    rw [index_at q.2 _ hx i hi rfl (fun j hj e => by
      have := (List.getElem_inj h.diff (i := j) (j := i) (h₀ := by omega) (h₁ := hi)).1 e
      omega)]
    have h1 : (1 : Int) ≤ (q.2[i].size : Int) := by omega
    have h2 : (q.2[i].size : Int) ≤ 12 := by omega
    simp [h1, h2])) 0 (by omega))

theorem spec_QueueOk_true {q : TQueue} (h : QOk q) : F_spec_QueueOk q = some true := f_spec_QueueOk (by
  have hl : q.2.length ≤ 24 := by have := h.len; have := h.hi; omega
  have h1 := h.lo
  have h2 := h.hi
  have h3 := h.len
  unfold t_spec_QueueOk
  rw [F_spec_l01In_eq, Option.bind_some, if_pos (by simp [h1, h2]), if_neg (by simpa using h3)]
  exact down (n := q.2.length) (P := fun i => W_spec_QueueOk_L0 (i : Int) q = some true) (w_spec_QueueOk_L0 (by
    unfold t_spec_QueueOk_L0
    rw [if_neg (by simp)])) (fun i hi ih => w_spec_QueueOk_L0 (by
    unfold t_spec_QueueOk_L0
    have hk := h.keys _ (List.getElem_mem hi)
    have g1 : (1 : Int) ≤ (q.2[i].size : Int) := by omega
    have g2 : (q.2[i].size : Int) ≤ 12 := by omega
    have L1 := down (n := i) (P := fun j => W_spec_QueueOk_L1 (i : Int) (j : Int) q = some true) (w_spec_QueueOk_L1 (by
      unfold t_spec_QueueOk_L1
      rw [if_neg (by simp), wrap_succ (by omega), ih])) (fun j hj ihj => w_spec_QueueOk_L1 (by
      unfold t_spec_QueueOk_L1
      have hjl : j < q.2.length := by omega
      simp only [show ((j : Int) < (i : Int)) from by omega, show ((j : Int) < (q.2.length : Int)) from by omega, show ((i : Int) < (q.2.length : Int)) from by omega, decide_true, if_true, show (0 : Int) ≤ (i : Int) from by omega, show (0 : Int) ≤ (j : Int) from by omega, Int.toNat_natCast, getD_at hi, getD_at hjl, tl_eq, wrap_succ (show j < 9223372036854775807 by omega), ihj]
      rw [if_neg (by
        simp only [decide_eq_true_eq]
        intro e
        have := (List.getElem_inj h.diff (i := j) (j := i) (h₀ := hjl) (h₁ := hi)).1 e
        omega)])) 0 (by omega)
    have L1' : W_spec_QueueOk_L1 (i : Int) 0 q = some true := L1
    simp only [show ((i : Int) < (q.2.length : Int)) from by omega, decide_true, if_true, show (0 : Int) ≤ (i : Int) from by omega, Int.toNat_natCast, getD_at hi, F_spec_l01In_eq, Option.bind_some, L1']
    simp [g1, g2])) 0 (by omega))

theorem spec_HasKey_eq (q : TQueue) (k : ByteArray) (hx : q.2.length ≤ maxLen) : F_spec_HasKey q k = some (hasK q.2 k) := f_spec_HasKey (by
  have hm : q.2.length ≤ 9223372036854775807 := hx
  unfold t_spec_HasKey
  have := down (n := q.2.length) (P := fun i => W_spec_HasKey_L0 k (i : Int) q = some (hasK (q.2.drop i) k)) (w_spec_HasKey_L0 (by
    unfold t_spec_HasKey_L0
    rw [if_neg (by simp)]
    simp [hasK])) (fun i hi ih => w_spec_HasKey_L0 (by
    unfold t_spec_HasKey_L0
    simp only [show ((i : Int) < (q.2.length : Int)) from by omega, decide_true, if_true, show (0 : Int) ≤ (i : Int) from by omega, Int.toNat_natCast, getD_at hi, tl_eq, wrap_succ (show i < 9223372036854775807 by omega), ih]
    rw [dropc hi]
    rw [show hasK (q.2[i] :: q.2.drop (i + 1)) k = (decide (q.2[i] = k) || hasK (q.2.drop (i + 1)) k) from rfl]
    generalize hasK (q.2.drop (i + 1)) k = t
    by_cases e : q.2[i] = k <;> simp [e])) 0 (by omega)
  simpa using this)

theorem laws_has_eq (x : List ByteArray) (k : ByteArray) (hx : x.length ≤ maxLen) : F_laws_has x k = some (hasK x k) := f_laws_has (by
  have hm : x.length ≤ 9223372036854775807 := hx
  unfold t_laws_has
  have := down (n := x.length) (P := fun i => W_laws_has_L0 x k (i : Int) = some (hasK (x.drop i) k)) (w_laws_has_L0 (by
    unfold t_laws_has_L0
    rw [if_neg (by simp)]
    simp [hasK])) (fun i hi ih => w_laws_has_L0 (by
    unfold t_laws_has_L0
    simp only [show ((i : Int) < (x.length : Int)) from by omega, decide_true, if_true, show (0 : Int) ≤ (i : Int) from by omega, Int.toNat_natCast, getD_at hi, tl_eq, wrap_succ (show i < 9223372036854775807 by omega), ih]
    rw [dropc hi]
    rw [show hasK (x[i] :: x.drop (i + 1)) k = (decide (x[i] = k) || hasK (x.drop (i + 1)) k) from rfl]
    generalize hasK (x.drop (i + 1)) k = t
    by_cases e : x[i] = k <;> simp [e])) 0 (by omega)
  simpa using this)

theorem laws_without_eq (x : List ByteArray) (k : ByteArray) (hx : x.length ≤ 34359738367) : F_laws_without x k = some (x.filter fun b => !decide (b = k)) := f_laws_without (by
  unfold t_laws_without
  have := down (n := x.length) (P := fun i => ∀ z : List ByteArray, z.length ≤ i → W_laws_without_L0 x k (i : Int) z = some (z ++ (x.drop i).filter fun b => !decide (b = k))) (fun z _ => w_laws_without_L0 (by
    unfold t_laws_without_L0
    rw [if_neg (by simp)]
    simp)) (fun i hi ih z hz => w_laws_without_L0 (by
    unfold t_laws_without_L0
    simp only [show ((i : Int) < (x.length : Int)) from by omega, decide_true, if_true, show (0 : Int) ≤ (i : Int) from by omega, Int.toNat_natCast, getD_at hi, tl_eq, wrap_succ (show i < 9223372036854775807 by omega)]
    rw [dropc hi, List.filter_cons]
    by_cases e : x[i] = k
    · simp only [e, decide_true, Bool.not_true, if_neg Bool.false_ne_true]
      exact ih z (by omega)
    · simp only [e, decide_false, Bool.not_false, if_true]
      rw [if_pos (by simp; omega), ih _ (by simp; omega), List.append_assoc]
      rfl)) 0 (by omega) [] (by simp)
  simpa using this)

theorem laws_sameTexts_self (x : List ByteArray) (hx : x.length ≤ maxLen) : F_laws_sameTexts x x = some true := f_laws_sameTexts (by
  have hm : x.length ≤ 9223372036854775807 := hx
  unfold t_laws_sameTexts
  rw [if_neg (by simp)]
  exact down (n := x.length) (P := fun i => W_laws_sameTexts_L0 x x (i : Int) = some true) (w_laws_sameTexts_L0 (by
    unfold t_laws_sameTexts_L0
    rw [if_neg (by simp)])) (fun i hi ih => w_laws_sameTexts_L0 (by
    unfold t_laws_sameTexts_L0
    simp only [show ((i : Int) < (x.length : Int)) from by omega, decide_true, if_true, show (0 : Int) ≤ (i : Int) from by omega, Int.toNat_natCast, getD_at hi, tl_eq, wrap_succ (show i < 9223372036854775807 by omega), ih]
    simp)) 0 (by omega))

theorem QOk.small {q : TQueue} (h : QOk q) : q.2.length ≤ 24 := by have := h.len; have := h.hi; omega

theorem push_ok {q : TQueue} (h : QOk q) (h0 : 1 ≤ q.1) {k : ByteArray} (hk : 1 ≤ k.size ∧ k.size ≤ 12) : ∃ p l b, F_spec_Push q k = some (p, l, b) ∧ (b = true → QOk p ∧ p.1 = q.1) := by
  have hs := h.small
  have hx : q.2.length ≤ maxLen := by unfold maxLen; omega
  have J1 : ∀ (x : List ByteArray) l z y, x.length ≤ 25 → W_spec_Push_J1 x l q z y = some ((q.1, x), l, true) := fun x l z y hx => w_spec_Push_J1 (by
    unfold t_spec_Push_J1
    rw [if_pos (by simp; omega)]
    simp)
  have J0 : k ∉ q.2 → ∀ b z, ∃ p l, W_spec_Push_J0 k b q z = some (p, l, true) ∧ QOk p ∧ p.1 = q.1 := fun hn b z => by
    have hnd : (k :: q.2).Nodup := List.nodup_cons.2 ⟨hn, h.diff⟩
    have hks : ∀ a ∈ k :: q.2, 1 ≤ a.size ∧ a.size ≤ 12 := fun a ha => by
      rcases List.mem_cons.1 ha with rfl | ha
      · exact hk
      · exact h.keys a ha
    by_cases hl : ((k :: q.2).length : Int) > q.1
    · refine ⟨(q.1, (k :: q.2).take q.2.length), (k :: q.2).getD q.2.length ByteArray.empty, w_spec_Push_J0 ?_, ⟨h.lo, h.hi, ?_, fun a ha => hks a (List.mem_of_mem_take ha), hnd.sublist (List.take_sublist _ _)⟩, rfl⟩
      · unfold t_spec_Push_J0
        have hw : IntKind.i64.wrap (((([k] : List ByteArray) ++ q.2).length : Int) - 1) = (q.2.length : Int) := by
          simp only [List.length_append, List.length_cons, List.length_nil]
          rw [wrap_id (by omega)]
          omega
        rw [if_pos (by simp; omega), if_pos (by simpa using hl), hw]
        simp only [show (0 : Int) ≤ (q.2.length : Int) from by omega, show ((q.2.length : Int) < ((([k] : List ByteArray) ++ q.2).length : Int)) from by simp; omega, show ((q.2.length : Int) ≤ ((([k] : List ByteArray) ++ q.2).length : Int)) from by simp; omega, if_true, Int.toNat_natCast]
        rw [if_pos (Int.le_refl 0)]
        exact J1 _ _ _ _ (by simp; omega)
      · have := h.len
        simp only [List.length_take, List.length_cons]
        omega
    · refine ⟨(q.1, k :: q.2), (⟨#[]⟩ : ByteArray), w_spec_Push_J0 ?_, ⟨h.lo, h.hi, (by show ((k :: q.2).length : Int) ≤ q.1; omega), hks, hnd⟩, rfl⟩
      unfold t_spec_Push_J0
      rw [if_pos (by simp; omega), if_neg (by simpa using hl)]
      exact J1 _ _ _ _ (by simp; omega)
  have g1 : (1 : Int) ≤ (k.size : Int) := by omega
  have g2 : (k.size : Int) ≤ 12 := by omega
  suffices g : ∃ p l b, _ = some (p, l, b) ∧ (b = true → QOk p ∧ p.1 = q.1) from g.imp fun p g => g.imp fun l g => g.imp fun b g => ⟨f_spec_Push g.1, g.2⟩
  unfold t_spec_Push
  rw [spec_QueueOk_true h, Option.bind_some, if_pos (by simp), F_spec_l01In_eq, Option.bind_some, if_pos (by simp [g1, g2]), spec_HasKey_eq q k hx, Option.bind_some]
  by_cases hm : k ∈ q.2
  · rw [hasK_iff.2 hm, if_neg (by simp)]
    exact ⟨_, _, false, rfl, fun h => by cases h⟩
  · rw [Bool.eq_false_iff.2 (fun e => hm (hasK_iff.1 e)), if_pos rfl, if_neg (by simp; omega)]
    obtain ⟨p, l, e, g⟩ := J0 hm (q.1 == 0) (0, [])
    exact ⟨p, l, true, e, fun _ => g⟩

theorem l01Pick_ok (x : List ByteArray) (hx : 0 < x.length) (d : TDraw) (h : dOk d) : ∃ v d', F_spec_l01Pick x d = some (v, d') ∧ dOk d' ∧ v ∈ x := by
  obtain ⟨v, d', e, k, v0, v1⟩ := F_spec_l01Below_ok (x.length : Int) d h
  have v1 := v1 (by omega)
  have hv : v.toNat < x.length := by omega
  exact ⟨_, _, f_spec_l01Pick (by unfold t_spec_l01Pick; rw [e, Option.bind_some, if_pos v0, if_pos v1]), k, by rw [getD_at hv]; exact List.getElem_mem hv⟩

theorem l03Key_ok (d : TDraw) (h : dOk d) : ∃ k d', F_spec_l03Key d = some (k, d') ∧ dOk d' ∧ 1 ≤ k.size ∧ k.size ≤ 12 := by
  obtain ⟨k, d1, e1, k1, m1⟩ := l01Pick_ok [(⟨#[97]⟩ : ByteArray), (⟨#[98]⟩ : ByteArray), (⟨#[99]⟩ : ByteArray), (⟨#[100]⟩ : ByteArray), (⟨#[101]⟩ : ByteArray), (⟨#[102]⟩ : ByteArray), (⟨#[103]⟩ : ByteArray), (⟨#[104]⟩ : ByteArray), (⟨#[107, 49]⟩ : ByteArray), (⟨#[107, 50]⟩ : ByteArray), (⟨#[107, 51]⟩ : ByteArray), (⟨#[107, 101, 121]⟩ : ByteArray)] (by simp) d h
  have hk : ∀ k ∈ [(⟨#[97]⟩ : ByteArray), (⟨#[98]⟩ : ByteArray), (⟨#[99]⟩ : ByteArray), (⟨#[100]⟩ : ByteArray), (⟨#[101]⟩ : ByteArray), (⟨#[102]⟩ : ByteArray), (⟨#[103]⟩ : ByteArray), (⟨#[104]⟩ : ByteArray), (⟨#[107, 49]⟩ : ByteArray), (⟨#[107, 50]⟩ : ByteArray), (⟨#[107, 51]⟩ : ByteArray), (⟨#[107, 101, 121]⟩ : ByteArray)], 1 ≤ k.size ∧ k.size ≤ 12 := by decide
  exact ⟨k, d1, f_spec_l03Key (by unfold t_spec_l03Key; rw [e1]; rfl), k1, hk k m1⟩

theorem DrawRightQueue_ok (x : List Int) (hx : x.length ≤ maxLen) : ∃ q k, F_spec_DrawRightQueue x = some (q, k) ∧ QOk q ∧ 1 ≤ k.size ∧ k.size ≤ 12 := by
  obtain ⟨d, e, kd⟩ := F_spec_l01New_ok x hx
  obtain ⟨v, d1, e1, k1, v0, v1⟩ := F_spec_l01Below_ok 6 d kd
  have v1 := v1 (by omega)
  have key := down (n := 8) (P := fun i => ∀ (d : TDraw) (q : TQueue) z, dOk d → QOk q → 1 ≤ q.1 → ∃ q' k, W_spec_DrawRightQueue_L0 (i : Int) z d q = some (q', k) ∧ QOk q' ∧ 1 ≤ k.size ∧ k.size ≤ 12)
    (fun d q z hd hq h1 => by
      obtain ⟨v, d2, e2, k2, v0, v1⟩ := F_spec_l01Below_ok 9 d hd
      have v1 := v1 (by omega)
      obtain ⟨k, d3, e3, k3, g⟩ := l03Key_ok d2 k2
      refine ⟨q, k, w_spec_DrawRightQueue_L0 ?_, hq, g⟩
      unfold t_spec_DrawRightQueue_L0
      rw [e2, Option.bind_some, if_neg (by simp; omega), e3, Option.bind_some])
    (fun i hi ih d q z hd hq h1 => by
      obtain ⟨v, d2, e2, k2, v0, v1⟩ := F_spec_l01Below_ok 9 d hd
      obtain ⟨k, d3, e3, k3, g⟩ := l03Key_ok d2 k2
      by_cases hv : (i : Int) < v
      · obtain ⟨p, l, b, e4, g4⟩ := push_ok hq h1 g
        cases b with
        | true =>
          obtain ⟨gp, g1⟩ := g4 rfl
          obtain ⟨q', k', e5, g5⟩ := ih d3 p z k3 gp (by omega)
          refine ⟨q', k', w_spec_DrawRightQueue_L0 ?_, g5⟩
          unfold t_spec_DrawRightQueue_L0
          rw [e2, Option.bind_some, if_pos (by simpa using hv), e3, Option.bind_some, e4, Option.bind_some, if_pos rfl, wrap_succ (by omega)]
          exact e5
        | false =>
          obtain ⟨q', k', e5, g5⟩ := ih d3 q z k3 hq h1
          refine ⟨q', k', w_spec_DrawRightQueue_L0 ?_, g5⟩
          unfold t_spec_DrawRightQueue_L0
          rw [e2, Option.bind_some, if_pos (by simpa using hv), e3, Option.bind_some, e4, Option.bind_some, if_neg (by simp), wrap_succ (by omega)]
          exact e5
      · refine ⟨q, k, w_spec_DrawRightQueue_L0 ?_, hq, g⟩
        unfold t_spec_DrawRightQueue_L0
        rw [e2, Option.bind_some, if_neg (by simpa using hv), e3, Option.bind_some]) 0 (by omega) d1 (1 + v, []) (0, []) k1 ⟨by show 0 ≤ 1 + v; omega, by show 1 + v ≤ 24; omega, by simp; omega, by simp, by simp⟩ (by show 1 ≤ 1 + v; omega)
  obtain ⟨q', k', e5, g5⟩ := key
  refine ⟨q', k', f_spec_DrawRightQueue ?_, g5⟩
  unfold t_spec_DrawRightQueue
  rw [e, Option.bind_some, e1, Option.bind_some, wrap_id (n := 1 + v) (by omega)]
  exact e5

theorem without_at {x : List ByteArray} {k : ByteArray} (hd : x.Nodup) (i : Nat) (hi : i < x.length) (he : x[i] = k) : (x.filter fun b => !decide (b = k)) = x.take i ++ x.drop (i + 1) := by
  have hne : ∀ (j : Nat) (hj : j < x.length), j ≠ i → x[j] ≠ k := fun j hj h e => h ((List.getElem_inj hd (i := j) (j := i) (h₀ := hj) (h₁ := hi)).1 (by rw [e, he]))
  have e1 : (x.take i).filter (fun b => !decide (b = k)) = x.take i := List.filter_eq_self.2 fun b hb => by
    obtain ⟨a, ha, rfl⟩ := List.getElem_of_mem hb
    rw [List.length_take] at ha
    rw [List.getElem_take]
    simpa using hne a (by omega) (by omega)
  have e2 : (x.drop (i + 1)).filter (fun b => !decide (b = k)) = x.drop (i + 1) := List.filter_eq_self.2 fun b hb => by
    obtain ⟨a, ha, rfl⟩ := List.getElem_of_mem hb
    rw [List.length_drop] at ha
    rw [List.getElem_drop]
    simpa using hne (i + 1 + a) (by omega) (by omega)
  have e3 : x = x.take i ++ x[i] :: x.drop (i + 1) := by rw [← dropc hi, List.take_append_drop]
  calc (x.filter fun b => !decide (b = k)) = (x.take i ++ x[i] :: x.drop (i + 1)).filter (fun b => !decide (b = k)) := by rw [← e3]
    _ = x.take i ++ x.drop (i + 1) := by rw [List.filter_append, List.filter_cons, e1, e2, he]; simp

/-- What is left of a queue without a key. -/
def rest (x : List ByteArray) (k : ByteArray) : List ByteArray := x.filter fun b => !decide (b = k)

theorem drop_is {q : TQueue} (h : QOk q) (k : ByteArray) : F_impl_Queue_drop k q = some (if hasK q.2 k = true then (true, (q.1, rest q.2 k)) else (false, q)) := f_impl_Queue_drop (by
  have hs := h.small
  have hx : q.2.length ≤ maxLen := by unfold maxLen; omega
  unfold t_impl_Queue_drop
  by_cases hm : k ∈ q.2
  · obtain ⟨i, hi, he⟩ := List.getElem_of_mem hm
    rw [index_at q.2 k hx i hi he (fun j hj e => by
      have := (List.getElem_inj h.diff (i := i) (j := j) (h₀ := hi) (h₁ := by omega)).1 (by rw [he, e])
      omega), Option.bind_some, if_neg (by simp), wrap_succ (by omega), f_slices_Delete_string_string (by omega) (by omega), Option.bind_some, hasK_iff.2 hm, if_pos rfl, rest, without_at h.diff i hi he]
  · rw [index_none q.2 k hx hm, Option.bind_some, if_pos (by simp), Bool.eq_false_iff.2 (fun e => hm (hasK_iff.1 e)), if_neg (by simp)])

theorem rest_len {x : List ByteArray} {k : ByteArray} (hm : k ∈ x) (hd : x.Nodup) : (rest x k).length + 1 = x.length := by
  obtain ⟨i, hi, he⟩ := List.getElem_of_mem hm
  rw [rest, without_at hd i hi he, List.length_append, List.length_take, List.length_drop]
  omega
theorem rest_ok {q : TQueue} (h : QOk q) (k : ByteArray) : QOk (q.1, rest q.2 k) := by
  have hl := List.length_filter_le (fun b => !decide (b = k)) q.2
  refine ⟨h.lo, h.hi, ?_, fun a ha => h.keys a ((List.mem_filter.1 ha).1), h.diff.filter _⟩
  have := h.len
  show ((rest q.2 k).length : Int) ≤ q.1
  unfold rest
  omega
theorem touched_ok {q : TQueue} (h : QOk q) {k : ByteArray} (hm : k ∈ q.2) : QOk (q.1, k :: rest q.2 k) := by
  have r := rest_ok h k
  have hl := rest_len hm h.diff
  refine ⟨h.lo, h.hi, ?_, fun a ha => ?_, List.nodup_cons.2 ⟨?_, r.diff⟩⟩
  · have := h.len
    show ((k :: rest q.2 k).length : Int) ≤ q.1
    simp only [List.length_cons]
    omega
  · rcases List.mem_cons.1 ha with rfl | ha
    · exact h.keys a hm
    · exact r.keys a ha
  · intro hc
    have := (List.mem_filter.1 hc).2
    simp at this

theorem law_FnTouches (x) (hx : Kd.ok (.slice (.int .u8)) x) : F_laws_FnTouches x = some true := f_laws_FnTouches (by
  unfold t_laws_FnTouches
  rw [show F_laws_big x = some (decide ((x.length : Int) > (1048576 : Int))) from f_laws_big rfl, Option.bind_some]
  split
  · rfl
  · obtain ⟨q, k, e, hq, hk⟩ := DrawRightQueue_ok x hx.1
    have hs := hq.small
    have hxl : q.2.length ≤ maxLen := by unfold maxLen; omega
    have hc : F_impl_copyQueue q = some q := f_impl_copyQueue (by
      unfold t_impl_copyQueue
      rw [f_slices_Clone_string_string (by omega)]
      rfl)
    have hdr : F_impl_Drop q k = some (if hasK q.2 k = true then ((q.1, rest q.2 k), true) else ((0, []), false)) := f_impl_Drop (by
      unfold t_impl_Drop
      rw [hc, Option.bind_some, impl_QueueOk_true hq, Option.bind_some, if_pos (by simp), drop_is hq k, Option.bind_some]
      cases hasK q.2 k <;> simp)
    have hto : F_impl_Touch q k = some (if hasK q.2 k = true then ((q.1, k :: rest q.2 k), true) else ((0, []), false)) := f_impl_Touch (by
      unfold t_impl_Touch
      have ht : F_impl_Queue_touch k q = some (if hasK q.2 k = true then (true, (q.1, k :: rest q.2 k)) else (false, q)) := f_impl_Queue_touch (by
        unfold t_impl_Queue_touch
        rw [drop_is hq k, Option.bind_some]
        cases hh : hasK q.2 k with
        | false => simp
        | true =>
          have hl := rest_len (hasK_iff.1 hh) hq.diff
          have hi := f_slices_Insert_string_string (x0 := rest q.2 k) (i := 0) (x2 := [k]) (by simp; omega) (by omega) (by simp)
          have hi' : F_slices_Insert_string_string (rest q.2 k) 0 [k] = some (k :: rest q.2 k) := by simpa using hi
          simp [hi'])
      rw [hc, Option.bind_some, impl_QueueOk_true hq, Option.bind_some, if_pos (by simp), ht, Option.bind_some]
      cases hasK q.2 k <;> simp)
    rw [e, Option.bind_some, hto, Option.bind_some, hdr, Option.bind_some, impl_HasKey_eq q k hxl hq.diff, Option.bind_some]
    cases hh : hasK q.2 k with
    | false =>
      have J0 : W_laws_FnTouches_J0 k false false q (0, []) (0, []) = some true := w_laws_FnTouches_J0 (by
        unfold t_laws_FnTouches_J0
        rw [if_pos (by simp), laws_has_eq q.2 k hxl, hh]
        simp)
      simp [eqK, impl_QueueOk_true hq, J0]
    | true =>
      have hm := hasK_iff.1 hh
      have r := rest_ok hq k
      have t := touched_ok hq hm
      have rl := rest_len hm hq.diff
      have J0 : W_laws_FnTouches_J0 k true false q (q.1, k :: rest q.2 k) (q.1, rest q.2 k) = some true := w_laws_FnTouches_J0 (by
        unfold t_laws_FnTouches_J0
        rw [if_neg (by simp), laws_without_eq q.2 k (by omega), Option.bind_some]
        change ((F_impl_QueueOk (q.1, k :: rest q.2 k)).bind _) = _
        rw [impl_QueueOk_true t, Option.bind_some, if_pos rfl, impl_QueueOk_true r, Option.bind_some, if_pos rfl]
        change (if ([k] : List ByteArray).length + (rest q.2 k).length ≤ 68719476736 then _ else none) = _
        rw [if_pos (by simp; omega)]
        have s1 : F_laws_sameTexts (k :: rest q.2 k) ([k] ++ rest q.2 k) = some true := laws_sameTexts_self _ (by unfold maxLen; simp; omega)
        have s2 : F_laws_sameTexts (rest q.2 k) (rest q.2 k) = some true := laws_sameTexts_self _ (by unfold maxLen; omega)
        have s3 : F_impl_HasKey (q.1, rest q.2 k) k = some false := by
          rw [impl_HasKey_eq _ k (by show (rest q.2 k).length ≤ maxLen; unfold maxLen; omega) r.diff]
          congr 1
          refine Bool.eq_false_iff.2 fun h => ?_
          have := (List.mem_filter.1 (hasK_iff.1 h)).2
          simp at this
        change ((F_laws_sameTexts (k :: rest q.2 k) ([k] ++ rest q.2 k)).bind _) = _
        rw [s1, Option.bind_some, if_pos rfl]
        change ((F_laws_sameTexts (rest q.2 k) (rest q.2 k)).bind _) = _
        rw [s2, Option.bind_some, if_pos rfl, s3, Option.bind_some]
        simp)
      simp [eqK, impl_QueueOk_true hq, J0])

end Go.Proofs.Ytnbfkndicldppaa.Core
