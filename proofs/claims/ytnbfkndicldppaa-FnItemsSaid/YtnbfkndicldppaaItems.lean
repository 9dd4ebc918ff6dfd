/- FnItems: an item that is put into drawn items is there, unless one of its key is as new or newer; all else stays. -/
import Derived.Test.YtnbfkndicldppaaPutItem
import Derived.Test.YtnbfkndicldppaaDrawn
namespace Go.Proofs.Ytnbfkndicldppaa.Core
open Go
set_option linter.unusedVariables false

/-- Good items, told without places. -/
theorem itemsFrom_iff {x : List TItem} : ∀ (m i : Nat), i + m = x.length → (itemsFrom x i m = true ↔ (∀ a (ha : a < x.length), i ≤ a → itemOne x[a] = true ∧ (a ≠ 0 → Op.bytesLess (x.getD (a - 1) ZItem).1.toList x[a].1.toList = true)) ∧ x.length ≤ 12)
  | 0, i, h => by
    simp only [itemsFrom, decide_eq_true_eq]
    refine ⟨fun h2 => ⟨fun a ha hi => by omega, by omega⟩, fun h2 => by have := h2.2; omega⟩
  | m + 1, i, h => by
    have hi : i < x.length := by omega
    rw [itemsFrom, Bool.and_eq_true, Bool.and_eq_true, itemsFrom_iff m (i + 1) (by omega), getD_at hi]
    simp only [Bool.or_eq_true, decide_eq_true_eq]
    constructor
    · rintro ⟨⟨h1, h2⟩, h3, h4⟩
      refine ⟨fun a ha hia => ?_, h4⟩
      by_cases e : a = i
      · subst e
        exact ⟨h1, fun h0 => h2.resolve_left h0⟩
      · exact h3 a ha (by omega)
    · rintro ⟨h3, h4⟩
      refine ⟨⟨(h3 i hi (Nat.le_refl _)).1, ?_⟩, fun a ha hia => h3 a ha (by omega), h4⟩
      by_cases e : i = 0
      · exact .inl e
      · exact .inr ((h3 i hi (Nat.le_refl _)).2 e)

theorem itemsOk_iff {x : List TItem} : itemsOk x = true ↔ (∀ b ∈ x, itemOne b = true) ∧ inOrder x ∧ x.length ≤ 12 := by
  constructor
  · intro h
    have h1 := (itemsFrom_iff x.length 0 (by omega)).1 h
    refine ⟨fun b hb => ?_, order_of h, h1.2⟩
    obtain ⟨a, ha, rfl⟩ := List.getElem_of_mem hb
    exact (h1.1 a ha (Nat.zero_le _)).1
  · rintro ⟨h1, h2, h3⟩
    refine (itemsFrom_iff x.length 0 (by omega)).2 ⟨fun a ha _ => ⟨h1 _ (List.getElem_mem ha), fun h0 => ?_⟩, h3⟩
    rw [getD_at (show a - 1 < x.length by omega)]
    exact h2 (a - 1) a (by omega) ha (by omega)

theorem order_iff {x : List TItem} : inOrder x ↔ x.Pairwise fun b c => Op.bytesLess b.1.toList c.1.toList = true := by
  rw [List.pairwise_iff_getElem]
  rfl

theorem laid_order {x : List TItem} (a : TItem) (h : inOrder x) : inOrder (laid x a) := by
  rw [order_iff] at h ⊢
  have lo : ∀ b ∈ x.filter (low a.1), Op.bytesLess b.1.toList a.1.toList = true := fun b hb => (List.mem_filter.1 hb).2
  have hg : ∀ b ∈ x.filter (high a.1), Op.bytesLess a.1.toList b.1.toList = true := fun b hb => by
    have := (List.mem_filter.1 hb).2
    rw [high, bytes_total] at this
    simpa using this
  unfold laid
  rw [List.pairwise_append, List.pairwise_append]
  refine ⟨⟨h.filter _, List.pairwise_singleton _ _, fun b hb c hc => ?_⟩, h.filter _, fun b hb c hc => ?_⟩
  · rw [List.mem_singleton] at hc
    subst hc
    exact lo b hb
  · rcases List.mem_append.1 hb with hb | hb
    · exact bl_trans (lo b hb) (hg c hc)
    · rw [List.mem_singleton] at hb
      subst hb
      exact hg c hc

theorem laid_len (x : List TItem) (a : TItem) : (laid x a).length ≤ x.length + 1 := by
  have h1 : (x.filter (high a.1)).length ≤ (x.filter fun b => !low a.1 b).length := by
    rw [← List.countP_eq_length_filter, ← List.countP_eq_length_filter]
    refine List.countP_mono_left fun b _ hb => ?_
    simp only [high, low, Bool.not_eq_true', Bool.or_eq_false_iff] at hb ⊢
    exact hb.1
  have h2 : (x.filter (low a.1)).length + (x.filter fun b => !low a.1 b).length = x.length := by
    rw [← List.countP_eq_length_filter, ← List.countP_eq_length_filter]
    have := List.length_eq_countP_add_countP (low a.1) (l := x)
    rw [this]
    congr 2
    funext b
    cases low a.1 b <;> rfl
  simp only [laid, List.length_append, List.length_cons, List.length_nil]
  omega

theorem laid_mem {x : List TItem} {a : TItem} : a ∈ laid x a := by simp [laid]
theorem laid_sub {x : List TItem} {a b : TItem} (h : b ∈ laid x a) : b = a ∨ b ∈ x := by
  simp only [laid, List.mem_append, List.mem_filter, List.mem_singleton] at h
  rcases h with (h | h) | h
  · exact .inr h.1
  · exact .inl h
  · exact .inr h.1
theorem laid_keeps {x : List TItem} {a b : TItem} (h : b ∈ x) (hk : (b.1.toList == a.1.toList) = false) : b ∈ laid x a := by
  simp only [laid, List.mem_append, List.mem_filter, List.mem_singleton]
  cases q : low a.1 b with
  | true => exact .inl (.inl ⟨h, rfl⟩)
  | false =>
    refine .inr ⟨h, ?_⟩
    unfold high
    rw [show Op.bytesLess b.1.toList a.1.toList = false from q, hk]
    rfl

theorem laid_ok {x : List TItem} {a : TItem} (h : itemsOk x = true) (hl : x.length ≤ 11) (ha : itemOne a = true) : itemsOk (laid x a) = true := by
  obtain ⟨h1, h2, h3⟩ := itemsOk_iff.1 h
  refine itemsOk_iff.2 ⟨fun b hb => ?_, laid_order a h2, by have := laid_len x a; omega⟩
  rcases laid_sub hb with rfl | hb
  · exact ha
  · exact h1 b hb

/-- An item of items in order is found by its key. -/
theorem itemOf_mem {x : List TItem} (ho : inOrder x) {b : TItem} (hb : b ∈ x) : itemOf x b.1 = b := by
  obtain ⟨j, hj, rfl⟩ := List.getElem_of_mem hb
  have : x.find? (fun a => a.1.toList == x[j].1.toList) = some x[j] := by
    rw [List.find?_eq_some_iff_getElem]
    refine ⟨by simp, j, hj, rfl, fun i hi => ?_⟩
    have := ho i j (by omega) hj hi
    cases q : (x[i].1.toList == x[j].1.toList) with
    | false => rfl
    | true =>
      rw [beq_iff_eq] at q
      rw [q, bl_irrefl] at this
      cases this
  unfold itemOf
  rw [this]
  rfl

theorem stale_iff {x : List TItem} (ho : inOrder x) {a : TItem} (h1 : 1 ≤ a.2.2) : (itemOf x a.1).2.2 ≥ a.2.2 ↔ stale x a = true := by
  constructor
  · intro h
    unfold itemOf at h
    cases q : x.find? (fun b => b.1.toList == a.1.toList) with
    | none => rw [q] at h; simp at h; omega
    | some b =>
      rw [q] at h
      exact List.any_eq_true.2 ⟨b, List.mem_of_find?_eq_some q, by simpa [List.find?_some q] using h⟩
  · intro h
    obtain ⟨b, hb, hc⟩ := List.any_eq_true.1 h
    simp only [Bool.and_eq_true, beq_iff_eq, decide_eq_true_eq] at hc
    have e : itemOf x a.1 = itemOf x b.1 := by unfold itemOf; rw [hc.1]
    rw [e, itemOf_mem ho hb]
    exact hc.2

theorem eqK_item (a : TItem) : eqK (.pair .str (.pair .str (.int .i64))) a a = true := by simp [eqK]

theorem F_laws_sameItems_self (x : List TItem) (hx : x.length ≤ maxLen) : F_laws_sameItems x x = some true := f_laws_sameItems (by
  have hm : x.length ≤ 9223372036854775807 := hx
  unfold t_laws_sameItems
  rw [if_neg (by simp)]
  exact down (n := x.length) (P := fun i => W_laws_sameItems_L0 x x (i : Int) = some true) (w_laws_sameItems_L0 (by
    unfold t_laws_sameItems_L0
    rw [if_neg (by simp)])) (fun i hi ih => w_laws_sameItems_L0 (by
    unfold t_laws_sameItems_L0
    simp only [show ((i : Int) < (x.length : Int)) from by omega, decide_true, if_true, show (0 : Int) ≤ (i : Int) from by omega, Int.toNat_natCast, getD_at hi, wrap_succ (show i < 9223372036854775807 by omega), ih]
    rw [if_neg (by simp [eqK_item])])) 0 (by omega))

theorem F_spec_l01Pick_ok (x : List ByteArray) (hx : 0 < x.length) (d : TDraw) (h : dOk d) : ∃ v d', F_spec_l01Pick x d = some (v, d') ∧ dOk d' ∧ v ∈ x := by
  obtain ⟨v, d', e, k, v0, v1⟩ := F_spec_l01Below_ok (x.length : Int) d h
  have v1 := v1 (by omega)
  have hv : v.toNat < x.length := by omega
  exact ⟨_, _, f_spec_l01Pick (by unfold t_spec_l01Pick; rw [e, Option.bind_some, if_pos v0, if_pos v1]), k, by rw [getD_at hv]; exact List.getElem_mem hv⟩

theorem F_spec_l13Item_ok (d : TDraw) (h : dOk d) : ∃ a d', F_spec_l13Item d = some (a, d') ∧ dOk d' ∧ itemOne a = true := by
  obtain ⟨k, d1, e1, k1, m1⟩ := F_spec_l01Pick_ok [(⟨#[97]⟩ : ByteArray), (⟨#[98]⟩ : ByteArray), (⟨#[99]⟩ : ByteArray), (⟨#[100]⟩ : ByteArray), (⟨#[101]⟩ : ByteArray), (⟨#[102]⟩ : ByteArray), (⟨#[103]⟩ : ByteArray), (⟨#[104]⟩ : ByteArray), (⟨#[107, 49]⟩ : ByteArray), (⟨#[107, 50]⟩ : ByteArray), (⟨#[107, 51]⟩ : ByteArray), (⟨#[107, 101, 121]⟩ : ByteArray)] (by simp) d h
  obtain ⟨v, d2, e2, k2, m2⟩ := F_spec_l01Pick_ok [(⟨#[]⟩ : ByteArray), (⟨#[118]⟩ : ByteArray), (⟨#[119]⟩ : ByteArray), (⟨#[120, 120]⟩ : ByteArray), (⟨#[121, 121, 121]⟩ : ByteArray)] (by simp) d1 k1
  obtain ⟨n, d3, e3, k3, n0, n1⟩ := F_spec_l01Below_ok 30 d2 k2
  have n1 := n1 (by omega)
  have f1 : F_spec_l03Key d = some (k, d1) := f_spec_l03Key (by unfold t_spec_l03Key; rw [e1]; rfl)
  have f2 : F_spec_l03Val d1 = some (v, d2) := f_spec_l03Val (by unfold t_spec_l03Val; rw [e2]; rfl)
  refine ⟨(k, v, 1001 + n), d3, f_spec_l13Item (by unfold t_spec_l13Item; rw [f1, Option.bind_some, f2, Option.bind_some, e3, Option.bind_some, wrap_id (n := 1001 + n) (by omega)]), k3, ?_⟩
  have hk : ∀ k ∈ [(⟨#[97]⟩ : ByteArray), (⟨#[98]⟩ : ByteArray), (⟨#[99]⟩ : ByteArray), (⟨#[100]⟩ : ByteArray), (⟨#[101]⟩ : ByteArray), (⟨#[102]⟩ : ByteArray), (⟨#[103]⟩ : ByteArray), (⟨#[104]⟩ : ByteArray), (⟨#[107, 49]⟩ : ByteArray), (⟨#[107, 50]⟩ : ByteArray), (⟨#[107, 51]⟩ : ByteArray), (⟨#[107, 101, 121]⟩ : ByteArray)], 1 ≤ k.size ∧ k.size ≤ 12 := by decide
  have hv : ∀ k ∈ [(⟨#[]⟩ : ByteArray), (⟨#[118]⟩ : ByteArray), (⟨#[119]⟩ : ByteArray), (⟨#[120, 120]⟩ : ByteArray), (⟨#[121, 121, 121]⟩ : ByteArray)], k.size ≤ 20 := by decide
  have a1 := hk k m1
  have a2 := hv v m2
  simp only [itemOne, Bool.and_eq_true, decide_eq_true_eq]
  omega

theorem putItem_ok {x : List TItem} {a : TItem} (h : itemsOk x = true) : itemsOk (putItem x a) = true := by
  unfold putItem
  rw [if_pos h]
  split
  · exact h
  · split
    · assumption
    · exact h
theorem putItem_len (x : List TItem) (a : TItem) : (putItem x a).length ≤ x.length + 1 := by
  have := laid_len x a
  unfold putItem
  (repeat' split) <;> omega

theorem F_spec_l13Items_ok (d : TDraw) (h : dOk d) : ∃ x d', F_spec_l13Items d = some (x, d') ∧ dOk d' ∧ itemsOk x = true ∧ x.length ≤ 5 := by
  have key := down (n := 5) (P := fun i => ∀ (d : TDraw) (x : List TItem), dOk d → itemsOk x = true → x.length ≤ i → ∃ y d', W_spec_l13Items_L0 (i : Int) d x = some (y, d') ∧ dOk d' ∧ itemsOk y = true ∧ y.length ≤ 5)
    (fun d x hd hx hl => by
      obtain ⟨v, d1, e1, k1, v0, v1⟩ := F_spec_l01Below_ok 6 d hd
      have v1 := v1 (by omega)
      refine ⟨x, d1, w_spec_l13Items_L0 ?_, k1, hx, hl⟩
      unfold t_spec_l13Items_L0
      rw [e1, Option.bind_some, if_neg (by simp; omega)])
    (fun i hi ih d x hd hx hl => by
      obtain ⟨v, d1, e1, k1, v0, v1⟩ := F_spec_l01Below_ok 6 d hd
      by_cases hv : (i : Int) < v
      · obtain ⟨a, d2, e2, k2, o2⟩ := F_spec_l13Item_ok d1 k1
        obtain ⟨y, d3, e3, k3⟩ := ih d2 (putItem x a) k2 (putItem_ok hx) (by have := putItem_len x a; omega)
        refine ⟨y, d3, w_spec_l13Items_L0 ?_, k3⟩
        unfold t_spec_l13Items_L0
        rw [e1, Option.bind_some, if_pos (by simpa using hv), e2, Option.bind_some, F_spec_PutItem_eq x a (by omega), Option.bind_some, wrap_succ (by omega)]
        exact e3
      · refine ⟨x, d1, w_spec_l13Items_L0 ?_, k1, hx, by omega⟩
        unfold t_spec_l13Items_L0
        rw [e1, Option.bind_some, if_neg (by simpa using hv)]) 0 (by omega) d [] h (by decide) (by simp)
  obtain ⟨y, d', e, k⟩ := key
  exact ⟨y, d', f_spec_l13Items (by unfold t_spec_l13Items; exact e), k⟩

theorem F_spec_DrawItems_ok (x : List Int) (hx : x.length ≤ maxLen) : ∃ l a, F_spec_DrawItems x = some (l, a) ∧ itemsOk l = true ∧ l.length ≤ 5 ∧ itemOne a = true := by
  obtain ⟨d, e, k⟩ := F_spec_l01New_ok x hx
  obtain ⟨l, d1, e1, k1, h1, h2⟩ := F_spec_l13Items_ok d k
  obtain ⟨a, d2, e2, k2, h3⟩ := F_spec_l13Item_ok d1 k1
  exact ⟨l, a, f_spec_DrawItems (by unfold t_spec_DrawItems; rw [e, Option.bind_some, e1, Option.bind_some, e2, Option.bind_some]), h1, h2, h3⟩

theorem law_FnItems (x) (hx : Kd.ok (.slice (.int .u8)) x) : F_laws_FnItems x = some true := f_laws_FnItems (by
  unfold t_laws_FnItems
  rw [show F_laws_big x = some (decide ((x.length : Int) > (1048576 : Int))) from f_laws_big rfl, Option.bind_some]
  split
  · rfl
  · obtain ⟨l, a, e, hl, hn, ha⟩ := F_spec_DrawItems_ok x hx.1
    obtain ⟨g1, g2, g3⟩ := itemsOk_iff.1 hl
    have hv : 1 ≤ a.2.2 := by
      simp only [itemOne, Bool.and_eq_true, decide_eq_true_eq] at ha
      omega
    have hlo := laid_ok hl (by omega) ha
    have hp : putItem l a = if stale l a = true then l else laid l a := by unfold putItem; rw [if_pos hl, if_pos hlo]
    generalize hq : putItem l a = n at hp
    have nok : itemsOk n = true := by rw [← hq]; exact putItem_ok hl
    obtain ⟨n1, n2, n3⟩ := itemsOk_iff.1 nok
    have nl : n.length ≤ 6 := by rw [← hq]; have := putItem_len l a; omega
    have fi : ∀ (y : List TItem) k, y.length ≤ 6 → F_impl_ItemOf y k = some (itemOf y k) := fun y k h => F_impl_ItemOf_eq y k (by unfold maxLen; omega)
    have again : putItem n a = n := by
      unfold putItem
      rw [if_pos]
      by_cases hs : stale l a = true
      · rw [hp, if_pos hs]; exact hs
      · rw [hp, if_neg hs]
        exact List.any_eq_true.2 ⟨a, laid_mem, by simp⟩
    have J2 : ∀ q r, W_laws_FnItems_J2 l n a q r = some true := fun q r => w_laws_FnItems_J2 (by
      unfold t_laws_FnItems_J2
      rw [F_impl_PutItem_eq n a (by omega), again, Option.bind_some, F_laws_sameItems_self n (by unfold maxLen; omega), Option.bind_some, if_pos rfl, F_spec_PutItem_eq l a (by omega), hq, Option.bind_some, F_laws_sameItems_self n (by unfold maxLen; omega)]
      rfl)
    have L1 : ∀ q r, W_laws_FnItems_L1 l n ((0 : Nat) : Int) a q r = some true := fun q r =>
      down (n := l.length) (P := fun i => W_laws_FnItems_L1 l n (i : Int) a q r = some true) (w_laws_FnItems_L1 (by
        unfold t_laws_FnItems_L1
        rw [if_neg (by simp)]
        exact J2 q r)) (fun i hi ih => w_laws_FnItems_L1 (by
        unfold t_laws_FnItems_L1
        simp only [show ((i : Int) < (l.length : Int)) from by omega, decide_true, if_true, show (0 : Int) ≤ (i : Int) from by omega, Int.toNat_natCast, getD_at hi, wrap_succ (show i < 9223372036854775807 by omega), ih, fi n _ nl, Option.bind_some]
        cases hk : (l[i].1.toList == a.1.toList) with
        | true => simp
        | false =>
          have hm : l[i] ∈ n := by
            rw [hp]
            split
            · exact List.getElem_mem hi
            · exact laid_keeps (List.getElem_mem hi) hk
          rw [itemOf_mem n2 hm, eqK_item]
          simp)) 0 (by omega)
    have J0 : ∀ b q r, W_laws_FnItems_J0 l n b a q r = some true := fun b q r => w_laws_FnItems_J0 (by
      unfold t_laws_FnItems_J0
      exact L1 q r)
    rw [e, Option.bind_some, F_impl_PutItem_eq l a (by omega), hq, Option.bind_some, fi l _ (by omega), Option.bind_some, fi n _ nl, Option.bind_some, F_impl_ItemsOk_eq n (by unfold maxLen; omega) bytes_total, Option.bind_some, show itemsFrom n 0 n.length = true from nok]
    by_cases hs : stale l a = true
    · have hge := (stale_iff g2 hv).2 hs
      have hnl : n = l := by rw [hp, if_pos hs]
      have e2 : decide ((itemOf l a.1).2.2 ≥ a.2.2) = true := by simpa using hge
      have e3 : decide ((itemOf l a.1).2.2 < a.2.2) = false := by simp; omega
      rw [hnl] at J0 ⊢
      simp only [e2, e3, eqK_item, J0]
      simp
    · have hlt : ¬ (itemOf l a.1).2.2 ≥ a.2.2 := fun h => hs ((stale_iff g2 hv).1 h)
      have hmem : itemOf n a.1 = a := itemOf_mem n2 (by rw [hp, if_neg hs]; exact laid_mem)
      have e2 : decide ((itemOf l a.1).2.2 ≥ a.2.2) = false := by simpa using hlt
      have e3 : decide ((itemOf l a.1).2.2 < a.2.2) = true := by simp; omega
      simp only [e2, e3, hmem, eqK_item, J0]
      simp)

end Go.Proofs.Ytnbfkndicldppaa.Core
