/- Values that are kept for good (rows frozen), lists behind values, what lies behind addresses: each against memory. -/
import Derived.Test.YtnbfkndicldppaaMem
namespace Go.Proofs.Ytnbfkndicldppaa.Core
open Go

variable {H : HP} {φ : Phi} {st : List Box} {w : World}

theorem VF.cells {a : AV} {v : Value} (h : VF H a v) : v.cells = #[v] := by
  cases a with
  | int k n => simp only [VF] at h; subst h; rfl
  | bool b => simp only [VF] at h; subst h; rfl
  | str s => simp only [VF] at h; subst h; rfl
  | nil => simp only [VF] at h; subst h; rfl
  | lst K xs => obtain ⟨a, cap, e, _⟩ := h; subst e; rfl
  | fn f caps => obtain ⟨_, e⟩ := h; subst e; rfl
  | clo f K x => obtain ⟨b, o, c, el, fz, e, _⟩ := h; subst e; rfl
  | _ => exact h.elim

theorem Kd.sz_pos : ∀ K : Kd, 0 < K.sz
  | .int _ => Nat.one_pos
  | .bool => Nat.one_pos
  | .str => Nat.one_pos
  | .slice _ => Nat.one_pos
  | .pair a b => by have := Kd.sz_pos a; simp only [Kd.sz]; omega
  | .own _ _ => Nat.one_pos
  | .ref _ => Nat.one_pos
  | .fun _ => Nat.one_pos
  | .clo _ _ => Nat.one_pos

/-- The cells of a frozen list, laid end to end. -/
theorem reps_flat {K : Kd} {xs : List K.T} {v : Value} (hp : ∀ b o, H b = some o → w.heap[b]? = some o) (h : reps (Rep H K) K.sz H xs v) :
    ∃ sl cap flat, v = .slice sl xs.length cap ∧ xs.length ≤ cap ∧ flat.length = xs.length * K.sz ∧ rowRep H K xs flat ∧
      (xs = [] ∨ ∃ b off c el fz, sl = some ⟨b, off, none⟩ ∧ H b = some (.cells c el fz) ∧ (∀ j u, flat[j]? = some u → c[off + j]? = some u)) := by
  obtain ⟨sl, cap, e, hc, hr⟩ := h
  rcases hr with rfl | ⟨b, off, c, el, fz, ea, hb, hr⟩
  · exact ⟨sl, cap, [], e, hc, by simp, fun j x hx => by simp at hx, .inl rfl⟩
  · refine ⟨sl, cap, (c.toList.drop off).take (xs.length * K.sz), e, hc, ?_, ?_, .inr ⟨b, off, c, el, fz, ea, hb, ?_⟩⟩
    · have hsz := Kd.sz_pos K
      rcases Nat.eq_zero_or_pos xs.length with h0 | h0
      · simp [h0]
      · obtain ⟨cs, h1, h2, h3⟩ := hr (xs.length - 1) (xs[xs.length - 1]'(by omega)) (by simp)
        have hlast := h3 (K.sz - 1) (cs[K.sz - 1]'(by omega)) (by simp)
        have hlt : off + (xs.length - 1) * K.sz + (K.sz - 1) < c.size := by
          have := (Array.getElem?_eq_some_iff.1 hlast).1
          exact this
        have e2 : (xs.length - 1) * K.sz + K.sz = xs.length * K.sz := by
          rw [← Nat.succ_mul]; congr 1; omega
        simp only [List.length_take, List.length_drop, Array.length_toList]
        omega
    · intro j x hx
      obtain ⟨cs, h1, h2, h3⟩ := hr j x hx
      have hj : j < xs.length := (List.getElem?_eq_some_iff.1 hx).1
      have e3 : ((((c.toList.drop off).take (xs.length * K.sz)).drop (j * K.sz)).take K.sz) = cs := by
        apply List.ext_getElem?
        intro i
        rcases Nat.lt_or_ge i K.sz with hi | hi
        · have hci : cs[i]? = some (cs[i]'(by omega)) := by simp
          have := h3 i _ hci
          have hlt2 : j * K.sz + i < xs.length * K.sz := by
            have : (j + 1) * K.sz ≤ xs.length * K.sz := Nat.mul_le_mul_right _ hj
            rw [Nat.succ_mul] at this
            omega
          rw [hci, List.getElem?_take, if_pos hi, List.getElem?_drop, List.getElem?_take, if_pos hlt2, List.getElem?_drop, Array.getElem?_toList]
          rw [show off + (j * K.sz + i) = off + j * K.sz + i by omega]
          exact this
        · rw [List.getElem?_take, if_neg (by omega), List.getElem?_eq_none (by omega)]
      rw [e3]
      exact h1
    · intro j u hu
      rw [List.getElem?_take] at hu
      split at hu
      · rw [List.getElem?_drop, Array.getElem?_toList] at hu
        exact hu
      · cases hu

/-- The list behind a slice value, in memory as it stands. -/
theorem list_ok {ρ : Type} {s : St} {a : AV} {v : Value} {K : Kd} {kn : List K.T → Option ρ} {r : ρ} (hs : SR H φ s.st w) (hv : VC H φ s.st a v) (h : s.list a K kn = some r) :
    ∃ xs, kn xs = some r ∧ ∃ sl cap flat, v = .slice sl xs.length cap ∧ flat.length = xs.length * K.sz ∧ rowRep H K xs flat ∧
      (sl = none ∨ xs = [] ∨ ∃ b off, sl = some ⟨b, off, none⟩ ∧ ∀ j u, flat[j]? = some u → w.cell? ⟨b, off + j, none⟩ = some u) ∧ (sl = none → xs = []) := by
  have frozen : ∀ (xs : List K.T) v, reps (Rep H K) K.sz H xs v → ∃ sl cap flat, v = .slice sl xs.length cap ∧ flat.length = xs.length * K.sz ∧ rowRep H K xs flat ∧
      (sl = none ∨ xs = [] ∨ ∃ b off, sl = some ⟨b, off, none⟩ ∧ ∀ j u, flat[j]? = some u → w.cell? ⟨b, off + j, none⟩ = some u) ∧ (sl = none → xs = []) := by
    intro xs v hr
    obtain ⟨sl, cap, flat, e, _, hl, hrr, hc⟩ := reps_flat hs.hp hr
    refine ⟨sl, cap, flat, e, hl, hrr, ?_, ?_⟩
    · rcases hc with h0 | ⟨b, off, c, el, fz, e1, e2, e3⟩
      · exact .inr (.inl h0)
      · refine .inr (.inr ⟨b, off, e1, fun j u hu => ?_⟩)
        simp only [World.cell?, hs.hp _ _ e2]
        simpa using e3 j u hu
    · intro e0
      rcases hc with h0 | ⟨b, off, c, el, fz, e1, _⟩
      · exact h0
      · rw [e0] at e1; cases e1
  cases a with
  | nil =>
    simp only [St.list] at h
    simp only [VC, VF] at hv
    subst hv
    exact ⟨[], h, none, 0, [], rfl, by simp, fun j x hx => by simp at hx, .inl rfl, fun _ => rfl⟩
  | lst K' xs =>
    simp only [St.list] at h
    split at h
    · rename_i hk
      subst hk
      exact ⟨xs, h, frozen xs v hv⟩
    · cases h
  | row id =>
    simp only [St.list] at h
    obtain ⟨e, _⟩ := hv
    subst e
    cases hb : s.st[id]? with
    | none => rw [hb] at h; cases h
    | some bx =>
      rw [hb] at h
      have hbox := hs.box id bx hb
      cases bx with
      | rows t K' xs =>
        simp only at h
        split at h
        · rename_i hk
          subst hk
          obtain ⟨flat, ho, hr⟩ := hbox
          refine ⟨xs, h, ?_⟩
          rcases ho.2 with ⟨e, hn⟩ | ⟨g, cap, cur, e, _, hg, hc, hm, hsz, ht⟩
          · have h0 : xs = [] := List.length_eq_zero_iff.1 hn
            subst h0
            exact ⟨none, 0, flat, by rw [e]; rfl, ho.1, hr, .inl rfl, fun _ => rfl⟩
          · refine ⟨some ⟨g, 0, none⟩, cap, flat, e, ho.1, hr, .inr (.inr ⟨g, 0, rfl, fun j u hu => ?_⟩), fun e0 => by cases e0⟩
            have := ho.cells (g := g) (by rw [e]; rfl) j u hu
            have hadd : (⟨g, 0, none⟩ : Addr).add j = ⟨g, 0 + j, none⟩ := by unfold Addr.add; split <;> simp_all
            rw [hadd] at this
            exact this
        · cases h
      | mrow t K' xs =>
        simp only at h
        split at h
        · rename_i hk
          subst hk
          obtain ⟨flat, ho, hr⟩ := hbox
          refine ⟨xs, h, ?_⟩
          rcases ho.2 with ⟨e, hn⟩ | ⟨g, cap, cur, e, _, hg, hc, hm, hsz, ht⟩
          · have h0 : xs = [] := List.length_eq_zero_iff.1 hn
            subst h0
            exact ⟨none, 0, flat, by rw [e]; rfl, ho.1, hr, .inl rfl, fun _ => rfl⟩
          · refine ⟨some ⟨g, 0, none⟩, cap, flat, e, ho.1, hr, .inr (.inr ⟨g, 0, rfl, fun j u hu => ?_⟩), fun e0 => by cases e0⟩
            have := ho.cells (g := g) (by rw [e]; rfl) j u hu
            have hadd : (⟨g, 0, none⟩ : Addr).add j = ⟨g, 0 + j, none⟩ := by unfold Addr.add; split <;> simp_all
            rw [hadd] at this
            exact this
        · cases h
      | frz K' xs =>
        simp only at h
        split at h
        · rename_i hk
          subst hk
          exact ⟨xs, h, frozen xs _ hbox.1⟩
        · cases h
      | var cs => cases h
      | dead => cases h
  | _ => cases h

end Go.Proofs.Ytnbfkndicldppaa.Core
