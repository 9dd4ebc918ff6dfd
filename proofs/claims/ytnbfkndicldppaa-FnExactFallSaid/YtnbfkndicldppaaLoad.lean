/- What lies behind an address, and loads from there. -/
import Derived.Test.YtnbfkndicldppaaKeep
import Derived.Deep.MidRow
namespace Go.Proofs.Ytnbfkndicldppaa.Core
open Go

variable {H : HP} {φ : Phi} {st : List Box} {w : World} {P : Program}

theorem behind_ok {s : St} {a : AV} {v : Value} {cs : List AV} {off : Nat} (hs : SR H φ s.st w) (hv : VC H φ s.st a v) (h : s.behind a = some (cs, off)) :
    ∃ b o vs, v = .pointer (some ⟨b, o + off, none⟩) ∧ All2 (VC H φ s.st) cs vs ∧ w.rangeAt b o vs := by
  cases a with
  | fptr cs' off' =>
    cases h
    obtain ⟨b, o, c, el, fz, e, hb, vs, h1, h2⟩ := hv
    refine ⟨b, o, vs, e, (VFs_iff.1 h1).imp fun _ _ h => VC.of_VF h, fun j u hu => ?_⟩
    simp only [World.cell?, hs.hp _ _ hb]
    simpa using h2 j u hu
  | ptr id off' =>
    obtain ⟨_, b, e1, e2⟩ := hv
    simp only [St.behind] at h
    cases hb : s.st[id]? with
    | none => rw [hb] at h; cases h
    | some bx =>
      rw [hb] at h
      cases bx with
      | var cs' =>
        cases h
        obtain ⟨b', c, el, e3, hh, hc⟩ := hs.box id _ hb
        rw [e1] at e3
        cases e3
        refine ⟨b, 0, c.toList, by rw [e2]; simp, all2_of hc.length fun j a u ha hu => ?_, fun j u hu => ?_⟩
        · have hw := hc.at ha hu
          cases a with
          | row i =>
            obtain ⟨g1, b2, g2, g3⟩ := hs.cell id _ hb j i ha
            rw [e1] at g2
            cases g2
            simp only [World.cell?, hh] at g3
            rw [Array.getElem?_toList] at hu
            simp only [Option.isSome_none, Bool.false_eq_true, if_false] at g3
            rw [hu] at g3
            cases g3
            exact ⟨rfl, g1⟩
          | was i => trivial
          | undef => trivial
          | _ => exact VC.of_VF hw
        simp only [World.cell?, hh]
        simpa using hu
      | _ => cases h
  | eptr id i off' =>
    obtain ⟨b, n, cap, K, hk, hi, e1, e2⟩ := hv
    simp only [St.behind] at h
    cases hb : s.st[id]? with
    | none => rw [hb] at h; cases h
    | some bx =>
      rw [hb] at h
      cases bx with
      | rows t K' xs =>
        cases h
        simp only [kindAt, hb, Option.some.injEq, Prod.mk.injEq] at hk
        obtain ⟨rfl, rfl⟩ := hk
        obtain ⟨flat, ho, hr⟩ := hs.box id _ hb
        have hx : xs[i]? = some (xs.getD i K'.zero) := by simp [List.getD, hi]
        obtain ⟨vs, r1, r2, r3⟩ := rowRep_get hr ho.1 hx
        refine ⟨b, i * K'.sz, vs, e2, (VFs_iff.1 (VFs.of_rep r1)).imp fun _ _ h => VC.of_VF h, fun j u hu => ?_⟩
        have := ho.cells (g := b) (by rw [e1]; rfl) (i * K'.sz + j) u (r3 j u hu)
        rw [Addr.add_mid] at this
        simpa using this
      | mrow t K' xs =>
        cases h
        simp only [kindAt, hb, Option.some.injEq, Prod.mk.injEq] at hk
        obtain ⟨rfl, rfl⟩ := hk
        obtain ⟨flat, ho, hr⟩ := hs.box id _ hb
        have hx : xs[i]? = some (xs.getD i K'.zero) := by simp [List.getD, hi]
        obtain ⟨vs, r1, r2, r3⟩ := rowRep_get hr ho.1 hx
        refine ⟨b, i * K'.sz, vs, e2, (VFs_iff.1 (VFs.of_rep r1)).imp fun _ _ h => VC.of_VF h, fun j u hu => ?_⟩
        have := ho.cells (g := b) (by rw [e1]; rfl) (i * K'.sz + j) u (r3 j u hu)
        rw [Addr.add_mid] at this
        simpa using this
      | frz K' xs =>
        cases h
        simp only [kindAt, hb, Option.some.injEq, Prod.mk.injEq] at hk
        obtain ⟨rfl, rfl⟩ := hk
        obtain ⟨hr, ha⟩ := hs.box id _ hb
        obtain ⟨sl, cap', e3, _, hr⟩ := hr
        have hx : xs[i]? = some (xs.getD i K'.zero) := by simp [List.getD, hi]
        rcases hr with h0 | ⟨b', o', c, el, fz, e4, e5, e6⟩
        · rw [h0] at hi; simp at hi
        · obtain ⟨vs, r1, r2, r3⟩ := e6 i _ hx
          rw [e1] at e3
          simp only [Value.slice.injEq] at e3
          rw [e4] at e3
          obtain ⟨e7, _⟩ := e3
          simp only [Option.some.injEq, Addr.mk.injEq] at e7
          obtain ⟨rfl, rfl, _⟩ := e7
          refine ⟨b, i * K'.sz, vs, e2, (VFs_iff.1 (VFs.of_rep r1)).imp fun _ _ h => VC.of_VF h, fun j u hu => ?_⟩
          have := r3 j u hu
          simp only [World.cell?, hs.hp _ _ e5]
          simpa using this
      | _ => cases h
  | _ => cases h

def szB (P : Program) (t : TypeId) (n : Nat) : Bool := (P.info? t).map (·.size) == some n
def aggB (P : Program) (t : TypeId) (b : Bool) : Bool :=
  match P.underlying t with
  | some (.struct _) => b
  | some (.array _ _) => b
  | some _ => !b
  | none => false

theorem szB_spec {t : TypeId} {n : Nat} (h : szB P t n = true) : (P.info? t).map (·.size) = some n := by simpa [szB] using h
theorem aggB_true {t : TypeId} (h : aggB P t true = true) : ∃ d, P.underlying t = some d ∧ d.isRow = true := by
  unfold aggB at h
  cases hu : P.underlying t with
  | none => simp [hu] at h
  | some d => refine ⟨d, rfl, ?_⟩; rw [hu] at h; cases d <;> simp_all [TypeDesc.isRow]
theorem aggB_false {t : TypeId} (h : aggB P t false = true) : ∃ d, P.underlying t = some d ∧ d.isRow = false := by
  unfold aggB at h
  cases hu : P.underlying t with
  | none => simp [hu] at h
  | some d => refine ⟨d, rfl, ?_⟩; rw [hu] at h; cases d <;> simp_all [TypeDesc.isRow]

theorem run_loadVar_one {b o : Nat} {t : TypeId} {u : Value} (hc : w.cell? ⟨b, o, none⟩ = some u) (ht : aggB P t false = true) :
    (loadVar t ⟨b, o, none⟩).run P w = .ok u w := by
  obtain ⟨d, hu, hd⟩ := aggB_false ht
  have hagg : (isAgg t).run P w = .ok false w := by
    unfold isAgg
    rw [Sem.run_bind, run_underlying hu w]
    cases d <;> simp_all [TypeDesc.isRow]
  simp [loadVar, Sem.run_bind, hagg, run_load, hc]

theorem rangeAt_same {w w2 : World} {b o : Nat} {vs : List Value} (h : w.rangeAt b o vs) (e : w2.heap[b]? = w.heap[b]?) : w2.rangeAt b o vs := by
  intro j u hu
  have := h j u hu
  simp only [World.cell?] at this ⊢
  rw [e]
  exact this

/-- A load, whatever else changes. -/
theorem run_load_all {s : St} {a : AV} {v : Value} {cs : List AV} {off : Nat} (hs : SR H φ s.st w) (hv : VC H φ s.st a v) (h : s.behind a = some (cs, off))
    {n : Option Nat} (hn : off + n.getD 1 ≤ cs.length) {t : TypeId} (ht : (match n with | some k => szB P t k && aggB P t true | none => aggB P t false) = true) :
    ∃ u, (∀ w2 : World, (∀ b, blk v = some b → w2.heap[b]? = w.heap[b]?) → (Instr.loadAt t v).run P w2 = .ok u w2) ∧ VA H φ s.st (part cs off n) u := by
  obtain ⟨b, o, vs, rfl, h1, h2⟩ := behind_ok hs hv h
  cases n with
  | some k =>
    simp only [Bool.and_eq_true] at ht
    simp only [Option.getD_some] at hn
    obtain ⟨d, hu, hd⟩ := aggB_true ht.2
    have h3 := (h1.drop off).take k
    have hl : ((vs.drop off).take k).length = k := by
      have := h1.length
      simp only [List.length_take, List.length_drop]
      omega
    have hr : w.rangeAt b (o + off) ((vs.drop off).take k) := by
      intro j u hu
      rw [List.getElem?_take] at hu
      split at hu
      · rw [List.getElem?_drop] at hu
        have := h2 _ _ hu
        rwa [← Nat.add_assoc] at this
      · cases hu
    refine ⟨_, fun w2 h2 => run_loadAt_mid w2 b (o + off) t _ d (rangeAt_same hr (h2 b rfl)) hu hd (by rw [hl]; exact szB_spec ht.1), ?_⟩
    exact ⟨_, rfl, by simpa using h3⟩
  | none =>
    simp only [Option.getD_none] at hn
    obtain ⟨x, hx⟩ : ∃ x, cs[off]? = some x := ⟨cs[off]'(by omega), by simp⟩
    obtain ⟨u, hu, hf⟩ := h1.get off x hx
    have hc := h2 off u hu
    refine ⟨u, fun w2 hw2 => ?_, ?_⟩
    · have hc2 : w2.cell? ⟨b, o + off, none⟩ = some u := by
        simp only [World.cell?] at hc ⊢
        rw [hw2 b rfl]
        exact hc
      simp only [Instr.loadAt, Instr.sureAddr, Sem.run_bind, Sem.run_pure, Result.andThen_ok, run_loadVar_one hc2 ht]
    · have e : part cs off none = x := by
        simp only [part]
        rw [List.headD_eq_head?_getD, List.head?_drop, hx]
        rfl
      rw [e]
      exact VA.of_VC hf

/-- A load. -/
theorem run_load_ok {s : St} {a : AV} {v : Value} {cs : List AV} {off : Nat} (hs : SR H φ s.st w) (hv : VC H φ s.st a v) (h : s.behind a = some (cs, off))
    {n : Option Nat} (hn : off + n.getD 1 ≤ cs.length) {t : TypeId} (ht : (match n with | some k => szB P t k && aggB P t true | none => aggB P t false) = true) :
    ∃ u, (Instr.loadAt t v).run P w = .ok u w ∧ VA H φ s.st (part cs off n) u := by
  obtain ⟨b, o, vs, rfl, h1, h2⟩ := behind_ok hs hv h
  cases n with
  | some k =>
    simp only [Bool.and_eq_true] at ht
    simp only [Option.getD_some] at hn
    obtain ⟨d, hu, hd⟩ := aggB_true ht.2
    have h3 := (h1.drop off).take k
    have hl : ((vs.drop off).take k).length = k := by
      have := h1.length
      simp only [List.length_take, List.length_drop]
      omega
    have hr : w.rangeAt b (o + off) ((vs.drop off).take k) := by
      intro j u hu
      rw [List.getElem?_take] at hu
      split at hu
      · rw [List.getElem?_drop] at hu
        have := h2 _ _ hu
        rwa [← Nat.add_assoc] at this
      · cases hu
    refine ⟨_, run_loadAt_mid w b (o + off) t _ d hr hu hd (by rw [hl]; exact szB_spec ht.1), ?_⟩
    exact ⟨_, rfl, by simpa using h3⟩
  | none =>
    simp only [Option.getD_none] at hn
    obtain ⟨x, hx⟩ : ∃ x, cs[off]? = some x := ⟨cs[off]'(by omega), by simp⟩
    obtain ⟨u, hu, hf⟩ := h1.get off x hx
    have hc := h2 off u hu
    refine ⟨u, ?_, ?_⟩
    · simp only [Instr.loadAt, Instr.sureAddr, Sem.run_bind, Sem.run_pure, Result.andThen_ok, run_loadVar_one hc ht]
    · have e : part cs off none = x := by
        simp only [part]
        rw [List.headD_eq_head?_getD, List.head?_drop, hx]
        rfl
      rw [e]
      exact VA.of_VC hf

end Go.Proofs.Ytnbfkndicldppaa.Core
