/- Regions that draw their order: operations that touch nothing are taken first, all others come in one order. -/
import Derived.Test.YtlegaocnobapgaaOps
import Derived.OrdersHeld
namespace Go.Proofs.Ytlegaocnobapgaa.Core
open Go

variable {P : Program}

abbrev Pend := List (Nat × (World → Prop))
def cutP (anc : List Nat) : Pend → Pend
  | [] => []
  | p :: r => if hasN anc p.1 = true then cutP anc r else p :: cutP anc r
theorem cutP_sub {anc : List Nat} : ∀ {T : Pend}, ∀ p ∈ cutP anc T, p ∈ T ∧ hasN anc p.1 = false
  | [], p, h => by cases h
  | q :: r, p, h => by
    simp only [cutP] at h
    split at h
    · obtain ⟨h1, h2⟩ := cutP_sub p h
      exact ⟨by simp [h1], h2⟩
    · rename_i hq
      rcases List.mem_cons.1 h with rfl | h
      · exact ⟨by simp, by simpa using hq⟩
      · obtain ⟨h1, h2⟩ := cutP_sub p h
        exact ⟨by simp [h1], h2⟩
theorem cutP_mem {anc : List Nat} : ∀ {T : Pend} {p}, p ∈ T → hasN anc p.1 = false → p ∈ cutP anc T
  | [], p, h, _ => by cases h
  | q :: r, p, h, hn => by
    simp only [cutP]
    rcases List.mem_cons.1 h with rfl | h
    · rw [if_neg (by rw [hn]; simp)]; simp
    · split
      · exact cutP_mem h hn
      · exact List.mem_cons_of_mem _ (cutP_mem h hn)

theorem cutP_keep {anc : List Nat} {i : Nat} {C : World → Prop} {T : Pend} (h : hasN anc i = false) : cutP anc ((i, C) :: T) = (i, C) :: cutP anc T := by
  show (if hasN anc i = true then cutP anc T else (i, C) :: cutP anc T) = _
  rw [h]
  rfl

/-- Whatever order is picked from here on; what loads read that were taken ahead stays as it is, until somebody waits for them. -/
def wpAnyG (P : Program) (ops : Array Oper) (Q : Exit → Act → World → Prop) (anc : Nat → List Nat) : Nat → Pend → Array Bool → Act → World → Prop
  | 0, _, listed, a, w => Region.ready .any ops listed = [] ∧ Q .normal a w
  | fuel + 1, T, listed, a, w =>
    (Region.ready .any ops listed = [] → Q .normal a w) ∧
    ∀ i ∈ Region.ready .any ops listed, wpOp P ops Q i (fun a' w' => (∀ p ∈ cutP (anc i) T, p.2 w') ∧ wpAnyG P ops Q anc fuel (cutP (anc i) T) (listed.setIfInBounds i true) a' w') a w

theorem wpAny_of_G {ops : Array Oper} {Q : Exit → Act → World → Prop} {anc : Nat → List Nat} : ∀ (fuel : Nat) (T : Pend) (listed : Array Bool) (a : Act) (w : World), wpAnyG P ops Q anc fuel T listed a w → wpAny P .any ops Q fuel listed a w
  | 0, _, _, _, _, h => h
  | fuel + 1, _, _, _, _, h => ⟨h.1, fun i hi => wpOp_mono (fun a' w' h' => wpAny_of_G fuel _ _ a' w' h'.2) (h.2 i hi)⟩

theorem wpAnyG_weaken {ops : Array Oper} {Q : Exit → Act → World → Prop} {anc : Nat → List Nat} : ∀ (fuel : Nat) {T T' : Pend} (listed : Array Bool) (a : Act) (w : World), (∀ p ∈ T', p ∈ T) → wpAnyG P ops Q anc fuel T listed a w → wpAnyG P ops Q anc fuel T' listed a w
  | 0, _, _, _, _, _, _, h => h
  | fuel + 1, T, T', _, _, _, hs, h => ⟨h.1, fun i hi => wpOp_mono (fun a' w' h' => by
      have hsub : ∀ p ∈ cutP (anc i) T', p ∈ cutP (anc i) T := fun p hp => by
        obtain ⟨h1, h2⟩ := cutP_sub p hp
        exact cutP_mem (hs p h1) h2
      exact ⟨fun p hp => h'.1 p (hsub p hp), wpAnyG_weaken fuel _ a' w' hsub h'.2⟩) (h.2 i hi)⟩

/-- Who has come up, all he waits for has. -/
def Shut (ops : Array Oper) (listed : Array Bool) : Prop := ∀ k o, listed.getD k false = true → ops[k]? = some o → ∀ e ∈ o.after, Region.binds .any e = true → listed.getD e.on false = true

def preds (ops : Array Oper) (i : Nat) : List Nat := match ops[i]? with
  | some o => (o.after.filter fun e => Region.binds .any e).toList.map (·.on)
  | none => []
/-- 'anc' names some of those that each operation waits for. -/
def ancB (ops : Array Oper) (anc : List (List Nat)) : Bool :=
  (List.range ops.size).all fun i => (preds ops i).all (fun p => decide (p < i)) && (anc.getD i []).all fun j => (preds ops i).any fun p => p == j || hasN (anc.getD p []) j

theorem anc_listed {ops : Array Oper} {anc : List (List Nat)} (hA : ancB ops anc = true) {listed : Array Bool} (hs : Shut ops listed) : ∀ (i : Nat), (∀ p ∈ preds ops i, listed.getD p false = true) → i < ops.size → ∀ j ∈ anc.getD i [], listed.getD j false = true := by
  intro i
  induction i using Nat.strongRecOn with
  | _ i ih =>
    intro hp hi j hj
    have h1 := List.all_eq_true.1 hA i (List.mem_range.2 hi)
    simp only [Bool.and_eq_true, List.all_eq_true, List.any_eq_true, Bool.or_eq_true, beq_iff_eq, decide_eq_true_eq] at h1
    obtain ⟨p, hpm, hpj⟩ := h1.2 j hj
    rcases hpj with rfl | hpj
    · exact hp p hpm
    · have hlt := h1.1 p hpm
      refine ih p hlt (fun q hq => ?_) (by omega) j (hasN_true.1 hpj)
      unfold preds at hq
      split at hq
      · rename_i o ho
        simp only [List.mem_map, Array.mem_toList_iff, Array.mem_filter] at hq
        obtain ⟨e, ⟨he, hb⟩, rfl⟩ := hq
        exact hs p o (hp p hpm) ho e he hb
      · cases hq

theorem preds_ready {ops : Array Oper} {listed : Array Bool} {i : Nat} (h : i ∈ Region.ready .any ops listed) : (∀ p ∈ preds ops i, listed.getD p false = true) ∧ i < ops.size := by
  obtain ⟨_, o, ho, hall⟩ := mem_ready.1 h
  refine ⟨fun p hp => ?_, (Array.getElem?_eq_some_iff.1 ho).1⟩
  unfold preds at hp
  rw [ho] at hp
  simp only [List.mem_map, Array.mem_toList_iff, Array.mem_filter] at hp
  obtain ⟨e, ⟨he, hb⟩, rfl⟩ := hp
  exact hall e he hb

theorem Shut.set {ops : Array Oper} {listed : Array Bool} (hs : Shut ops listed) {i : Nat} (h : i ∈ Region.ready .any ops listed) : Shut ops (listed.setIfInBounds i true) := by
  intro k o hk ho e he hb
  by_cases hik : i = k
  · subst hik
    obtain ⟨_, o', ho', hall⟩ := mem_ready.1 h
    rw [ho] at ho'
    cases ho'
    exact getD_set_true (hall e he hb)
  · rw [getD_set_ne false hik] at hk
    exact getD_set_true (hs k o hk ho e he hb)

theorem ready_unlisted {ops : Array Oper} {listed : Array Bool} {i : Nat} (h : i ∈ Region.ready .any ops listed) : listed.getD i false = false := by
  have h0 := (mem_ready.1 h).1
  rcases Nat.lt_or_ge i listed.size with h' | h'
  · simp [h'] at h0 ⊢; exact h0
  · simp [Array.getElem?_eq_none h']

/-- An operation that may come up may be taken first, if it yields its value in every world that leaves alone what it reads. -/
theorem wpAnyG_first {ops : Array Oper} {Q : Exit → Act → World → Prop} {anc : List (List Nat)} (hA : ancB ops anc = true) {i : Nat} {oi : Oper} {v : Value} {C : World → Prop} (hi : ops[i]? = some oi)
    (hsel : ∀ (j : Nat) (o : Oper) cs b, ops[j]? = some o → o.op ≠ .select cs b) (hQ : ∀ c a w, Q (.panic c) (a.put oi.dst v) w → Q (.panic c) a w) :
    ∀ (fuel : Nat) (T : Pend) (listed : Array Bool) (a : Act) (w : World), Shut ops listed →
      (∀ j oj, ops[j]? = some oj → j ≠ i → listed.getD j true = false → (∀ e ∈ oj.after, Region.binds .any e = true → e.on ≠ i) → oi.apart ops oj = true) →
      i ∈ Region.ready .any ops listed → YieldsIf P ops C oi v a → C w → (∀ p ∈ T, p.2 w) →
      wpAnyG P ops Q (fun i => anc.getD i []) fuel ((i, C) :: T) (listed.setIfInBounds i true) (a.put oi.dst v) w → wpAnyG P ops Q (fun i => anc.getD i []) (fuel + 1) T listed a w := by
  intro fuel
  induction fuel with
  | zero =>
    intro T listed a w hsh _ hr hy hC hT H
    refine ⟨fun h => (by rw [h] at hr; cases hr), fun j hj => ?_⟩
    by_cases hji : j = i
    · subst hji; exact hy.wpOp hi hC ⟨fun p hp => hT p (cutP_sub p hp).1, H⟩
    · have := ready_mono hj hji
      rw [H.1] at this
      cases this
  | succ fuel ih =>
    intro T listed a w hsh hfree hr hy hC hT H
    refine ⟨fun h => (by rw [h] at hr; cases hr), fun j hj => ?_⟩
    by_cases hji : j = i
    · subst hji
      refine hy.wpOp hi hC ⟨fun p hp => hT p (cutP_sub p hp).1, wpAnyG_weaken _ _ _ _ (fun p hp => ?_) H⟩
      exact List.mem_cons_of_mem _ (cutP_sub p hp).1
    · have h1 := H.2 j (ready_mono hj hji)
      obtain ⟨hjun, oj, hoj, hall⟩ := mem_ready.1 hj
      have hnot : ∀ e ∈ oj.after, Region.binds .any e = true → e.on ≠ i := fun e he hb heq => by
        have h1 := hall e he hb
        have h0 := ready_unlisted hr
        rw [heq] at h1
        rw [h0] at h1
        cases h1
      have hnanc : hasN (anc.getD j []) i = false := by
        rw [hasN_false]
        intro hm
        have := anc_listed hA hsh j (preds_ready hj).1 (preds_ready hj).2 i hm
        rw [ready_unlisted hr] at this
        cases this
      have hcut : cutP (anc.getD j []) ((i, C) :: T) = (i, C) :: cutP (anc.getD j []) T := cutP_keep hnanc
      simp only [hcut] at h1
      have h2 := wpOp_putIf hoj (hfree j oj hoj hji hjun hnot) (fun cs b => hsel i oi cs b hi) (fun cs b => hsel j oj cs b hoj) hQ hy h1
      have hfree' : ∀ k ok, ops[k]? = some ok → k ≠ i → (listed.setIfInBounds j true).getD k true = false →
          (∀ e ∈ ok.after, Region.binds .any e = true → e.on ≠ i) → oi.apart ops ok = true := fun k ok hk hki hun hno => by
        refine hfree k ok hk hki ?_ hno
        by_cases hjk : j = k
        · subst hjk; exact hjun
        · rw [getD_set_ne true hjk] at hun; exact hun
      refine wpOp_mono (fun a' w' h3 => ?_) h2
      obtain ⟨hy', hp', hG⟩ := h3
      have hC' : C w' := hp' (i, C) (by simp)
      have hT' : ∀ p ∈ cutP (anc.getD j []) T, p.2 w' := fun p hp => hp' p (List.mem_cons_of_mem _ hp)
      refine ⟨hT', ih _ (listed.setIfInBounds j true) a' w' (hsh.set hj) hfree' (ready_mono hr (Ne.symm hji)) hy' hC' hT' ?_⟩
      rw [Array.setIfInBounds_comm _ _ hji]
      exact hG

theorem wp_info {o : Oper} {a : Act} {w : World} {I : Prop} (h : o.wp P a w (fun _ _ => I) (fun _ _ _ => I)) : I := by
  unfold Oper.wp at h
  generalize (execOp a.eval o).run P w = r at h
  cases r with
  | ok n w' =>
    cases n <;> simp only [Oper.upon] at h <;> try exact h
    case enter f args =>
      obtain ⟨e, w2, fr, hr, _⟩ := h []
      cases e with
      | returned v => exact hr
      | panicked c => exact hr
      | outgrown => exact hr.elim fun _ h => h.elim fun _ h => h
    case row row args =>
      obtain ⟨v, w2, hr, _⟩ := h default []
      exact hr
  | halt x w' =>
    cases x <;> simp only [Oper.upon] at h
    case panic v => exact h

def gB (ops : Array Oper) (o : Oper) : Option (Nat × Bool) → Bool
  | none => o.guard.isNone
  | some g => match o.guard with
    | some (j, want) => want == g.2 && gTmp ops j == some g.1
    | none => false

/-- A tree of steps against a region. -/
def dtB (P : Program) (n : Nat) (ops : Array Oper) : DT → Array Bool → Bool
  | .done, L => (Region.ready .any ops L).isEmpty
  | .take i g ao r, L => (Region.ready .any ops L).contains i && Region.free .any ops L i && ao.isVal && (match ops[i]? with
      | some o => gB ops o g && opB P n o ao && decide (o.dst.toList = ao.dsts)
      | none => false) && dtB P n ops r (L.setIfInBounds i true)
  | .skip i g d r, L => (Region.ready .any ops L).contains i && Region.free .any ops L i && (match ops[i]? with
      | some o => gB ops o (some g) && decide (o.dst = d) && (match d with | some d => decide (d < n) | none => true)
      | none => false) && dtB P n ops r (L.setIfInBounds i true)
  | .only i g ao r, L => decide (Region.ready .any ops L = [i]) && (match ops[i]? with
      | some o => gB ops o g && opB P n o ao && decide (o.dst.toList = ao.dsts)
      | none => false) && dtB P n ops r (L.setIfInBounds i true)
  | .test _ a b, L => dtB P n ops a L && dtB P n ops b L

def drawB (P : Program) (n : Nat) (ops : Array Oper) (anc : List (List Nat)) (t : DT) : Bool :=
  P.follows .mixedOrders && Region.noSelect ops && ancB ops anc && dtB P n ops t (Array.replicate ops.size false) && decide (t.depth ≤ ops.size)

theorem tmp_bool {H : HP} {φ : Phi} {s : St} {act : Act} (hf : FrR H φ s.st s.fr act.tmps) {c : Nat} {t : Bool} (h : getT s.fr c = .bool t) : act.tmps[c]? = some (.bool t) := by
  have hfc := hf c
  rw [h] at hfc
  have hfc : act.tmps.getD c undef = .bool t := hfc
  rw [Array.getD_eq_getD_getElem?] at hfc
  cases hq : act.tmps[c]? with
  | none => rw [hq] at hfc; cases hfc
  | some v => rw [hq] at hfc; simpa using hfc

theorem gOk_wanted {H : HP} {φ : Phi} {s : St} {act : Act} {ops : Array Oper} {o : Oper} {g : Option (Nat × Bool)} (hf : FrR H φ s.st s.fr act.tmps) (h : gOk s g = true) (hb : gB ops o g = true) : Region.wanted o (yielded ops act.tmps) = true := by
  cases g with
  | none =>
    simp only [gB, Option.isNone_iff_eq_none] at hb
    exact wanted_met hb trivial
  | some g =>
    simp only [gB] at hb
    split at hb
    · rename_i j want hg
      simp only [Bool.and_eq_true, beq_iff_eq] at hb
      obtain ⟨rfl, hb2⟩ := hb
      simp only [gOk] at h
      split at h
      · rename_i t ht
        simp only [beq_iff_eq] at h
        subst h
        exact wanted_met hg ⟨g.1, hb2, tmp_bool hf ht⟩
      · cases h
    · cases hb
theorem gNot_wanted {H : HP} {φ : Phi} {s : St} {act : Act} {ops : Array Oper} {o : Oper} {g : Nat × Bool} (hf : FrR H φ s.st s.fr act.tmps) (h : gNot s g = true) (hb : gB ops o (some g) = true) : Region.wanted o (yielded ops act.tmps) = false := by
  simp only [gB] at hb
  split at hb
  · rename_i j want hg
    simp only [Bool.and_eq_true, beq_iff_eq] at hb
    obtain ⟨rfl, hb2⟩ := hb
    refine wanted_not hg hb2 ?_
    unfold gNot at h
    split at h
    · rename_i t ht
      rw [tmp_bool hf ht]
      intro e
      cases e
      simp at h
    · rename_i ht
      have hv := hf g.1
      rw [ht] at hv
      have hv : act.tmps.getD g.1 undef = undef := hv
      intro e
      rw [Array.getD_eq_getD_getElem?, e] at hv
      cases hv
    · cases h
  · cases hb

/-- What is known of loads that were taken ahead. -/
def PendR (act : Act) (w : World) (T : List (Nat × Nat)) (TT : Pend) : Prop :=
  ∀ p ∈ TT, p.2 w ∧ ((∀ w2, p.2 w2) ∨ ∃ x, (p.1, x) ∈ T ∧ ∃ w0 : World, p.2 = fun w2 => ∀ b, blk (act.tmps.getD x undef) = some b → w2.heap[b]? = w0.heap[b]?)

theorem freshT_ok {ds : List Nat} : ∀ {T : List (Nat × Nat)}, freshT ds T = true → ∀ p ∈ T, p.2 ∉ ds
  | [], _, p, hp => by cases hp
  | q :: r, h, p, hp => by
    simp only [freshT, Bool.and_eq_true, Bool.not_eq_true'] at h
    rcases List.mem_cons.1 hp with rfl | hp
    · exact hasN_false.1 h.1
    · exact freshT_ok h.2 p hp

theorem getD_put {act : Act} {dst : Option Tmp} {v : Value} {t : Nat} (h : dst ≠ some t) : (act.put dst v).tmps.getD t undef = act.tmps.getD t undef := by
  rw [Array.getD_eq_getD_getElem?, Array.getD_eq_getD_getElem?, put_other h]

theorem PendR.put {act : Act} {w : World} {T : List (Nat × Nat)} {TT : Pend} (h : PendR act w T TT) {dst : Option Tmp} {v : Value} (hf : freshT dst.toList T = true) : PendR (act.put dst v) w T TT := by
  intro p hp
  obtain ⟨h1, h2⟩ := h p hp
  refine ⟨h1, ?_⟩
  rcases h2 with h2 | ⟨x, hx, w0, e⟩
  · exact .inl h2
  · refine .inr ⟨x, hx, w0, ?_⟩
    have := freshT_ok hf _ hx
    rw [getD_put (fun e => this (by rw [e]; simp))]
    exact e

theorem pendCut_mem {anc : List Nat} : ∀ {T : List (Nat × Nat)} {p}, p ∈ T → hasN anc p.1 = false → p ∈ pendCut anc T
  | [], p, h, _ => by cases h
  | q :: r, p, h, hn => by
    simp only [pendCut]
    rcases List.mem_cons.1 h with rfl | h
    · rw [if_neg (by rw [hn]; simp)]; simp
    · split
      · exact pendCut_mem h hn
      · exact List.mem_cons_of_mem _ (pendCut_mem h hn)
theorem pendOk_ok {anc tch : List Nat} {s : St} : ∀ {T : List (Nat × Nat)}, pendOk anc tch s T = true → ∀ p ∈ T, hasN anc p.1 = false → (getT s.fr p.2).clear tch = true
  | [], _, p, hp, _ => by cases hp
  | q :: r, h, p, hp, hn => by
    simp only [pendOk, Bool.and_eq_true, Bool.or_eq_true] at h
    rcases List.mem_cons.1 hp with rfl | hp
    · rcases h.1 with h1 | h1
      · rw [hn] at h1; cases h1
      · exact h1
    · exact pendOk_ok h.2 p hp hn

/-- What a load that was taken ahead reads is not touched. -/
theorem untouched {H H' : HP} {φ φ' : Phi} {s : St} {st' : List Box} {w w' : World} {v : Value} {a : AV} {tch : List Nat} (hs : SR H φ s.st w) (hst : Step H φ s.st w H' φ' st' w') (hm : Mem tch φ s.st w w') (hv : VA H φ s.st a v)
    (h : a.clear tch = true) : ∀ b, blk v = some b → w'.heap[b]? = w.heap[b]? := by
  intro b hb
  have keepH : ∀ o, H b = some o → w'.heap[b]? = w.heap[b]? := fun o ho => by rw [hst.sr.hp b o (hst.le b o ho), hs.hp b o ho]
  cases a with
  | ptr id off =>
    obtain ⟨hva, b0, e1, e2⟩ := hv
    rw [e2] at hb
    cases hb
    unfold varAt at hva
    split at hva
    · rename_i cs hid
      exact hm id _ hid rfl (hasN_false.1 (by simpa [AV.clear] using h)) b0 (by rw [e1]; rfl)
    · cases hva
  | eptr id i off =>
    obtain ⟨b0, n, cap, K, hk, hi, e1, e2⟩ := hv
    rw [e2] at hb
    cases hb
    unfold kindAt at hk
    split at hk
    · rename_i t K' xs hid
      exact hm id _ hid rfl (hasN_false.1 (by simpa [AV.clear] using h)) b0 (by rw [e1]; rfl)
    · rename_i K' xs hid
      cases hk
      obtain ⟨⟨sl, cap', e3, _, hr⟩, _⟩ := hs.box id _ hid
      rcases hr with rfl | ⟨b1, o1, c, el, fz, e4, e5, _⟩
      · simp at hi
      · rw [e1] at e3
        simp only [Value.slice.injEq] at e3
        rw [e4] at e3
        obtain ⟨e6, _⟩ := e3
        simp only [Option.some.injEq, Addr.mk.injEq] at e6
        obtain ⟨rfl, _⟩ := e6
        exact keepH _ e5
    · cases hk
  | fptr cs off =>
    obtain ⟨b0, o, c, el, fz, e, hb0, _⟩ := hv
    rw [e] at hb
    cases hb
    exact keepH _ hb0
  | _ => cases h

theorem load_val {n : Nat} {o : Oper} {d x : Nat} {m : Option Nat} (h : loadB P n o d (.t x) m = true) : ∃ t, o.op = .load t (.tmp x) := by
  simp only [loadB, Bool.and_eq_true] at h
  have h2 := h.2
  split at h2
  · rename_i t y ho
    simp only [Bool.and_eq_true] at h2
    have := h2.1
    cases y <;> simp [opdB] at this
    subst this
    exact ⟨t, ho⟩
  · cases h2

theorem load_only {n : Nat} {o : Oper} {ao : AOp} {t : TypeId} {y : Operand} {ρ : Type} {kn : St → Option ρ} {r : ρ} {cal : Cal} {s : St} (hb : opB P n o ao = true) (hop : o.op = .load t y) (hv : ao.isVal = true) (hk : opK cal kn s ao = some r) :
    ∃ d x m, ao = .load d (.t x) m := by
  cases ao <;> first | cases hv | skip
  case load d x m =>
    cases x with
    | t x => exact ⟨d, x, m, rfl⟩
    | c a =>
      exfalso
      simp only [opB, loadB, hop, Bool.and_eq_true] at hb
      simp only [opK, St.opd] at hk
      have h2 := hb.2.1
      cases y with
      | const v =>
        have h3 : a = .undef ∨ constB v a = true := by cases a <;> first | exact .inl rfl | exact .inr h2
        rcases h3 with rfl | h3
        · simp [St.behind] at hk
        · have := constB_ok (H := fun _ => none) (v := v) (a := a) h3
          cases a <;> first | exact this.elim | (simp [St.behind] at hk)
      | func f =>
        cases a <;> first | (simp [opdB] at h2; done) | (simp [St.behind] at hk)
      | tmp t => simp [opdB] at h2
      | global g => simp [opdB] at h2
  all_goals (exfalso; simp [opB, mvB, pickB, nilcB, binB, eqsB, unB, cviB, fldB, fieldB, idxB, sidxB, slB, fnB, lenB, extB, buildB, hop] at hb)

theorem dt_ok {n : Nat} {ops : Array Oper} {anc : List (List Nat)} {cal : Cal} (hcal : CallOk P cal) (hA : ancB ops anc = true) (hsel : Region.noSelect ops = true) {ρ : Type} {kn : St → Option ρ} {r : ρ} {N : Act → World → Prop} :
    ∀ (t : DT) (fuel : Nat) (T : List (Nat × Nat)) (TT : Pend) (listed : Array Bool) (s : St) (act : Act) (w : World) (H : HP) (φ : Phi), dtB P n ops t listed = true → t.depth ≤ fuel → Shut ops listed →
      SR H φ s.st w → FrR H φ s.st s.fr act.tmps → act.tmps.size = n → PendR act w T TT → dK cal anc kn t T s = some r →
      (∀ s' act' w' H' φ', kn s' = some r → Step H φ s.st w H' φ' s'.st w' → FrR H' φ' s'.st s'.fr act'.tmps → act'.tmps.size = n → act'.defers = act.defers → N act' w') →
      wpAnyG P ops (fun e a w => match e with | .normal => N a w | _ => False) (fun i => anc.getD i []) fuel TT listed act w := by
  intro t
  induction t with
  | done =>
    intro fuel T TT listed s act w H φ hb _ _ hs hf hn _ hk hN
    simp only [dtB, List.isEmpty_iff] at hb
    have hq := hN s act w H φ hk (Step.refl hs) hf hn rfl
    cases fuel with
    | zero => exact ⟨hb, hq⟩
    | succ fuel => exact ⟨fun _ => hq, fun i hi => by rw [hb] at hi; cases hi⟩
  | test c a b iha ihb =>
    intro fuel T TT listed s act w H φ hb hd hsh hs hf hn hp hk hN
    simp only [dtB, Bool.and_eq_true] at hb
    simp only [DT.depth] at hd
    simp only [dK] at hk
    split at hk
    · rename_i t ht
      have hfc : ∀ t', t = t' → FrR H φ (s.put c (.bool t')).st (s.put c (.bool t')).fr act.tmps := by
        intro t' e q
        subst e
        simp only [St.put, getT]
        split
        · rename_i e; subst e; have := hf c; rw [ht] at this; exact this
        · exact hf q
      split at hk
      · rename_i e
        exact iha fuel T TT listed (s.put c (.bool true)) act w H φ hb.1 (by omega) hsh hs (hfc true e) hn hp hk hN
      · rename_i e
        exact ihb fuel T TT listed (s.put c (.bool false)) act w H φ hb.2 (by omega) hsh hs (hfc false (by simpa using e)) hn hp hk hN
    · cases hk
  | skip i g d rt ih =>
    intro fuel T TT listed s act w H φ hb hd hsh hs hf hn hp hk hN
    simp only [dtB, Bool.and_eq_true] at hb
    obtain ⟨⟨⟨hr, hfree⟩, ho⟩, hb⟩ := hb
    split at ho
    case h_2 => cases ho
    rename_i o hoi
    simp only [Bool.and_eq_true, decide_eq_true_eq] at ho
    obtain ⟨⟨hg, rfl⟩, hdn⟩ := ho
    simp only [DT.depth] at hd
    simp only [dK] at hk
    split at hk
    case isFalse => cases hk
    rename_i hc
    simp only [Bool.and_eq_true] at hc
    obtain ⟨fuel, rfl⟩ : ∃ k, fuel = k + 1 := ⟨fuel - 1, by omega⟩
    have hri : i ∈ Region.ready .any ops listed := by simpa using hr
    have hsnd := Region.noSelect_spec hsel
    refine wpAnyG_first hA (C := fun _ => True) hoi hsnd (fun c a w h => h) fuel TT listed act w hsh (Region.free_spec hoi hfree) hri (.inr ⟨gNot_wanted hf hc.1 hg, rfl⟩) trivial (fun p hp' => (hp p hp').1) ?_
    have hf2 : FrR H φ s.st (putO o.dst .void s.fr) (act.put o.dst undef).tmps := by
      cases hdst : o.dst with
      | none => exact hf
      | some d =>
        rw [hdst] at hdn
        simp only [decide_eq_true_eq] at hdn
        exact hf.put (a := .void) (v := undef) (by omega) rfl
    refine ih fuel T _ _ ⟨putO o.dst .void s.fr, s.st⟩ _ w H φ hb (by omega) (hsh.set hri) hs hf2 (put_size.trans hn) ?_ hk fun s' act' w' H' φ' h1 h2 h3 h4 h5 => hN s' act' w' H' φ' h1 h2 h3 h4 (h5.trans put_defers)
    intro p hp'
    rcases List.mem_cons.1 hp' with rfl | hp'
    · exact ⟨trivial, .inl fun _ => trivial⟩
    · exact (hp.put hc.2) p hp'
  | take i g ao rt ih =>
    intro fuel T TT listed s act w H φ hb hd hsh hs hf hn hp hk hN
    simp only [dtB, Bool.and_eq_true] at hb
    obtain ⟨⟨⟨⟨hr, hfree⟩, hval⟩, ho⟩, hb⟩ := hb
    split at ho
    case h_2 => cases ho
    rename_i o hoi
    simp only [Bool.and_eq_true, decide_eq_true_eq] at ho
    obtain ⟨⟨hg, hob⟩, hds⟩ := ho
    simp only [DT.depth] at hd
    simp only [dK] at hk
    split at hk
    case isFalse => cases hk
    rename_i hc
    simp only [Bool.and_eq_true] at hc
    obtain ⟨hc, hns⟩ := hc
    obtain ⟨fuel, rfl⟩ : ∃ k, fuel = k + 1 := ⟨fuel - 1, by omega⟩
    have hri : i ∈ Region.ready .any ops listed := by simpa using hr
    have hsnd := Region.noSelect_spec hsel
    have info : ∃ s' v H' φ', dK cal anc kn rt (pendAdd i ao T) s' = some r ∧ Step H φ s.st w H' φ' s'.st w ∧ FrR H' φ' s'.st s'.fr (act.put o.dst v).tmps ∧ ∀ w2, ReadsSame o act w w2 → (execOp act.eval o).run P w2 = .ok (.value v) w2 := by
      refine wp_info (P := P) (o := o) (a := act) (w := w) (opB_ok hcal hob ρ (fun s' => dK cal anc kn rt (pendAdd i ao T) s') r s act w H φ _ _ hs hf hn hk fun s' v w' H' φ' h1 h2 h3 h4 => ?_)
      obtain ⟨e, h5⟩ := h4.val hval
      subst e
      exact ⟨s', v, H', φ', h1, h2, h3, h5⟩
    obtain ⟨s', v, H', φ', hk', hst, hf', hrun⟩ := info
    refine wpAnyG_first hA (C := ReadsSame o act w) hoi hsnd (fun c a w h => h) fuel TT listed act w hsh (Region.free_spec hoi hfree) hri (.inl ⟨gOk_wanted hf hc.1 hg, hrun⟩) (ReadsSame.refl o act w) (fun p hp' => (hp p hp').1) ?_
    have hfr : freshT o.dst.toList T = true := by rw [hds]; exact hc.2
    refine ih fuel _ _ _ s' _ w H' φ' hb (by omega) (hsh.set hri) hst.sr hf' (put_size.trans hn) ?_ hk' fun s2 act' w' H2 φ2 h1 h2 h3 h4 h5 => hN s2 act' w' H2 φ2 h1 (hst.trans h2) h3 h4 (h5.trans put_defers)
    intro p hp'
    rcases List.mem_cons.1 hp' with rfl | hp'
    · refine ⟨ReadsSame.refl o act w, ?_⟩
      by_cases hload : ∃ d x m, ao = .load d (.t x) m
      · obtain ⟨d, x, m, rfl⟩ := hload
        simp only [opB] at hob
        obtain ⟨t, ht⟩ := load_val hob
        right
        have hxd : o.dst ≠ some x := by
          have hd1 : o.dst = some d := by
            simp only [loadB, Bool.and_eq_true] at hob
            exact (dstB_ok hob.1).1
          rw [hd1]
          intro e
          cases e
          simp [AOp.notSelf] at hns
        refine ⟨x, by simp [pendAdd], w, ?_⟩
        funext w2
        simp only [ReadsSame, ht, Act.eval]
        rw [getD_put hxd]
      · left
        intro w2
        unfold ReadsSame
        split
        · rename_i t y hop
          exfalso
          apply hload
          exact load_only hob hop hval hk
        · trivial
    · obtain ⟨h1, h2⟩ := (hp.put hfr) p hp'
      refine ⟨h1, ?_⟩
      rcases h2 with h2 | ⟨x, hx, w0, e⟩
      · exact .inl h2
      · refine .inr ⟨x, ?_, w0, e⟩
        unfold pendAdd
        split
        · exact List.mem_cons_of_mem _ hx
        · exact hx
  | only i g ao rt ih =>
    intro fuel T TT listed s act w H φ hb hd hsh hs hf hn hp hk hN
    simp only [dtB, Bool.and_eq_true, decide_eq_true_eq] at hb
    obtain ⟨⟨hr, ho⟩, hb⟩ := hb
    split at ho
    case h_2 => cases ho
    rename_i o hoi
    simp only [Bool.and_eq_true, decide_eq_true_eq] at ho
    obtain ⟨⟨hg, hob⟩, hds⟩ := ho
    simp only [DT.depth] at hd
    simp only [dK] at hk
    split at hk
    case isFalse => cases hk
    rename_i hc
    simp only [Bool.and_eq_true] at hc
    obtain ⟨fuel, rfl⟩ : ∃ k, fuel = k + 1 := ⟨fuel - 1, by omega⟩
    have hri : i ∈ Region.ready .any ops listed := by rw [hr]; simp
    refine ⟨fun h => (by rw [h] at hr; cases hr), fun j hj => ?_⟩
    rw [hr] at hj
    have : j = i := by simpa using hj
    subst this
    have hfr : freshT o.dst.toList T = true := by rw [hds]; exact hc.1.2
    have hanc : ∀ k ∈ anc.getD j [], k ≠ j := fun k hk e => by
      have := anc_listed hA hsh j (preds_ready hri).1 (preds_ready hri).2 k hk
      rw [e, ready_unlisted hri] at this
      cases this
    unfold wpOp
    simp only [hoi, gOk_wanted hf hc.1.1 hg, if_true]
    refine .inl (opB_ok hcal hob ρ (fun s' => dK cal anc kn rt (pendCut (anc.getD j []) T) s') r s act w H φ _ _ hs hf hn hk fun s' v w' H' φ' h1 h2 h3 h4 => ?_)
    have hpend : PendR (act.put o.dst v) w' (pendCut (anc.getD j []) T) (cutP (anc.getD j []) TT) := by
      intro p hp'
      obtain ⟨hp1, hp2⟩ := cutP_sub p hp'
      obtain ⟨q1, q2⟩ := hp p hp1
      rcases q2 with q2 | ⟨x, hx, w0, e⟩
      · exact ⟨q2 w', .inl q2⟩
      · have hxf := freshT_ok hfr _ hx
        have hgd : (act.put o.dst v).tmps.getD x undef = act.tmps.getD x undef := getD_put (fun e => hxf (by rw [e]; simp))
        refine ⟨?_, .inr ⟨x, pendCut_mem hx hp2, w0, by rw [hgd]; exact e⟩⟩
        have hun := untouched hs h2 h4.mem (hf x) (pendOk_ok hc.2 _ hx hp2)
        rw [e] at q1 ⊢
        intro b hb'
        rw [hun b hb']
        exact q1 b hb'
    exact ⟨fun p hp' => (hpend p hp').1, ih fuel _ _ _ s' _ w' H' φ' hb (by omega) (hsh.set hri) h2.sr h3 (put_size.trans hn) hpend h1 fun s2 act' w2 H2 φ2 g1 g2 g3 g4 g5 => hN s2 act' w2 H2 φ2 g1 (h2.trans g2) g3 g4 (g5.trans put_defers)⟩

theorem draw_ok {n : Nat} {id : Nat} {ops : Array Oper} {anc : List (List Nat)} {t : DT} {cal : Cal} (hcal : CallOk P cal) (h : drawB P n ops anc t = true) {ρ : Type} {kn : St → Option ρ} {r : ρ} {s : St} {act : Act} {w : World} {H : HP} {φ : Phi} {Q : Exit → Act → World → Prop}
    (hs : SR H φ s.st w) (hf : FrR H φ s.st s.fr act.tmps) (hn : act.tmps.size = n) (hk : dK cal anc kn t [] s = some r)
    (hN : ∀ s' act' w' H' φ', kn s' = some r → Step H φ s.st w H' φ' s'.st w' → FrR H' φ' s'.st s'.fr act'.tmps → act'.tmps.size = n → act'.defers = act.defers → Q .normal act' w') : (Code.region id ops true).wp P Q act w := by
  simp only [drawB, Bool.and_eq_true, decide_eq_true_eq] at h
  obtain ⟨⟨⟨⟨hm, hsel⟩, hA⟩, hb⟩, hd⟩ := h
  have hst : Step H φ s.st w H φ s.st { w with drawn := w.drawn + 1 } := Step.grow hs ⟨rfl, rfl, rfl, Nat.le_refl _, fun _ _ _ => rfl⟩
  refine wp_mono (wp_region_any hm (Q := fun e a w => match e with | .normal => Q .normal a w | _ => False) (wpAny_of_G (anc := fun i => anc.getD i []) ops.size [] _ act _ ?_)) fun e a w h => by cases e <;> first | exact h | exact h.elim
  refine dt_ok hcal hA hsel t ops.size [] [] (Array.replicate ops.size false) s act _ H φ hb hd ?_ hst.sr hf hn (fun p hp => by cases hp) hk fun s' act' w' H' φ' h1 h2 h3 h4 h5 => hN s' act' w' H' φ' h1 (hst.trans h2) h3 h4 h5
  intro k o hk' _ _ _ _
  simp [Array.getElem?_replicate] at hk'
  split at hk' <;> simp at hk'

end Go.Proofs.Ytlegaocnobapgaa.Core
