/- Regions that draw their order: operations that touch nothing are taken first, all others come in one order. -/
import Derived.Test.YtnbfkndicldppaaFloat
import Derived.OrdersHeld
namespace Go.Proofs.Ytnbfkndicldppaa.Core
open Go

variable {P : Program}

abbrev Pend := List (Nat × (World → Prop))
def cutP (anc : List Nat) : Pend → Pend
  | [] => []
  | p :: r => if hasN anc p.1 = true then cutP anc r else p :: cutP anc r
theorem cutP_sub {anc : List Nat} : ∀ {T : Pend}, ∀ p ∈ cutP anc T, p ∈ T ∧ hasN anc p.1 = false
  | [], p, h => by cases h
  | q :: r, p, h => by
    simp only [cutP] at h
    split at h
    · obtain ⟨h1, h2⟩ := cutP_sub p h
      exact ⟨by simp [h1], h2⟩
    · rename_i hq
      rcases List.mem_cons.1 h with rfl | h
      · exact ⟨by simp, by simpa using hq⟩
      · obtain ⟨h1, h2⟩ := cutP_sub p h
        exact ⟨by simp [h1], h2⟩
theorem cutP_mem {anc : List Nat} : ∀ {T : Pend} {p}, p ∈ T → hasN anc p.1 = false → p ∈ cutP anc T
  | [], p, h, _ => by cases h
  | q :: r, p, h, hn => by
    simp only [cutP]
    rcases List.mem_cons.1 h with rfl | h
    · rw [if_neg (by rw [hn]; simp)]; simp
    · split
      · exact cutP_mem h hn
      · exact List.mem_cons_of_mem _ (cutP_mem h hn)

theorem cutP_keep {anc : List Nat} {i : Nat} {C : World → Prop} {T : Pend} (h : hasN anc i = false) : cutP anc ((i, C) :: T) = (i, C) :: cutP anc T := by
  show (if hasN anc i = true then cutP anc T else (i, C) :: cutP anc T) = _
  rw [h]
  rfl

/-- Whatever order is picked from here on; what loads read that were taken ahead stays as it is, until somebody waits for them. -/
def wpAnyG (P : Program) (ops : Array Oper) (Q : Exit → Act → World → Prop) (anc : Nat → List Nat) : Nat → Pend → Array Bool → Act → World → Prop
  | 0, _, listed, a, w => Region.ready .any ops listed = [] ∧ Q .normal a w
  | fuel + 1, T, listed, a, w =>
    (Region.ready .any ops listed = [] → Q .normal a w) ∧
    ∀ i ∈ Region.ready .any ops listed, wpOp P ops Q i (fun a' w' => (∀ p ∈ cutP (anc i) T, p.2 w') ∧ wpAnyG P ops Q anc fuel (cutP (anc i) T) (listed.setIfInBounds i true) a' w') a w

theorem wpAny_of_G {ops : Array Oper} {Q : Exit → Act → World → Prop} {anc : Nat → List Nat} : ∀ (fuel : Nat) (T : Pend) (listed : Array Bool) (a : Act) (w : World), wpAnyG P ops Q anc fuel T listed a w → wpAny P .any ops Q fuel listed a w
  | 0, _, _, _, _, h => h
  | fuel + 1, _, _, _, _, h => ⟨h.1, fun i hi => wpOp_mono (fun a' w' h' => wpAny_of_G fuel _ _ a' w' h'.2) (h.2 i hi)⟩

theorem wpAnyG_weaken {ops : Array Oper} {Q : Exit → Act → World → Prop} {anc : Nat → List Nat} : ∀ (fuel : Nat) {T T' : Pend} (listed : Array Bool) (a : Act) (w : World), (∀ p ∈ T', p ∈ T) → wpAnyG P ops Q anc fuel T listed a w → wpAnyG P ops Q anc fuel T' listed a w
  | 0, _, _, _, _, _, _, h => h
  | fuel + 1, T, T', _, _, _, hs, h => ⟨h.1, fun i hi => wpOp_mono (fun a' w' h' => by
      have hsub : ∀ p ∈ cutP (anc i) T', p ∈ cutP (anc i) T := fun p hp => by
        obtain ⟨h1, h2⟩ := cutP_sub p hp
        exact cutP_mem (hs p h1) h2
      exact ⟨fun p hp => h'.1 p (hsub p hp), wpAnyG_weaken fuel _ a' w' hsub h'.2⟩) (h.2 i hi)⟩

/-- Who has come up, all he waits for has. -/
def Shut (ops : Array Oper) (listed : Array Bool) : Prop := ∀ k o, listed.getD k false = true → ops[k]? = some o → ∀ e ∈ o.after, Region.binds .any e = true → listed.getD e.on false = true

def preds (ops : Array Oper) (i : Nat) : List Nat := match ops[i]? with
  | some o => (o.after.filter fun e => Region.binds .any e).toList.map (·.on)
  | none => []
/-- 'anc' names some of those that each operation waits for. -/
def ancB (ops : Array Oper) (anc : List (List Nat)) : Bool :=
  (List.range ops.size).all fun i => (preds ops i).all (fun p => decide (p < i)) && (anc.getD i []).all fun j => (preds ops i).any fun p => p == j || hasN (anc.getD p []) j

theorem anc_listed {ops : Array Oper} {anc : List (List Nat)} (hA : ancB ops anc = true) {listed : Array Bool} (hs : Shut ops listed) : ∀ (i : Nat), (∀ p ∈ preds ops i, listed.getD p false = true) → i < ops.size → ∀ j ∈ anc.getD i [], listed.getD j false = true := by
  intro i
  induction i using Nat.strongRecOn with
  | _ i ih =>
    intro hp hi j hj
    have h1 := List.all_eq_true.1 hA i (List.mem_range.2 hi)
    simp only [Bool.and_eq_true, List.all_eq_true, List.any_eq_true, Bool.or_eq_true, beq_iff_eq, decide_eq_true_eq] at h1
    obtain ⟨p, hpm, hpj⟩ := h1.2 j hj
    rcases hpj with rfl | hpj
    · exact hp p hpm
    · have hlt := h1.1 p hpm
      refine ih p hlt (fun q hq => ?_) (by omega) j (hasN_true.1 hpj)
      unfold preds at hq
      split at hq
      · rename_i o ho
        simp only [List.mem_map, Array.mem_toList_iff, Array.mem_filter] at hq
        obtain ⟨e, ⟨he, hb⟩, rfl⟩ := hq
        exact hs p o (hp p hpm) ho e he hb
      · cases hq

theorem preds_ready {ops : Array Oper} {listed : Array Bool} {i : Nat} (h : i ∈ Region.ready .any ops listed) : (∀ p ∈ preds ops i, listed.getD p false = true) ∧ i < ops.size := by
  obtain ⟨_, o, ho, hall⟩ := mem_ready.1 h
  refine ⟨fun p hp => ?_, (Array.getElem?_eq_some_iff.1 ho).1⟩
  unfold preds at hp
  rw [ho] at hp
  simp only [List.mem_map, Array.mem_toList_iff, Array.mem_filter] at hp
  obtain ⟨e, ⟨he, hb⟩, rfl⟩ := hp
  exact hall e he hb

theorem Shut.set {ops : Array Oper} {listed : Array Bool} (hs : Shut ops listed) {i : Nat} (h : i ∈ Region.ready .any ops listed) : Shut ops (listed.setIfInBounds i true) := by
  intro k o hk ho e he hb
  by_cases hik : i = k
  · subst hik
    obtain ⟨_, o', ho', hall⟩ := mem_ready.1 h
    rw [ho] at ho'
    cases ho'
    exact getD_set_true (hall e he hb)
  · rw [getD_set_ne false hik] at hk
    exact getD_set_true (hs k o hk ho e he hb)

theorem ready_unlisted {ops : Array Oper} {listed : Array Bool} {i : Nat} (h : i ∈ Region.ready .any ops listed) : listed.getD i false = false := by
  have h0 := (mem_ready.1 h).1
  rcases Nat.lt_or_ge i listed.size with h' | h'
  · simp [h'] at h0 ⊢; exact h0
  · simp [Array.getElem?_eq_none h']

/-- An operation that may come up may be taken first, if it yields its value in every world that leaves alone what it reads. -/
theorem wpAnyG_first {ops : Array Oper} {Q : Exit → Act → World → Prop} {anc : List (List Nat)} (hA : ancB ops anc = true) {i : Nat} {oi : Oper} {v : Value} {C : World → Prop} (hi : ops[i]? = some oi)
    (hsel : ∀ (j : Nat) (o : Oper) cs b, ops[j]? = some o → o.op ≠ .select cs b) (hQ : ∀ c a w, Q (.panic c) (a.put oi.dst v) w → Q (.panic c) a w) :
    ∀ (fuel : Nat) (T : Pend) (listed : Array Bool) (a : Act) (w : World), Shut ops listed →
      (∀ j oj, ops[j]? = some oj → j ≠ i → listed.getD j true = false → (∀ e ∈ oj.after, Region.binds .any e = true → e.on ≠ i) → oi.apart ops oj = true) →
      i ∈ Region.ready .any ops listed → YieldsIf P ops C oi v a → C w → (∀ p ∈ T, p.2 w) →
      wpAnyG P ops Q (fun i => anc.getD i []) fuel ((i, C) :: T) (listed.setIfInBounds i true) (a.put oi.dst v) w → wpAnyG P ops Q (fun i => anc.getD i []) (fuel + 1) T listed a w := by
  intro fuel
  induction fuel with
  | zero =>
    intro T listed a w hsh _ hr hy hC hT H
    refine ⟨fun h => (by rw [h] at hr; cases hr), fun j hj => ?_⟩
    by_cases hji : j = i
    · subst hji; exact hy.wpOp hi hC ⟨fun p hp => hT p (cutP_sub p hp).1, H⟩
    · have := ready_mono hj hji
      rw [H.1] at this
      cases this
  | succ fuel ih =>
    intro T listed a w hsh hfree hr hy hC hT H
    refine ⟨fun h => (by rw [h] at hr; cases hr), fun j hj => ?_⟩
    by_cases hji : j = i
    · subst hji
      refine hy.wpOp hi hC ⟨fun p hp => hT p (cutP_sub p hp).1, wpAnyG_weaken _ _ _ _ (fun p hp => ?_) H⟩
      exact List.mem_cons_of_mem _ (cutP_sub p hp).1
    · have h1 := H.2 j (ready_mono hj hji)
      obtain ⟨hjun, oj, hoj, hall⟩ := mem_ready.1 hj
      have hnot : ∀ e ∈ oj.after, Region.binds .any e = true → e.on ≠ i := fun e he hb heq => by
        have h1 := hall e he hb
        have h0 := ready_unlisted hr
        rw [heq] at h1
        rw [h0] at h1
        cases h1
      have hnanc : hasN (anc.getD j []) i = false := by
        rw [hasN_false]
        intro hm
        have := anc_listed hA hsh j (preds_ready hj).1 (preds_ready hj).2 i hm
        rw [ready_unlisted hr] at this
        cases this
      have hcut : cutP (anc.getD j []) ((i, C) :: T) = (i, C) :: cutP (anc.getD j []) T := cutP_keep hnanc
      simp only [hcut] at h1
      have h2 := wpOp_putIf hoj (hfree j oj hoj hji hjun hnot) (fun cs b => hsel i oi cs b hi) (fun cs b => hsel j oj cs b hoj) hQ hy h1
      have hfree' : ∀ k ok, ops[k]? = some ok → k ≠ i → (listed.setIfInBounds j true).getD k true = false →
          (∀ e ∈ ok.after, Region.binds .any e = true → e.on ≠ i) → oi.apart ops ok = true := fun k ok hk hki hun hno => by
        refine hfree k ok hk hki ?_ hno
        by_cases hjk : j = k
        · subst hjk; exact hjun
        · rw [getD_set_ne true hjk] at hun; exact hun
      refine wpOp_mono (fun a' w' h3 => ?_) h2
      obtain ⟨hy', hp', hG⟩ := h3
      have hC' : C w' := hp' (i, C) (by simp)
      have hT' : ∀ p ∈ cutP (anc.getD j []) T, p.2 w' := fun p hp => hp' p (List.mem_cons_of_mem _ hp)
      refine ⟨hT', ih _ (listed.setIfInBounds j true) a' w' (hsh.set hj) hfree' (ready_mono hr (Ne.symm hji)) hy' hC' hT' ?_⟩
      rw [Array.setIfInBounds_comm _ _ hji]
      exact hG

theorem wp_info {o : Oper} {a : Act} {w : World} {I : Prop} (h : o.wp P a w (fun _ _ => I) (fun _ _ _ => I)) : I := by
  unfold Oper.wp at h
  generalize (execOp a.eval o).run P w = r at h
  cases r with
  | ok n w' =>
    cases n <;> simp only [Oper.upon] at h <;> try exact h
    case enter f args =>
      obtain ⟨e, w2, fr, hr, _⟩ := h []
      cases e with
      | returned v => exact hr
      | panicked c => exact hr
      | outgrown => exact hr.elim fun _ h => h.elim fun _ h => h
    case row row args =>
      obtain ⟨v, w2, hr, _⟩ := h default []
      exact hr
  | halt x w' =>
    cases x <;> simp only [Oper.upon] at h
    case panic v => exact h

def gB (ops : Array Oper) (o : Oper) : Option (Nat × Bool) → Bool
  | none => o.guard.isNone
  | some g => match o.guard with
    | some (j, want) => want == g.2 && gTmp ops j == some g.1
    | none => false

/-- All but these have come up. -/
def addF (L : Array Bool) (fl : List Nat) : Array Bool := fl.foldl (fun L i => L.setIfInBounds i true) L
def apart1 (ops : Array Oper) (i : Nat) (js : List Nat) : Bool :=
  js.all fun j => match ops[i]?, ops[j]? with
    | some a, some b => a.apart ops b && b.apart ops a
    | _, _ => false
def apartAll (ops : Array Oper) : List Nat → Bool
  | [] => true
  | i :: r => !hasN r i && apart1 ops i r && apartAll ops r
def floatB (P : Program) (n : Nat) (ops : Array Oper) (L : Array Bool) (f : Nat × AOp) : Bool :=
  (Region.ready .any ops L).contains f.1 && f.2.isFloat && (match ops[f.1]? with
    | some o => opB P n o f.2 && decide (o.dst.toList = f.2.dsts) && o.guard.isNone && (match o.dst with
      | some d => !(o.looksAt ops).contains d && decide (d < n)
      | none => false)
    | none => false)

/-- A tree of steps against a region; F: the operations that may have come up ahead of their turn. -/
def dtB (P : Program) (n : Nat) (ops : Array Oper) : DT → Array Bool → List Nat → Bool
  | .done, L, F => (Region.ready .any ops L).isEmpty && F.isEmpty
  | .take i g ao r, L, F => (Region.ready .any ops L).contains i && Region.free .any ops L i && !hasN F i && ao.isVal && (match ops[i]? with
      | some o => gB ops o g && opB P n o ao && decide (o.dst.toList = ao.dsts)
      | none => false) && dtB P n ops r (L.setIfInBounds i true) F
  | .skip i g d r, L, F => (Region.ready .any ops L).contains i && Region.free .any ops L i && !hasN F i && (match ops[i]? with
      | some o => gB ops o (some g) && decide (o.dst = d) && (match d with | some d => decide (d < n) | none => true)
      | none => false) && dtB P n ops r (L.setIfInBounds i true) F
  | .only i g ao e fl r, L, F => (Region.ready .any ops L).contains i && (Region.ready .any ops (addF L (fl.map (·.1)))).all (· == i) && F.all (fun f => f == i || hasN (fl.map (·.1)) f) && (!hasN F i || (e && ao.isFloat))
      && fl.all (floatB P n ops L) && apartAll ops (i :: fl.map (·.1)) && (match ops[i]? with
      | some o => gB ops o g && opB P n o ao && decide (o.dst.toList = ao.dsts)
      | none => false) && dtB P n ops r (L.setIfInBounds i true) (fl.map (·.1))
  | .test _ a b, L, F => dtB P n ops a L F && dtB P n ops b L F

def drawB (P : Program) (n : Nat) (ops : Array Oper) (anc : List (List Nat)) (t : DT) : Bool :=
  P.follows .mixedOrders && Region.noSelect ops && ancB ops anc && dtB P n ops t (Array.replicate ops.size false) []

theorem tmp_bool {H : HP} {φ : Phi} {s : St} {act : Act} (hf : FrR H φ s.st s.fr act.tmps) {c : Nat} {t : Bool} (h : getT s.fr c = .bool t) : act.tmps[c]? = some (.bool t) := by
  have hfc := hf c
  rw [h] at hfc
  have hfc : act.tmps.getD c undef = .bool t := hfc
  rw [Array.getD_eq_getD_getElem?] at hfc
  cases hq : act.tmps[c]? with
  | none => rw [hq] at hfc; cases hfc
  | some v => rw [hq] at hfc; simpa using hfc

theorem gOk_wanted {H : HP} {φ : Phi} {s : St} {act : Act} {ops : Array Oper} {o : Oper} {g : Option (Nat × Bool)} (hf : FrR H φ s.st s.fr act.tmps) (h : gOk s g = true) (hb : gB ops o g = true) : Region.wanted o (yielded ops act.tmps) = true := by
  cases g with
  | none =>
    simp only [gB, Option.isNone_iff_eq_none] at hb
    exact wanted_met hb trivial
  | some g =>
    simp only [gB] at hb
    split at hb
    · rename_i j want hg
      simp only [Bool.and_eq_true, beq_iff_eq] at hb
      obtain ⟨rfl, hb2⟩ := hb
      simp only [gOk] at h
      split at h
      · rename_i t ht
        simp only [beq_iff_eq] at h
        subst h
        exact wanted_met hg ⟨g.1, hb2, tmp_bool hf ht⟩
      · cases h
    · cases hb
theorem gNot_wanted {H : HP} {φ : Phi} {s : St} {act : Act} {ops : Array Oper} {o : Oper} {g : Nat × Bool} (hf : FrR H φ s.st s.fr act.tmps) (h : gNot s g = true) (hb : gB ops o (some g) = true) : Region.wanted o (yielded ops act.tmps) = false := by
  simp only [gB] at hb
  split at hb
  · rename_i j want hg
    simp only [Bool.and_eq_true, beq_iff_eq] at hb
    obtain ⟨rfl, hb2⟩ := hb
    refine wanted_not hg hb2 ?_
    unfold gNot at h
    split at h
    · rename_i t ht
      rw [tmp_bool hf ht]
      intro e
      cases e
      simp at h
    · rename_i ht
      have hv := hf g.1
      rw [ht] at hv
      have hv : act.tmps.getD g.1 undef = undef := hv
      intro e
      rw [Array.getD_eq_getD_getElem?, e] at hv
      cases hv
    · cases h
  · cases hb

/-- What is known of loads that were taken ahead. -/
def PendR (act : Act) (w : World) (T : List (Nat × Nat)) (TT : Pend) : Prop :=
  ∀ p ∈ TT, p.2 w ∧ ((∀ w2, p.2 w2) ∨ ∃ x, (p.1, x) ∈ T ∧ ∃ w0 : World, p.2 = fun w2 => ∀ b, blk (act.tmps.getD x undef) = some b → w2.heap[b]? = w0.heap[b]?)

theorem freshT_ok {ds : List Nat} : ∀ {T : List (Nat × Nat)}, freshT ds T = true → ∀ p ∈ T, p.2 ∉ ds
  | [], _, p, hp => by cases hp
  | q :: r, h, p, hp => by
    simp only [freshT, Bool.and_eq_true, Bool.not_eq_true'] at h
    rcases List.mem_cons.1 hp with rfl | hp
    · exact hasN_false.1 h.1
    · exact freshT_ok h.2 p hp

theorem getD_put {act : Act} {dst : Option Tmp} {v : Value} {t : Nat} (h : dst ≠ some t) : (act.put dst v).tmps.getD t undef = act.tmps.getD t undef := by
  rw [Array.getD_eq_getD_getElem?, Array.getD_eq_getD_getElem?, put_other h]

theorem PendR.put {act : Act} {w : World} {T : List (Nat × Nat)} {TT : Pend} (h : PendR act w T TT) {dst : Option Tmp} {v : Value} (hf : freshT dst.toList T = true) : PendR (act.put dst v) w T TT := by
  intro p hp
  obtain ⟨h1, h2⟩ := h p hp
  refine ⟨h1, ?_⟩
  rcases h2 with h2 | ⟨x, hx, w0, e⟩
  · exact .inl h2
  · refine .inr ⟨x, hx, w0, ?_⟩
    have := freshT_ok hf _ hx
    rw [getD_put (fun e => this (by rw [e]; simp))]
    exact e

theorem pendCut_mem {anc : List Nat} : ∀ {T : List (Nat × Nat)} {p}, p ∈ T → hasN anc p.1 = false → p ∈ pendCut anc T
  | [], p, h, _ => by cases h
  | q :: r, p, h, hn => by
    simp only [pendCut]
    rcases List.mem_cons.1 h with rfl | h
    · rw [if_neg (by rw [hn]; simp)]; simp
    · split
      · exact pendCut_mem h hn
      · exact List.mem_cons_of_mem _ (pendCut_mem h hn)
theorem pendOk_ok {anc tch : List Nat} {s : St} : ∀ {T : List (Nat × Nat)}, pendOk anc tch s T = true → ∀ p ∈ T, hasN anc p.1 = false → (getT s.fr p.2).clear tch = true
  | [], _, p, hp, _ => by cases hp
  | q :: r, h, p, hp, hn => by
    simp only [pendOk, Bool.and_eq_true, Bool.or_eq_true] at h
    rcases List.mem_cons.1 hp with rfl | hp
    · rcases h.1 with h1 | h1
      · rw [hn] at h1; cases h1
      · exact h1
    · exact pendOk_ok h.2 p hp hn

/-- What a load that was taken ahead reads is not touched. -/
theorem untouched {H H' : HP} {φ φ' : Phi} {s : St} {st' : List Box} {w w' : World} {v : Value} {a : AV} {tch : List Nat} (hs : SR H φ s.st w) (hst : Step H φ s.st w H' φ' st' w') (hm : Mem tch φ s.st w w') (hv : VA H φ s.st a v)
    (h : a.clear tch = true) : ∀ b, blk v = some b → w'.heap[b]? = w.heap[b]? := by
  intro b hb
  have keepH : ∀ o, H b = some o → w'.heap[b]? = w.heap[b]? := fun o ho => by rw [hst.sr.hp b o (hst.le b o ho), hs.hp b o ho]
  cases a with
  | ptr id off =>
    obtain ⟨hva, b0, e1, e2⟩ := hv
    rw [e2] at hb
    cases hb
    unfold varAt at hva
    split at hva
    · rename_i cs hid
      exact hm id _ hid rfl (hasN_false.1 (by simpa [AV.clear] using h)) b0 (by rw [e1]; rfl)
    · cases hva
  | eptr id i off =>
    obtain ⟨b0, n, cap, K, hk, hi, e1, e2⟩ := hv
    rw [e2] at hb
    cases hb
    unfold kindAt at hk
    split at hk
    · rename_i t K' xs hid
      exact hm id _ hid rfl (hasN_false.1 (by simpa [AV.clear] using h)) b0 (by rw [e1]; rfl)
    · rename_i K' xs hid
      cases hk
      obtain ⟨⟨sl, cap', e3, _, hr⟩, _⟩ := hs.box id _ hid
      rcases hr with rfl | ⟨b1, o1, c, el, fz, e4, e5, _⟩
      · simp at hi
      · rw [e1] at e3
        simp only [Value.slice.injEq] at e3
        rw [e4] at e3
        obtain ⟨e6, _⟩ := e3
        simp only [Option.some.injEq, Addr.mk.injEq] at e6
        obtain ⟨rfl, _⟩ := e6
        exact keepH _ e5
    · rename_i t K' xs hid
      exact hm id _ hid rfl (hasN_false.1 (by simpa [AV.clear] using h)) b0 (by rw [e1]; rfl)
    · cases hk
  | fptr cs off =>
    obtain ⟨b0, o, c, el, fz, e, hb0, _⟩ := hv
    rw [e] at hb
    cases hb
    exact keepH _ hb0
  | _ => cases h

theorem load_val {n : Nat} {o : Oper} {d x : Nat} {m : Option Nat} (h : loadB P n o d (.t x) m = true) : ∃ t, o.op = .load t (.tmp x) := by
  simp only [loadB, Bool.and_eq_true] at h
  have h2 := h.2
  split at h2
  · rename_i t y ho
    simp only [Bool.and_eq_true] at h2
    have := h2.1
    cases y <;> simp [opdB] at this
    subst this
    exact ⟨t, ho⟩
  · cases h2

theorem load_only {n : Nat} {o : Oper} {ao : AOp} {t : TypeId} {y : Operand} {ρ : Type} {kn : St → Option ρ} {r : ρ} {cal : Cal} {s : St} (hb : opB P n o ao = true) (hop : o.op = .load t y) (hv : ao.isVal = true) (hk : opK cal kn s ao = some r) :
    ∃ d x m, ao = .load d (.t x) m := by
  cases ao <;> first | cases hv | skip
  case load d x m =>
    cases x with
    | t x => exact ⟨d, x, m, rfl⟩
    | c a =>
      exfalso
      simp only [opB, loadB, hop, Bool.and_eq_true] at hb
      simp only [opK, St.opd] at hk
      have h2 := hb.2.1
      cases y with
      | const v =>
        have h3 : a = .undef ∨ constB v a = true := by cases a <;> first | exact .inl rfl | exact .inr h2
        rcases h3 with rfl | h3
        · simp [St.behind] at hk
        · have := constB_ok (H := fun _ => none) (v := v) (a := a) h3
          cases a <;> first | exact this.elim | (simp [St.behind] at hk)
      | func f =>
        cases a <;> first | (simp [opdB] at h2; done) | (simp [St.behind] at hk)
      | tmp t => simp [opdB] at h2
      | global g => simp [opdB] at h2
  all_goals (exfalso; simp [opB, mvB, pickB, nilcB, binB, eqsB, unB, cviB, fldB, fieldB, idxB, sidxB, slB, fnB, cloB, minB, lenB, extB, buildB, hop] at hb)

/-- What has come up in the machine: what the tree has, and those ahead of their turn. -/
def LS (M L : Array Bool) (S : List Nat) : Prop := M.size = L.size ∧ ∀ k, M.getD k true = (L.getD k true || hasN S k)
theorem LS.refl (L : Array Bool) : LS L L [] := ⟨rfl, fun k => by simp [hasN]⟩
theorem getD_false {M : Array Bool} {k : Nat} : M.getD k false = (M.getD k true && decide (k < M.size)) := by
  rw [Array.getD_eq_getD_getElem?, Array.getD_eq_getD_getElem?]
  by_cases h : k < M.size
  · simp [h]
  · simp [h]
theorem LS.getF {M L : Array Bool} {S : List Nat} (h : LS M L S) (k : Nat) : M.getD k false = (L.getD k false || (hasN S k && decide (k < L.size))) := by
  rw [getD_false, getD_false, h.2, h.1]
  cases L.getD k true <;> cases hasN S k <;> simp
theorem getD_setT {M : Array Bool} {i k : Nat} : (M.setIfInBounds i true).getD k true = (M.getD k true || (i == k)) := by
  by_cases h : i = k
  · subst h
    rw [Array.getD_eq_getD_getElem?]
    by_cases h2 : i < M.size
    · simp [h2]
    · simp [h2]
  · rw [getD_set_ne true h]
    simp [h]
theorem LS.set {M L : Array Bool} {S : List Nat} (h : LS M L S) (i : Nat) : LS (M.setIfInBounds i true) (L.setIfInBounds i true) S := by
  refine ⟨by simp [h.1], fun k => ?_⟩
  rw [getD_setT, getD_setT, h.2]
  cases L.getD k true <;> cases hasN S k <;> cases (i == k) <;> rfl
theorem LS.early {M L : Array Bool} {S : List Nat} (h : LS M L S) (f : Nat) : LS (M.setIfInBounds f true) L (f :: S) := by
  refine ⟨by simp [h.1], fun k => ?_⟩
  rw [getD_setT, h.2]
  simp only [hasN]
  by_cases e : f = k <;> simp [e]
theorem LS.adopt {M L : Array Bool} {a b : List Nat} {i : Nat} (h : LS M L (a ++ i :: b)) : LS M (L.setIfInBounds i true) (a ++ b) := by
  refine ⟨by simp [h.1], fun k => ?_⟩
  rw [getD_setT, h.2, hasN_append, hasN_append]
  simp only [hasN]
  by_cases e : i = k
  · simp [e]
  · have : (i == k) = false := by simpa using e
    rw [this]
    cases L.getD k true <;> cases hasN a k <;> cases hasN b k <;> simp [e]
theorem addF_ls (L : Array Bool) : ∀ (fl : List Nat), (addF L fl).size = L.size ∧ ∀ k, (addF L fl).getD k true = (L.getD k true || hasN fl k) := by
  intro fl
  unfold addF
  induction fl generalizing L with
  | nil => exact ⟨rfl, fun k => by simp [hasN]⟩
  | cons f fl ih =>
    obtain ⟨h1, h2⟩ := ih (L.setIfInBounds f true)
    refine ⟨by simpa using h1, fun k => ?_⟩
    rw [List.foldl_cons, h2, getD_setT]
    simp only [hasN]
    by_cases e : f = k
    · simp [e]
    · have : (f == k) = false := by simpa using e
      rw [this, if_neg e, Bool.or_false]

/-- How many have not come up. -/
def cntF : List Bool → Nat
  | [] => 0
  | b :: r => (if b = true then 0 else 1) + cntF r
theorem cntF_set : ∀ (l : List Bool) (i : Nat), l[i]? = some false → cntF (l.set i true) + 1 = cntF l
  | [], i, h => by simp at h
  | b :: l, 0, h => by simp at h; subst h; simp [cntF]; omega
  | b :: l, i + 1, h => by
    have := cntF_set l i (by simpa using h)
    simp only [List.set_cons_succ, cntF]
    omega
theorem cnt_set {M : Array Bool} {i : Nat} (h : M.getD i true = false) : cntF (M.setIfInBounds i true).toList + 1 = cntF M.toList := by
  rw [Array.toList_setIfInBounds]
  apply cntF_set
  rw [Array.getD_eq_getD_getElem?] at h
  cases hq : M[i]? with
  | none => rw [hq] at h; cases h
  | some b => rw [hq] at h; simp at h; subst h; simpa using hq
theorem cnt_rep (n : Nat) : cntF (List.replicate n false) = n := by
  induction n with
  | zero => rfl
  | succ n ih => rw [List.replicate_succ]; simp [cntF, ih]; omega

/-- One that came up ahead of its turn. -/
def PendF (P : Program) (ops : Array Oper) (wb : World) (H : HP) (φ : Phi) (st : List Box) (act : Act) (w : World) (f b : Nat) : Prop :=
  ∃ o d obj, ops[f]? = some o ∧ o.dst = some d ∧ d < act.tmps.size ∧ Born P o act obj ∧ act.tmps.getD d undef = bornV o.op b ∧ Lone H φ st w b obj ∧ wb.heap.size ≤ b

theorem PendF.put {ops : Array Oper} {wb : World} {H H' : HP} {φ φ' : Phi} {st st' : List Box} {act : Act} {w w' : World} {f b : Nat} (h : PendF P ops wb H φ st act w f b) {oi : Oper} {v : Value}
    (hsel : ∀ (j : Nat) (o : Oper) cs b, ops[j]? = some o → o.op ≠ .select cs b) (hap : ∀ o, ops[f]? = some o → oi.apart ops o = true) (hl : ∀ obj, Lone H φ st w b obj → Lone H' φ' st' w' b obj) : PendF P ops wb H' φ' st' (act.put oi.dst v) w' f b := by
  obtain ⟨o, d, obj, h1, h2, h3, h4, h5, h6, h7⟩ := h
  obtain ⟨a1, a2, _⟩ := Oper.apart_spec (hap o h1)
  refine ⟨o, d, obj, h1, h2, by rw [put_size]; exact h3, fun w2 => ?_, ?_, hl obj h6, h7⟩
  · rw [execOp_put o (fun cs b => hsel f o cs b h1) act oi.dst v a1]
    exact h4 w2
  · rw [getD_put (fun e => a2 d e h2)]
    exact h5

theorem apart1_ok {ops : Array Oper} {i : Nat} {js : List Nat} (h : apart1 ops i js = true) {j : Nat} (hj : j ∈ js) : ∃ a b, ops[i]? = some a ∧ ops[j]? = some b ∧ a.apart ops b = true ∧ b.apart ops a = true := by
  have := List.all_eq_true.1 h j hj
  split at this
  · rename_i a b ha hb
    simp only [Bool.and_eq_true] at this
    exact ⟨a, b, ha, hb, this.1, this.2⟩
  · cases this
theorem apartAll_ok {ops : Array Oper} : ∀ {l : List Nat}, apartAll ops l = true → ∀ i ∈ l, ∀ j ∈ l, i ≠ j → ∃ a b, ops[i]? = some a ∧ ops[j]? = some b ∧ a.apart ops b = true
  | [], _, i, hi, _, _, _ => by cases hi
  | x :: l, h, i, hi, j, hj, hne => by
    simp only [apartAll, Bool.and_eq_true] at h
    rcases List.mem_cons.1 hi with e1 | hi
    · subst e1
      rcases List.mem_cons.1 hj with e2 | hj
      · exact absurd e2.symm hne
      · obtain ⟨a, b, h1, h2, h3, _⟩ := apart1_ok h.1.2 hj
        exact ⟨a, b, h1, h2, h3⟩
    · rcases List.mem_cons.1 hj with e2 | hj
      · rw [e2]
        obtain ⟨a, b, h1, h2, _, h4⟩ := apart1_ok h.1.2 hi
        exact ⟨b, a, h2, h1, h4⟩
      · exact apartAll_ok h.2 i hi j hj hne

theorem floatsOk_mem {s : St} {T : List (Nat × Nat)} : ∀ {fl : List (Nat × AOp)}, floatsOk s T fl = true → ∀ f ∈ fl, f.2.floatOk s = true ∧ undefAll s f.2.dsts = true ∧ freshT f.2.dsts T = true
  | [], _, f, hf => by cases hf
  | g :: fl, h, f, hf => by
    simp only [floatsOk, Bool.and_eq_true] at h
    rcases List.mem_cons.1 hf with rfl | hf
    · exact ⟨h.1.1.1, h.1.1.2, h.1.2⟩
    · exact floatsOk_mem h.2 f hf

theorem dt_ok {n : Nat} {ops : Array Oper} {anc : List (List Nat)} {cal : Cal} (hcal : CallOk P cal) (hA : ancB ops anc = true) (hsel : Region.noSelect ops = true) {ρ : Type} {kn : St → Option ρ} {r : ρ} {N : Act → World → Prop}
    {Hb : HP} {φb : Phi} {stb : List Box} {wb : World} {ab : Act}
    (hN : ∀ s' act' w' H' φ', kn s' = some r → Step Hb φb stb wb H' φ' s'.st w' → FrR H' φ' s'.st s'.fr act'.tmps → act'.tmps.size = n → act'.defers = ab.defers → N act' w') :
    ∀ (t : DT) (fuel : Nat) (F S : List Nat) (B : Nat → Nat) (T : List (Nat × Nat)) (TT : Pend) (L M : Array Bool) (s : St) (act : Act) (w : World) (H : HP) (φ : Phi), dtB P n ops t L F = true → LS M L S → (∀ f ∈ S, hasN F f = true ∧ f ∈ Region.ready .any ops L) →
      S.Nodup → (∀ f ∈ S, ∀ g ∈ S, f ≠ g → B f ≠ B g) → cntF M.toList ≤ fuel → Shut ops L → Shut ops M →
      Step Hb φb stb wb H φ s.st w → FrR H φ s.st s.fr act.tmps → act.tmps.size = n → act.defers = ab.defers → PendR act w T TT → (∀ f ∈ S, ∀ p ∈ TT, hasN (anc.getD f []) p.1 = false) → (∀ f ∈ S, PendF P ops wb H φ s.st act w f (B f)) → dK cal anc kn t T s = some r →
      wpAnyG P ops (fun e a w => match e with | .normal => N a w | _ => False) (fun i => anc.getD i []) fuel TT M act w := by
  have hsnd := Region.noSelect_spec hsel
  intro t
  induction t with
  | done =>
    intro fuel F S B T TT L M s act w H φ hb hls hS _ _ hfu _ _ hB hf hn hde _ _ _ hk
    simp only [dtB, Bool.and_eq_true, List.isEmpty_iff] at hb
    have hS0 : S = [] := by
      cases S with
      | nil => rfl
      | cons f S =>
        have := (hS f (by simp)).2
        rw [hb.1] at this
        cases this
    subst hS0
    have hM : Region.ready .any ops M = [] := by
      rw [List.eq_nil_iff_forall_not_mem]
      intro j hj
      obtain ⟨h1, o, h2, h3⟩ := mem_ready.1 hj
      have : j ∈ Region.ready .any ops L := mem_ready.2 ⟨by have := hls.2 j; simp only [hasN, Bool.or_false] at this; rw [← this]; exact h1, o, h2, fun e he hbi => by have := hls.getF e.on; simp only [hasN, Bool.false_and, Bool.or_false] at this; rw [← this]; exact h3 e he hbi⟩
      rw [hb.1] at this
      cases this
    have hq := hN s act w H φ hk hB hf hn hde
    cases fuel with
    | zero => exact ⟨hM, hq⟩
    | succ fuel => exact ⟨fun _ => hq, fun i hi => by rw [hM] at hi; cases hi⟩
  | test c a b iha ihb =>
    intro fuel F S B T TT L M s act w H φ hb hls hS hnd hBd hfu hsh hshM hB hf hn hde hp hAn hpf hk
    simp only [dtB, Bool.and_eq_true] at hb
    simp only [dK] at hk
    split at hk
    · rename_i t ht
      have hfc : ∀ t', t = t' → FrR H φ (s.put c (.bool t')).st (s.put c (.bool t')).fr act.tmps := by
        intro t' e q
        subst e
        simp only [St.put, getT]
        split
        · rename_i e; subst e; have := hf c; rw [ht] at this; exact this
        · exact hf q
      split at hk
      · rename_i e
        exact iha fuel F S B T TT L M (s.put c (.bool true)) act w H φ hb.1 hls hS hnd hBd hfu hsh hshM hB (hfc true e) hn hde hp hAn hpf hk
      · rename_i e
        exact ihb fuel F S B T TT L M (s.put c (.bool false)) act w H φ hb.2 hls hS hnd hBd hfu hsh hshM hB (hfc false (by simpa using e)) hn hde hp hAn hpf hk
    · cases hk
  | skip i g d rt ih =>
    intro fuel F S B T TT L M s act w H φ hb hls hS hnd hBd hfu hsh hshM hB hf hn hde hp hAn hpf hk
    simp only [dtB, Bool.and_eq_true, Bool.not_eq_true'] at hb
    obtain ⟨⟨⟨⟨hr, hfree⟩, hiF⟩, ho⟩, hb⟩ := hb
    split at ho
    case h_2 => cases ho
    rename_i o hoi
    simp only [Bool.and_eq_true, decide_eq_true_eq] at ho
    obtain ⟨⟨hg, rfl⟩, hdn⟩ := ho
    simp only [dK] at hk
    split at hk
    case isFalse => cases hk
    rename_i hc
    simp only [Bool.and_eq_true] at hc
    have hri : i ∈ Region.ready .any ops L := by simpa using hr
    have hiS : i ∉ S := fun h => by have := (hS i h).1; rw [hiF] at this; cases this
    have hriM : i ∈ Region.ready .any ops M := by
      obtain ⟨h1, o', h2, h3⟩ := mem_ready.1 hri
      exact mem_ready.2 ⟨by rw [hls.2, h1, hasN_false.2 hiS]; rfl, o', h2, fun e he hbi => by rw [hls.getF, h3 e he hbi]; rfl⟩
    have hfreeL := Region.free_spec hoi hfree
    have hfreeM : ∀ j oj, ops[j]? = some oj → j ≠ i → M.getD j true = false → (∀ e ∈ oj.after, Region.binds .any e = true → e.on ≠ i) → o.apart ops oj = true := fun j oj h1 h2 h3 h4 =>
      hfreeL j oj h1 h2 (by rw [hls.2] at h3; simp only [Bool.or_eq_false_iff] at h3; exact h3.1) h4
    have hcnt := cnt_set (mem_ready.1 hriM).1
    obtain ⟨fuel, rfl⟩ : ∃ k, fuel = k + 1 := ⟨fuel - 1, by omega⟩
    refine wpAnyG_first hA (C := fun _ => True) hoi hsnd (fun c a w h => h) fuel TT M act w hshM hfreeM hriM (.inr ⟨gNot_wanted hf hc.1 hg, rfl⟩) trivial (fun p hp' => (hp p hp').1) ?_
    have hf2 : FrR H φ s.st (putO o.dst .void s.fr) (act.put o.dst undef).tmps := by
      cases hdst : o.dst with
      | none => exact hf
      | some d =>
        rw [hdst] at hdn
        simp only [decide_eq_true_eq] at hdn
        exact hf.put (a := .void) (v := undef) (by omega) rfl
    have hAn' : ∀ (C : World → Prop), ∀ f ∈ S, ∀ p ∈ (i, C) :: TT, hasN (anc.getD f []) p.1 = false := fun C f hf' p hp' => by
      rcases List.mem_cons.1 hp' with rfl | hp'
      · rw [hasN_false]
        intro hm
        have := anc_listed hA hsh f (preds_ready (hS f hf').2).1 (preds_ready (hS f hf').2).2 _ hm
        rw [ready_unlisted hri] at this
        cases this
      · exact hAn f hf' p hp'
    refine ih fuel F S B T _ (L.setIfInBounds i true) _ ⟨putO o.dst .void s.fr, s.st⟩ _ w H φ hb (hls.set i) (fun f hf' => ⟨(hS f hf').1, ready_mono (hS f hf').2 (fun e => hiS (e ▸ hf'))⟩) hnd hBd (by omega) (hsh.set hri) (hshM.set hriM) hB hf2 (put_size.trans hn) (put_defers.trans hde) ?_ (hAn' _) (fun f hf' => ?_) hk
    · intro p hp'
      rcases List.mem_cons.1 hp' with rfl | hp'
      · exact ⟨trivial, .inl fun _ => trivial⟩
      · exact (hp.put hc.2) p hp'
    · refine (hpf f hf').put hsnd (fun of hof => hfreeL f of hof (fun e => hiS (e ▸ hf')) (mem_ready.1 (hS f hf').2).1 (fun e he hbi heq => ?_)) (fun _ h => h)
      obtain ⟨_, o', h2, h3⟩ := mem_ready.1 (hS f hf').2
      rw [hof] at h2
      cases h2
      have := h3 e he hbi
      rw [heq, ready_unlisted hri] at this
      cases this
  | take i g ao rt ih =>
    intro fuel F S B T TT L M s act w H φ hb hls hS hnd hBd hfu hsh hshM hB hf hn hde hp hAn hpf hk
    simp only [dtB, Bool.and_eq_true, Bool.not_eq_true'] at hb
    obtain ⟨⟨⟨⟨⟨hr, hfree⟩, hiF⟩, hval⟩, ho⟩, hb⟩ := hb
    split at ho
    case h_2 => cases ho
    rename_i o hoi
    simp only [Bool.and_eq_true, decide_eq_true_eq] at ho
    obtain ⟨⟨hg, hob⟩, hds⟩ := ho
    simp only [dK] at hk
    split at hk
    case isFalse => cases hk
    rename_i hc
    simp only [Bool.and_eq_true] at hc
    obtain ⟨hc, hns⟩ := hc
    have hri : i ∈ Region.ready .any ops L := by simpa using hr
    have hiS : i ∉ S := fun h => by have := (hS i h).1; rw [hiF] at this; cases this
    have hriM : i ∈ Region.ready .any ops M := by
      obtain ⟨h1, o', h2, h3⟩ := mem_ready.1 hri
      exact mem_ready.2 ⟨by rw [hls.2, h1, hasN_false.2 hiS]; rfl, o', h2, fun e he hbi => by rw [hls.getF, h3 e he hbi]; rfl⟩
    have hfreeL := Region.free_spec hoi hfree
    have hfreeM : ∀ j oj, ops[j]? = some oj → j ≠ i → M.getD j true = false → (∀ e ∈ oj.after, Region.binds .any e = true → e.on ≠ i) → o.apart ops oj = true := fun j oj h1 h2 h3 h4 =>
      hfreeL j oj h1 h2 (by rw [hls.2] at h3; simp only [Bool.or_eq_false_iff] at h3; exact h3.1) h4
    have hcnt := cnt_set (mem_ready.1 hriM).1
    obtain ⟨fuel, rfl⟩ : ∃ k, fuel = k + 1 := ⟨fuel - 1, by omega⟩
    have info : ∃ s' v H' φ', dK cal anc kn rt (pendAdd i ao T) s' = some r ∧ Step H φ s.st w H' φ' s'.st w ∧ FrR H' φ' s'.st s'.fr (act.put o.dst v).tmps ∧ ∀ w2, ReadsSame o act w w2 → (execOp act.eval o).run P w2 = .ok (.value v) w2 := by
      refine wp_info (P := P) (o := o) (a := act) (w := w) (opB_ok hcal hob ρ (fun s' => dK cal anc kn rt (pendAdd i ao T) s') r s act w H φ _ _ hB.sr hf hn hk fun s' v w' H' φ' h1 h2 h3 h4 => ?_)
      obtain ⟨e, h5⟩ := h4.val hval
      subst e
      exact ⟨s', v, H', φ', h1, h2, h3, h5⟩
    obtain ⟨s', v, H', φ', hk', hst, hf', hrun⟩ := info
    refine wpAnyG_first hA (C := ReadsSame o act w) hoi hsnd (fun c a w h => h) fuel TT M act w hshM hfreeM hriM (.inl ⟨gOk_wanted hf hc.1 hg, hrun⟩) (ReadsSame.refl o act w) (fun p hp' => (hp p hp').1) ?_
    have hfr : freshT o.dst.toList T = true := by rw [hds]; exact hc.2
    have hAn' : ∀ (C : World → Prop), ∀ f ∈ S, ∀ p ∈ (i, C) :: TT, hasN (anc.getD f []) p.1 = false := fun C f hf' p hp' => by
      rcases List.mem_cons.1 hp' with rfl | hp'
      · rw [hasN_false]
        intro hm
        have := anc_listed hA hsh f (preds_ready (hS f hf').2).1 (preds_ready (hS f hf').2).2 _ hm
        rw [ready_unlisted hri] at this
        cases this
      · exact hAn f hf' p hp'
    refine ih fuel F S B _ _ (L.setIfInBounds i true) _ s' _ w H' φ' hb (hls.set i) (fun f hf' => ⟨(hS f hf').1, ready_mono (hS f hf').2 (fun e => hiS (e ▸ hf'))⟩) hnd hBd (by omega) (hsh.set hri) (hshM.set hriM) (hB.trans hst) hf' (put_size.trans hn) (put_defers.trans hde) ?_ (hAn' _) (fun f hfS => ?_) hk'
    · intro p hp'
      rcases List.mem_cons.1 hp' with rfl | hp'
      · refine ⟨ReadsSame.refl o act w, ?_⟩
        by_cases hload : ∃ d x m, ao = .load d (.t x) m
        · obtain ⟨d, x, m, rfl⟩ := hload
          simp only [opB] at hob
          obtain ⟨t, ht⟩ := load_val hob
          right
          have hxd : o.dst ≠ some x := by
            have hd1 : o.dst = some d := by
              simp only [loadB, Bool.and_eq_true] at hob
              exact (dstB_ok hob.1).1
            rw [hd1]
            intro e
            cases e
            simp [AOp.notSelf] at hns
          refine ⟨x, by simp [pendAdd], w, ?_⟩
          funext w2
          simp only [ReadsSame, ht, Act.eval]
          rw [getD_put hxd]
        · left
          intro w2
          unfold ReadsSame
          split
          · rename_i t y hop
            exfalso
            apply hload
            exact load_only hob hop hval hk
          · trivial
      · obtain ⟨h1, h2⟩ := (hp.put hfr) p hp'
        refine ⟨h1, ?_⟩
        rcases h2 with h2 | ⟨x, hx, w0, e⟩
        · exact .inl h2
        · refine .inr ⟨x, ?_, w0, e⟩
          unfold pendAdd
          split
          · exact List.mem_cons_of_mem _ hx
          · exact hx
    · refine (hpf f hfS).put hsnd (fun of hof => hfreeL f of hof (fun e => hiS (e ▸ hfS)) (mem_ready.1 (hS f hfS).2).1 (fun e he hbi heq => ?_)) (fun _ h => h.step hst)
      obtain ⟨_, o', h2, h3⟩ := mem_ready.1 (hS f hfS).2
      rw [hof] at h2
      cases h2
      have := h3 e he hbi
      rw [heq, ready_unlisted hri] at this
      cases this
  | only i g ao e fl rt ih =>
    intro fuel
    induction fuel using Nat.strongRecOn with
    | _ fuel ihf =>
    intro F S B T TT L M s act w H φ hb hls hS hnd hBd hfu hsh hshM hB hf hn hde hp hAn hpf hk
    have hb0 := hb
    have hk0 := hk
    simp only [dtB, Bool.and_eq_true] at hb
    obtain ⟨⟨⟨⟨⟨⟨⟨hr, hrF⟩, hFs⟩, hFi⟩, hfl⟩, hap⟩, ho⟩, hb⟩ := hb
    split at ho
    case h_2 => cases ho
    rename_i o hoi
    simp only [Bool.and_eq_true, decide_eq_true_eq] at ho
    obtain ⟨⟨hg, hob⟩, hds⟩ := ho
    simp only [dK] at hk
    split at hk
    case isFalse => cases hk
    rename_i hc
    simp only [Bool.and_eq_true] at hc
    obtain ⟨⟨⟨⟨⟨hc1, hc2⟩, hc3⟩, hc4⟩, hc6⟩, hc5⟩ := hc
    have hri : i ∈ Region.ready .any ops L := by simpa using hr
    have hfr : freshT o.dst.toList T = true := by rw [hds]; exact hc2
    have hanc : ∀ k ∈ anc.getD i [], k ≠ i := fun k hk e => by
      have := anc_listed hA hsh i (preds_ready hri).1 (preds_ready hri).2 k hk
      rw [e, ready_unlisted hri] at this
      cases this
    have hFsub : ∀ f ∈ S, f = i ∨ f ∈ fl.map (·.1) := fun f hfS => by
      have h1 := (hS f hfS).1
      have h2 := List.all_eq_true.1 hFs f (hasN_true.1 h1)
      simp only [Bool.or_eq_true, beq_iff_eq] at h2
      exact h2.imp id hasN_true.1
    by_cases hiS : i ∈ S
    · -- it came up before: now the boxes are told
      obtain ⟨oa, d, obj, q1, q2, q3, q4, q5, q6, q7⟩ := hpf i hiS
      rw [hoi] at q1
      cases q1
      have hfi : ao.isFloat = true := by
        have h1 := (hS i hiS).1
        rw [h1] at hFi
        simp only [Bool.not_true, Bool.false_or, Bool.and_eq_true] at hFi
        exact hFi.2
      have hfk : ao.floatOk s = true := by
        have h1 := (hS i hiS).1
        rw [h1] at hFi
        simp only [Bool.not_true, Bool.false_or, Bool.and_eq_true] at hFi
        rw [hFi.1] at hc5
        simpa using hc5
      obtain ⟨s', H', φ', hk', hst', hf', hoth⟩ := adopt_ok hob hfi hfk hB hf hk q4 (fun d' hd' => by rw [q2] at hd'; cases hd'; exact q5) q6 q7
      obtain ⟨S1, S2, rfl⟩ := List.append_of_mem hiS
      have hnd2 : i ∉ S1 ++ S2 ∧ (S1 ++ S2).Nodup := by
        rw [List.nodup_append] at hnd
        obtain ⟨n1, n2, n3⟩ := hnd
        rw [List.nodup_cons] at n2
        refine ⟨fun h => ?_, ?_⟩
        · rcases List.mem_append.1 h with h | h
          · exact n3 i h i (by simp) rfl
          · exact n2.1 h
        · rw [List.nodup_append]
          exact ⟨n1, n2.2, fun a ha b hb => n3 a ha b (by simp [hb])⟩
      have hsub : ∀ f ∈ S1 ++ S2, f ∈ S1 ++ i :: S2 := fun f h => by
        rcases List.mem_append.1 h with h | h
        · simp [h]
        · simp [h]
      refine ih fuel (fl.map (·.1)) (S1 ++ S2) B _ _ (L.setIfInBounds i true) M s' act w H' φ' hb hls.adopt (fun f hf' => ?_) hnd2.2 (fun f hf' g hg' => hBd f (hsub f hf') g (hsub g hg')) hfu (hsh.set hri) hshM hst' hf' hn hde ?_ (fun f hf' => hAn f (hsub f hf')) (fun f hf' => ?_) hk'
      · have hne : f ≠ i := fun e => hnd2.1 (e ▸ hf')
        refine ⟨hasN_true.2 ((hFsub f (hsub f hf')).resolve_left hne), ready_mono (hS f (hsub f hf')).2 hne⟩
      · intro p hp'
        obtain ⟨h1, h2⟩ := hp p hp'
        refine ⟨h1, ?_⟩
        rcases h2 with h2 | ⟨x, hx, w0, e⟩
        · exact .inl h2
        · exact .inr ⟨x, pendCut_mem hx (hAn i hiS p hp'), w0, e⟩
      · obtain ⟨o2, d2, obj2, p1, p2, p3, p4, p5, p6, p7⟩ := hpf f (hsub f hf')
        have hne : f ≠ i := fun e => hnd2.1 (e ▸ hf')
        exact ⟨o2, d2, obj2, p1, p2, p3, p4, p5, hoth _ _ (hBd f (hsub f hf') i hiS hne) p6, p7⟩
    · have hriM : i ∈ Region.ready .any ops M := by
        obtain ⟨h1, o', h2, h3⟩ := mem_ready.1 hri
        exact mem_ready.2 ⟨by rw [hls.2, h1, hasN_false.2 hiS]; rfl, o', h2, fun e he hbi => by rw [hls.getF, h3 e he hbi]; rfl⟩
      have hcnt := cnt_set (mem_ready.1 hriM).1
      obtain ⟨fuel, rfl⟩ : ∃ k, fuel = k + 1 := ⟨fuel - 1, by omega⟩
      have hSfl : ∀ f ∈ S, f ∈ fl.map (·.1) := fun f hf' => (hFsub f hf').resolve_left (fun e => hiS (e ▸ hf'))
      refine ⟨fun h => (by rw [h] at hriM; cases hriM), fun j hj => ?_⟩
      have hcj := cnt_set (mem_ready.1 hj).1
      by_cases hji : j = i
      · subst hji
        unfold wpOp
        simp only [hoi, gOk_wanted hf hc1 hg, if_true]
        refine .inl (opB_ok hcal hob ρ (fun s' => dK cal anc kn rt (pendCut (anc.getD j []) T) s') r s act w H φ _ _ hB.sr hf hn hk fun s' v w' H' φ' h1 h2 h3 h4 => ?_)
        have hpend : PendR (act.put o.dst v) w' (pendCut (anc.getD j []) T) (cutP (anc.getD j []) TT) := by
          intro p hp'
          obtain ⟨hp1, hp2⟩ := cutP_sub p hp'
          obtain ⟨q1, q2⟩ := hp p hp1
          rcases q2 with q2 | ⟨x, hx, w0, e⟩
          · exact ⟨q2 w', .inl q2⟩
          · have hxf := freshT_ok hfr _ hx
            have hgd : (act.put o.dst v).tmps.getD x undef = act.tmps.getD x undef := getD_put (fun e => hxf (by rw [e]; simp))
            refine ⟨?_, .inr ⟨x, pendCut_mem hx hp2, w0, by rw [hgd]; exact e⟩⟩
            have hun := untouched hB.sr h2 h4.mem (hf x) (pendOk_ok hc3 _ hx hp2)
            rw [e] at q1 ⊢
            intro b hb'
            rw [hun b hb']
            exact q1 b hb'
        refine ⟨fun p hp' => (hpend p hp').1, ih fuel (fl.map (·.1)) S B _ _ (L.setIfInBounds j true) _ s' _ w' H' φ' hb (hls.set j) (fun f hf' => ⟨hasN_true.2 (hSfl f hf'), ready_mono (hS f hf').2 (fun e => hiS (e ▸ hf'))⟩) hnd hBd (by omega) (hsh.set hri) (hshM.set hj) (hB.trans h2) h3 (put_size.trans hn) (put_defers.trans hde) hpend (fun f hf' p hp' => hAn f hf' p (cutP_sub p hp').1) (fun f hf' => ?_) h1⟩
        obtain ⟨a, b, k1, k2, k3⟩ := apartAll_ok hap j (by simp) f (List.mem_cons_of_mem _ (hSfl f hf')) (fun e => hiS (e ▸ hf'))
        rw [hoi] at k1
        cases k1
        exact (hpf f hf').put hsnd (fun of hof => by rw [k2] at hof; cases hof; exact k3) (fun _ h => h.step h2)
      · -- one that comes up ahead of its turn
        have hjS : j ∉ S := fun h => by
          have h1 := (mem_ready.1 hj).1
          rw [hls.2, hasN_true.2 h] at h1
          simp at h1
        have hjfl : j ∈ fl.map (·.1) := by
          rcases Classical.em (j ∈ fl.map (·.1)) with h | h
          · exact h
          · exfalso
            obtain ⟨h1, o', h2, h3⟩ := mem_ready.1 hj
            have hLF := addF_ls L (fl.map (·.1))
            have hrd : j ∈ Region.ready .any ops (addF L (fl.map (·.1))) := by
              refine mem_ready.2 ⟨?_, o', h2, fun e he hbi => ?_⟩
              · rw [hLF.2, hasN_false.2 h]
                rw [hls.2] at h1
                simp only [Bool.or_eq_false_iff] at h1
                rw [h1.1]
                rfl
              · have := h3 e he hbi
                rw [getD_false] at this ⊢
                simp only [Bool.and_eq_true, decide_eq_true_eq] at this ⊢
                refine ⟨?_, by rw [hLF.1, ← hls.1]; exact this.2⟩
                rw [hLF.2]
                have h4 := this.1
                rw [hls.2] at h4
                simp only [Bool.or_eq_true] at h4 ⊢
                exact h4.imp id fun h5 => hasN_true.2 (hSfl _ (hasN_true.1 h5))
            have := List.all_eq_true.1 hrF j hrd
            simp only [beq_iff_eq] at this
            exact hji this
        obtain ⟨⟨j', aj⟩, hjm, hje⟩ := List.mem_map.1 hjfl
        simp only at hje
        subst hje
        have hfb := List.all_eq_true.1 hfl _ hjm
        obtain ⟨k1, k2, k3⟩ := floatsOk_mem hc4 _ hjm
        have hpk := List.all_eq_true.1 hc6 _ hjm
        simp only [floatB, Bool.and_eq_true] at hfb
        obtain ⟨⟨hjr, hjfl2⟩, hfb⟩ := hfb
        split at hfb
        case h_2 => cases hfb
        rename_i oj hoj
        simp only [Bool.and_eq_true, decide_eq_true_eq] at hfb
        obtain ⟨⟨⟨hjob, hjds⟩, hjg⟩, hjd⟩ := hfb
        split at hjd
        case h_2 => cases hjd
        rename_i d hdd
        simp only [Bool.and_eq_true, Bool.not_eq_true', decide_eq_true_eq] at hjd
        have hjL : j' ∈ Region.ready .any ops L := by simpa using hjr
        obtain ⟨obj, hborn⟩ := born_ok hjob hjfl2 k1 hB.sr hf
        have hst : Step H φ s.st w H φ s.st (w.alloc obj) := Step.grow hB.sr (World.grownBy_alloc w obj none)
        have hfrj : freshT oj.dst.toList T = true := by rw [hjds]; exact k3
        have hund : getT s.fr d = .undef := by
          rw [← hjds, hdd] at k2
          simp only [Option.toList_some, undefAll, Bool.and_true] at k2
          split at k2
          · rename_i h; exact h
          · cases k2
        have hf2 : FrR H φ s.st s.fr (act.put oj.dst (bornV oj.op w.heap.size)).tmps := by
          intro t
          by_cases ht : t = d
          · subst ht
            rw [hund]
            trivial
          · rw [getD_put (fun e => ht (by rw [hdd] at e; cases e; rfl))]
            exact hf t
        have hpend : PendR (act.put oj.dst (bornV oj.op w.heap.size)) (w.alloc obj) T (cutP (anc.getD j' []) TT) := by
          intro p hp'
          obtain ⟨hp1, hp2⟩ := cutP_sub p hp'
          obtain ⟨q1, q2⟩ := hp p hp1
          rcases q2 with q2 | ⟨x, hx, w0, e⟩
          · exact ⟨q2 _, .inl q2⟩
          · have hxf := freshT_ok hfrj _ hx
            have hgd : (act.put oj.dst (bornV oj.op w.heap.size)).tmps.getD x undef = act.tmps.getD x undef := getD_put (fun e => hxf (by rw [e]; simp))
            refine ⟨?_, .inr ⟨x, hx, w0, by rw [hgd]; exact e⟩⟩
            have hun := untouched hB.sr hst (Mem.grown (W := []) hB.sr (World.grownBy_alloc w obj none)) (hf x) (pendOk_ok hpk _ hx hp2)
            rw [e] at q1 ⊢
            intro b hb'
            rw [hun b hb']
            exact q1 b hb'
        have hiff : ∀ f ∈ S, f ≠ j' := fun f hf' e => hjS (e ▸ hf')
        unfold wpOp
        simp only [hoj, wanted_met (o := oj) (Option.isNone_iff_eq_none.1 hjg) trivial, if_true]
        refine .inl (wp_value (hborn w) ⟨fun p hp' => (hpend p hp').1, ?_⟩)
        have hbF : dtB P n ops (.only i g ao e fl rt) L (fl.map (·.1)) = true := by
          have hni : hasN (fl.map (·.1)) i = false := by
            have := hap
            simp only [apartAll, Bool.and_eq_true, Bool.not_eq_true'] at this
            exact this.1.1
          simp only [dtB, Bool.and_eq_true] at hb0 ⊢
          obtain ⟨⟨⟨⟨⟨⟨⟨z1, z2⟩, _⟩, _⟩, z5⟩, z6⟩, z7⟩, z8⟩ := hb0
          exact ⟨⟨⟨⟨⟨⟨⟨z1, z2⟩, List.all_eq_true.2 fun f hf' => by simp [hasN_true.2 hf']⟩, by rw [hni]; rfl⟩, z5⟩, z6⟩, z7⟩, z8⟩
        refine ihf fuel (by omega) (fl.map (·.1)) (j' :: S) (fun f => if f = j' then w.heap.size else B f) T _ L _ s _ (w.alloc obj) H φ hbF (hls.early j') ?_ (List.nodup_cons.2 ⟨hjS, hnd⟩) ?_ (by omega) hsh (hshM.set hj) (hB.trans hst) hf2 (put_size.trans hn) (put_defers.trans hde) hpend ?_ ?_ hk0
        · intro f hf'
          rcases List.mem_cons.1 hf' with rfl | hf'
          · exact ⟨hasN_true.2 hjfl, hjL⟩
          · exact ⟨hasN_true.2 (hSfl f hf'), (hS f hf').2⟩
        · have hlt : ∀ f ∈ S, B f < w.heap.size := fun f hf' => by
            obtain ⟨_, _, _, _, _, _, _, _, h6, _⟩ := hpf f hf'
            exact h6.lt
          intro f hf' g hg' hne
          rcases List.mem_cons.1 hf' with e1 | hf'
          · rcases List.mem_cons.1 hg' with e2 | hg'
            · exact absurd (e1.trans e2.symm) hne
            · rw [if_pos e1, if_neg (hiff g hg')]
              have := hlt g hg'
              omega
          · rcases List.mem_cons.1 hg' with e2 | hg'
            · rw [if_pos e2, if_neg (hiff f hf')]
              have := hlt f hf'
              omega
            · rw [if_neg (hiff f hf'), if_neg (hiff g hg')]
              exact hBd f hf' g hg' hne
        · intro f hf' p hp'
          rcases List.mem_cons.1 hf' with rfl | hf'
          · exact (cutP_sub p hp').2
          · exact hAn f hf' p (cutP_sub p hp').1
        · intro f hf'
          rcases List.mem_cons.1 hf' with e1 | hf'
          · subst e1
            rw [if_pos rfl]
            refine ⟨oj, d, obj, hoj, hdd, by rw [put_size, hn]; exact hjd.2, fun w2 => ?_, ?_, Lone.alloc hB.sr obj, hB.size⟩
            · rw [execOp_put oj (fun cs b => hsnd f oj cs b hoj) act oj.dst _ (ops := ops) (fun d' hd' => by
                rw [hdd] at hd'
                cases hd'
                intro hm
                have := hjd.1
                rw [List.contains_eq_mem, decide_eq_true hm] at this
                cases this)]
              exact hborn w2
            · rw [put_tmps hdd, Array.getD_eq_getD_getElem?]
              simp [hn, hjd.2]
          · rw [if_neg (hiff f hf')]
            obtain ⟨a, b, q1, q2, q3⟩ := apartAll_ok hap j' (List.mem_cons_of_mem _ hjfl) f (List.mem_cons_of_mem _ (hSfl f hf')) (fun e => hiff f hf' e.symm)
            rw [hoj] at q1
            cases q1
            exact (hpf f hf').put hsnd (fun of hof => by rw [q2] at hof; cases hof; exact q3) (fun _ h => h.step hst)

theorem draw_ok {n : Nat} {id : Nat} {ops : Array Oper} {anc : List (List Nat)} {t : DT} {cal : Cal} (hcal : CallOk P cal) (h : drawB P n ops anc t = true) {ρ : Type} {kn : St → Option ρ} {r : ρ} {s : St} {act : Act} {w : World} {H : HP} {φ : Phi} {Q : Exit → Act → World → Prop}
    (hs : SR H φ s.st w) (hf : FrR H φ s.st s.fr act.tmps) (hn : act.tmps.size = n) (hk : dK cal anc kn t [] s = some r)
    (hN : ∀ s' act' w' H' φ', kn s' = some r → Step H φ s.st w H' φ' s'.st w' → FrR H' φ' s'.st s'.fr act'.tmps → act'.tmps.size = n → act'.defers = act.defers → Q .normal act' w') : (Code.region id ops true).wp P Q act w := by
  simp only [drawB, Bool.and_eq_true] at h
  obtain ⟨⟨⟨hm, hsel⟩, hA⟩, hb⟩ := h
  have hst : Step H φ s.st w H φ s.st { w with drawn := w.drawn + 1 } := Step.grow hs ⟨rfl, rfl, rfl, Nat.le_refl _, fun _ _ _ => rfl⟩
  refine wp_mono (wp_region_any hm (Q := fun e a w => match e with | .normal => Q .normal a w | _ => False) (wpAny_of_G (anc := fun i => anc.getD i []) ops.size [] _ act _ ?_)) fun e a w h => by cases e <;> first | exact h | exact h.elim
  have hsh : Shut ops (Array.replicate ops.size false) := by
    intro k o hk' _ _ _ _
    simp [Array.getElem?_replicate] at hk'
    split at hk' <;> simp at hk'
  exact dt_ok (ab := act) (N := fun a w => Q .normal a w) hcal hA hsel (fun s' act' w' H' φ' h1 h2 h3 h4 h5 => hN s' act' w' H' φ' h1 h2 h3 h4 h5) t ops.size [] [] (fun _ => 0) [] [] (Array.replicate ops.size false) _ s act _ H φ hb (LS.refl _)
    (fun f hf => by cases hf) List.nodup_nil (fun f hf => by cases hf) (by simp [cnt_rep]) hsh hsh hst hf hn rfl (fun p hp => by cases hp) (fun f hf => by cases hf) (fun f hf => by cases hf) hk

end Go.Proofs.Ytnbfkndicldppaa.Core
