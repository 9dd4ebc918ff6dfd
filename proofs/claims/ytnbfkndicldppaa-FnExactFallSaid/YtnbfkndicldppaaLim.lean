/- Calls and loops without fuel: what they answer for all great enough fuels. -/
import Derived.Test.YtnbfkndicldppaaRow
namespace Go.Proofs.Ytnbfkndicldppaa.Core
open Go

/-- For all great enough numbers. -/
def Ev (p : Nat → Prop) : Prop := ∃ m, ∀ k, m ≤ k → p k

theorem Ev.mono {p q : Nat → Prop} (h : Ev p) (f : ∀ k, p k → q k) : Ev q := h.elim fun m hm => ⟨m, fun k hk => f k (hm k hk)⟩
theorem Ev.const {p : Prop} (h : p) : Ev fun _ => p := ⟨0, fun _ _ => h⟩
theorem Ev.all {p : Nat → Prop} (h : ∀ k, p k) : Ev p := ⟨0, fun k _ => h k⟩
theorem Ev.and {p q : Nat → Prop} (h : Ev p) (g : Ev q) : Ev fun k => p k ∧ q k := by
  obtain ⟨m, hm⟩ := h
  obtain ⟨n, hn⟩ := g
  exact ⟨max m n, fun k hk => ⟨hm k (by omega), hn k (by omega)⟩⟩

noncomputable def Lm {ρ : Type} (u : Nat → Option ρ) : Option ρ :=
  @dite _ (∃ r, Ev fun k => u k = some r) (Classical.propDecidable _) (fun h => some (Classical.choose h)) (fun _ => none)

theorem lm_ev {ρ : Type} {u : Nat → Option ρ} {r : ρ} (h : Lm u = some r) : Ev fun k => u k = some r := by
  unfold Lm at h
  split at h
  · rename_i hx
    cases h
    exact Classical.choose_spec hx
  · cases h

theorem ev_lm {ρ : Type} {u : Nat → Option ρ} {r : ρ} (h : Ev fun k => u k = some r) : Lm u = some r := by
  have hx : ∃ r, Ev fun k => u k = some r := ⟨r, h⟩
  unfold Lm
  rw [dif_pos hx]
  obtain ⟨m, hm⟩ := (Classical.choose_spec hx).and h
  obtain ⟨a, b⟩ := hm m (Nat.le_refl _)
  rw [← b, a]

/-- A function of states that others come to. -/
def Conv {ρ : Type} (kn : Nat → St → Option ρ) (kl : St → Option ρ) : Prop := ∀ s r, kl s = some r → Ev fun j => kn j s = some r
theorem Conv.refl {ρ : Type} (kl : St → Option ρ) : Conv (fun _ => kl) kl := fun _ _ h => .const h
def CalLim (cal : Nat → Cal) (c : Cal) : Prop := ∀ f a b r, c f a b = some r → Ev fun j => cal j f a b = some r
theorem CalLim.refl (c : Cal) : CalLim (fun _ => c) c := fun _ _ _ _ h => .const h

abbrev Lp (ρ : Type) : Type := ((St → Option ρ) → St → Option ρ) → St → Option ρ
def ConvF {ρ : Type} (F : Nat → (St → Option ρ) → St → Option ρ) (FL : (St → Option ρ) → St → Option ρ) : Prop :=
  ∀ (go : Nat → St → Option ρ) (gl : St → Option ρ), Conv go gl → Conv (fun j => F j (go j)) (FL gl)
def LpOk {ρ : Type} (lp : Nat → Lp ρ) (ll : Lp ρ) : Prop := ∀ (F : Nat → (St → Option ρ) → St → Option ρ) (FL : (St → Option ρ) → St → Option ρ), ConvF F FL → (∀ j, ConvF (fun _ => F j) (F j)) → Conv (fun j => lp j (F j)) (ll FL)

noncomputable def loopL {ρ : Type} : Lp ρ := fun F s => Lm fun n => loopF n F s

theorem loopF_ok {ρ : Type} : LpOk (ρ := ρ) loopF loopL := by
  intro F FL hF _ s r h
  have h := lm_ev h
  obtain ⟨m, hm⟩ := h
  have key : ∀ n, ∀ g : Nat → Nat, (∀ j, n ≤ g j) → Conv (fun j => loopF (g j) (F j)) (loopF n FL) := by
    intro n
    induction n with
    | zero => intro g _ s r h; cases h
    | succ n ih =>
      intro g hg s r h
      refine (hF (fun j => loopF (g j - 1) (F j)) (loopF n FL) (ih (fun j => g j - 1) fun j => by have := hg j; omega) s r h).mono fun j hj => ?_
      have e : g j = (g j - 1) + 1 := by have := hg j; omega
      show loopF (g j) (F j) s = some r
      rw [e]
      exact hj
  obtain ⟨k, hk⟩ := key m (fun j => max j m) (fun j => by omega) s r (hm m (Nat.le_refl _))
  refine ⟨max k m, fun j hj => ?_⟩
  have := hk j (by omega)
  simp only [show max j m = j by omega] at this
  exact this

theorem loopF_const {ρ : Type} (k : Nat) : LpOk (ρ := ρ) (fun _ => loopF k) (loopF k) := by
  intro F FL hF _
  induction k with
  | zero => intro s r h; cases h
  | succ k ih => exact hF _ _ ih

theorem loopL_step {ρ : Type} {F : (St → Option ρ) → St → Option ρ} (hF : ConvF (fun _ => F) F) {s : St} {r : ρ} (h : F (loopL F) s = some r) : loopL F s = some r := by
  obtain ⟨m, hm⟩ := hF (fun j => loopF j F) (loopL F) (fun s r h => lm_ev h) s r h
  exact ev_lm ⟨m + 1, fun k hk => by
    cases k with
    | zero => omega
    | succ k => exact hm k (by omega)⟩

theorem loopL_ok {ρ : Type} : LpOk (ρ := ρ) (fun _ => loopL) loopL := by
  intro F FL hF hs s r h
  obtain ⟨m, hm⟩ := lm_ev h
  have key : ∀ n, Conv (fun j => loopL (F j)) (loopF n FL) := by
    intro n
    induction n with
    | zero => intro s r h; cases h
    | succ n ih => intro s r h; exact (hF _ _ ih s r h).mono fun j hj => loopL_step (hs j) hj
  exact key m s r (hm m (Nat.le_refl _))

theorem bind_lim {α β : Type} {x : Option α} {f : Nat → α → Option β} {g : α → Option β} (h : ∀ a r, g a = some r → Ev fun j => f j a = some r) (r : β) (hx : x.bind g = some r) : Ev fun j => x.bind (f j) = some r := by
  cases x with
  | none => cases hx
  | some a => exact h a r hx

theorem list_lim {ρ : Type} {s : St} {v : AV} {K : Kd} {kn : Nat → List K.T → Option ρ} {kl : List K.T → Option ρ} (hk : ∀ a r, kl a = some r → Ev fun j => kn j a = some r) (r : ρ) (h : s.list v K kl = some r) : Ev fun j => s.list v K (kn j) = some r := by
  unfold St.list at h ⊢
  split at h
  · exact hk _ _ h
  · split at h
    · rename_i e
      simp only [dif_pos e]
      exact hk _ _ h
    · cases h
  · split at h
    · rename_i e0
      split at h
      · rename_i e
        simp only [e0, dif_pos e]
        exact hk _ _ h
      · cases h
    · rename_i e0
      split at h
      · rename_i e
        simp only [e0, dif_pos e]
        exact hk _ _ h
      · cases h
    · rename_i e0
      split at h
      · rename_i e
        simp only [e0, dif_pos e]
        exact hk _ _ h
      · cases h
    · cases h
  · cases h

theorem binop_lim {ρ : Type} {op : BinOp} {x y : AV} {kn : Nat → AV → Option ρ} {kl : AV → Option ρ} (hk : ∀ a r, kl a = some r → Ev fun j => kn j a = some r) (r : ρ) (h : binop op x y kl = some r) : Ev fun j => binop op x y (kn j) = some r := by
  have e : ∀ k : AV → Option ρ, binop op x y k = (binop op x y some).bind k := by
    intro k
    unfold binop
    repeat' split
    all_goals rfl
  rw [e] at h
  simp only [e (kn _)]
  exact bind_lim hk r h

theorem unop_lim {ρ : Type} {op : UnOp} {x : AV} {kn : Nat → AV → Option ρ} {kl : AV → Option ρ} (hk : ∀ a r, kl a = some r → Ev fun j => kn j a = some r) (r : ρ) (h : unop op x kl = some r) : Ev fun j => unop op x (kn j) = some r := by
  unfold unop at h ⊢
  split at h <;> first | exact hk _ _ h | cases h

theorem call_lim {α β : Type} {x : Nat → Option α} {xl : Option α} {f : Nat → α → Option β} {g : α → Option β} (hx : ∀ a, xl = some a → Ev fun j => x j = some a) (h : ∀ a r, g a = some r → Ev fun j => f j a = some r) (r : β) (hr : xl.bind g = some r) : Ev fun j => (x j).bind (f j) = some r := by
  cases xl with
  | none => cases hr
  | some a => exact ((hx a rfl).and (h a r hr)).mono fun j hj => by rw [hj.1]; exact hj.2

theorem sl_lim {ρ : Type} {cal : Nat → Cal} {c : Cal} {d z : Nat} {x : Opd} {lo hi : Option Opd} {kn : Nat → St → Option ρ} {kl : St → Option ρ} (hk : Conv kn kl) (s : St) (r : ρ) (h : opK c kl s (.sl d z x lo hi) = some r) : Ev fun j => opK (cal j) (kn j) s (.sl d z x lo hi) = some r := by
  simp only [opK] at h ⊢
  split at h
  · split at h
    · rename_i ez
      split at h
      · split at h
        · rename_i g1
          split at h
          · rename_i g2
            split at h
            · rename_i g3
              simp only [if_pos ez, if_pos g1, if_pos g2, if_pos g3]
              exact hk _ _ h
            · cases h
          · cases h
        · cases h
      · cases h
    · cases h
  · split at h
    · rename_i ez
      split at h
      · split at h
        · rename_i g1
          split at h
          · rename_i g2
            split at h
            · rename_i g3
              simp only [if_pos ez, if_pos g1, if_pos g2, if_pos g3]
              exact hk _ _ h
            · cases h
          · cases h
        · cases h
      · cases h
    · cases h
  · cases h

mutual
theorem op_lim {ρ : Type} {cal : Nat → Cal} {c : Cal} (hc : CalLim cal c) : ∀ (ao : AOp) {kn : Nat → St → Option ρ} {kl : St → Option ρ}, Conv kn kl → ∀ s r, opK c kl s ao = some r → Ev fun j => opK (cal j) (kn j) s ao = some r
  | .mv d x, kn, kl, hk, s, r, h => hk _ _ h
  | .nilrow d t K, kn, kl, hk, s, r, h => hk _ _ h
  | .pick d c a b, kn, kl, hk, s, r, h => by
    simp only [opK] at h ⊢
    split at h
    · split at h <;> rename_i e <;> simp only [e, if_true, if_false, Bool.false_eq_true] <;> exact hk _ _ h
    · cases h
  | .sc c want ops d a b, kn, kl, hk, s, r, h => by
    simp only [opK] at h ⊢
    split at h
    · split at h
      · rename_i e
        simp only [e, if_true]
        exact ops_lim hc ops (kn := fun j s' => kn j (s'.put d (if want then s'.opd a else s'.opd b))) (kl := fun s' => kl (s'.put d (if want then s'.opd a else s'.opd b))) (fun s r h => hk _ _ h) s r h
      · rename_i e
        simp only [if_neg e]
        exact hk _ _ h
    · cases h
  | .alloc d cs, kn, kl, hk, s, r, h => hk _ _ h
  | .box d x own, kn, kl, hk, s, r, h => by
    simp only [opK] at h ⊢
    exact bind_lim (fun a r h => hk _ _ h) r h
  | .build d zero parts, kn, kl, hk, s, r, h => by
    simp only [opK] at h ⊢
    exact bind_lim (fun a r h => hk _ _ h) r h
  | .bnew d zero parts, kn, kl, hk, s, r, h => by
    simp only [opK] at h ⊢
    exact bind_lim (fun a r h => hk _ _ h) r h
  | .brow d t K parts, kn, kl, hk, s, r, h => by
    simp only [opK] at h ⊢
    exact bind_lim (fun a r h => bind_lim (fun a r h => hk _ _ h) r h) r h
  | .blst d K parts, kn, kl, hk, s, r, h => by
    simp only [opK] at h ⊢
    exact bind_lim (fun a r h => bind_lim (fun a r h => hk _ _ h) r h) r h
  | .load d x n, kn, kl, hk, s, r, h => by
    simp only [opK] at h ⊢
    refine bind_lim (fun a r h => ?_) r h
    split at h
    · rename_i e
      simp only [if_pos e]
      exact hk _ _ h
    · cases h
  | .store x y m own, kn, kl, hk, s, r, h => by
    simp only [opK] at h ⊢
    split at h
    · rename_i e
      simp only [if_pos e]
      exact bind_lim (fun a r h => hk _ _ h) r h
    · cases h
  | .nilc d x, kn, kl, hk, s, r, h => by
    simp only [opK] at h ⊢
    split at h <;> first | exact hk _ _ h | cases h
  | .bin d op x y, kn, kl, hk, s, r, h => by
    simp only [opK] at h ⊢
    exact binop_lim (fun a r h => hk _ _ h) r h
  | .eqs d neg K x y, kn, kl, hk, s, r, h => by
    simp only [opK] at h ⊢
    exact bind_lim (fun a r h => bind_lim (fun a r h => hk _ _ h) r h) r h
  | .un d op x, kn, kl, hk, s, r, h => by
    simp only [opK] at h ⊢
    exact unop_lim (fun a r h => hk _ _ h) r h
  | .cvi d k x, kn, kl, hk, s, r, h => by
    simp only [opK] at h ⊢
    split at h <;> first | exact hk _ _ h | cases h
  | .bts d x, kn, kl, hk, s, r, h => by
    simp only [opK] at h ⊢
    exact list_lim (fun a r h => hk _ _ h) r h
  | .fld d x off, kn, kl, hk, s, r, h => by
    simp only [opK] at h ⊢
    split at h <;> first | exact hk _ _ h | cases h
  | .field d x off n, kn, kl, hk, s, r, h => by
    simp only [opK] at h ⊢
    split at h
    · split at h
      · rename_i e
        simp only [if_pos e]
        exact hk _ _ h
      · cases h
    · cases h
  | .idx d z x i, kn, kl, hk, s, r, h => by
    have e : ∀ k : St → Option ρ, opK (cal 0) k s (.idx d z x i) = (opK (cal 0) some s (.idx d z x i)).bind k := by
      intro k
      simp only [opK]
      repeat' split
      all_goals rfl
    have e2 : ∀ k : St → Option ρ, ∀ c : Cal, opK c k s (.idx d z x i) = opK (cal 0) k s (.idx d z x i) := fun k c => by simp only [opK]
    rw [e2, e] at h
    simp only [e2 (kn _), e (kn _)]
    exact bind_lim (fun a r h => hk _ _ h) r h
  | .sidx d x i, kn, kl, hk, s, r, h => by
    have e : ∀ k : St → Option ρ, opK (cal 0) k s (.sidx d x i) = (opK (cal 0) some s (.sidx d x i)).bind k := by
      intro k
      simp only [opK]
      repeat' split
      all_goals rfl
    have e2 : ∀ k : St → Option ρ, ∀ c : Cal, opK c k s (.sidx d x i) = opK (cal 0) k s (.sidx d x i) := fun k c => by simp only [opK]
    rw [e2, e] at h
    simp only [e2 (kn _), e (kn _)]
    exact bind_lim (fun a r h => hk _ _ h) r h
  | .sl d z x lo hi, kn, kl, hk, s, r, h => sl_lim hk s r h
  | .mk d t K n, kn, kl, hk, s, r, h => by
    have e : ∀ k : St → Option ρ, opK (cal 0) k s (.mk d t K n) = (opK (cal 0) some s (.mk d t K n)).bind k := by
      intro k
      simp only [opK]
      repeat' split
      all_goals rfl
    have e2 : ∀ k : St → Option ρ, ∀ c : Cal, opK c k s (.mk d t K n) = opK (cal 0) k s (.mk d t K n) := fun k c => by simp only [opK]
    rw [e2, e] at h
    simp only [e2 (kn _), e (kn _)]
    exact bind_lim (fun a r h => hk _ _ h) r h
  | .fn d f caps, kn, kl, hk, s, r, h => hk _ _ h
  | .clo d f K x, kn, kl, hk, s, r, h => by
    simp only [opK] at h ⊢
    split at h
    · exact bind_lim (fun a r h => hk _ _ h) r h
    · cases h
  | .fbox d x, kn, kl, hk, s, r, h => by
    simp only [opK] at h ⊢
    exact bind_lim (fun a r h => hk _ _ h) r h
  | .min d x y, kn, kl, hk, s, r, h => by
    simp only [opK] at h ⊢
    split at h
    · split at h
      · rename_i e
        simp only [if_pos e]
        exact hk _ _ h
      · cases h
    · cases h
  | .app d e K a b, kn, kl, hk, s, r, h => by
    simp only [opK] at h ⊢
    split at h
    · split at h
      · rename_i e1
        split at h
        · rename_i e2
          split at h
          · rename_i e3
            simp only [e1, dif_pos e2, if_pos e3]
            refine list_lim (fun a r h => ?_) r h
            split at h
            · rename_i e4
              simp only [if_pos e4]
              exact hk _ _ h
            · cases h
          · cases h
        · cases h
      · cases h
    · cases h
  | .apz d e K a b, kn, kl, hk, s, r, h => by
    simp only [opK] at h ⊢
    split at h
    · split at h
      · rename_i e1
        split at h
        · rename_i e2
          split at h
          · rename_i e3
            simp only [e1, dif_pos e2, if_pos e3]
            refine list_lim (fun a r h => ?_) r h
            split at h
            · rename_i e4
              simp only [if_pos e4]
              exact hk _ _ h
            · cases h
          · cases h
        · cases h
      · cases h
    · cases h
  | .len d t x, kn, kl, hk, s, r, h => by
    have e : ∀ k : St → Option ρ, opK (cal 0) k s (.len d t x) = (opK (cal 0) some s (.len d t x)).bind k := by
      intro k
      simp only [opK]
      repeat' split
      all_goals rfl
    have e2 : ∀ k : St → Option ρ, ∀ c : Cal, opK c k s (.len d t x) = opK (cal 0) k s (.len d t x) := fun k c => by simp only [opK]
    rw [e2, e] at h
    simp only [e2 (kn _), e (kn _)]
    exact bind_lim (fun a r h => hk _ _ h) r h
  | .call d f args res, kn, kl, hk, s, r, h => by
    simp only [opK] at h ⊢
    refine bind_lim (fun q r h => bind_lim (fun bx r h => ?_) r h) r h
    split at h
    · rename_i e
      simp only [if_pos e]
      refine call_lim (fun a ha => ?_) (fun y r h => ?_) r h
      · exact call_lim (f := fun _ => decAll _) (g := decAll _) (fun a ha => hc _ _ _ _ ha) (fun y r h => .const h) a ha
      · split at h
        · rename_i e
          simp only [if_pos e]
          exact hk _ _ h
        · cases h
    · cases h
  | .ext d x i, kn, kl, hk, s, r, h => by
    simp only [opK] at h ⊢
    split at h
    · split at h
      · rename_i e
        simp only [if_pos e]
        exact hk _ _ h
      · cases h
    · cases h
theorem ops_lim {ρ : Type} {cal : Nat → Cal} {c : Cal} (hc : CalLim cal c) : ∀ (aos : List AOp) {kn : Nat → St → Option ρ} {kl : St → Option ρ}, Conv kn kl → ∀ s r, opsK c kl s aos = some r → Ev fun j => opsK (cal j) (kn j) s aos = some r
  | [], kn, kl, hk, s, r, h => by simp only [opsK] at h ⊢; exact hk _ _ h
  | o :: os, kn, kl, hk, s, r, h => by
    simp only [opsK] at h ⊢
    exact op_lim hc o (fun s r h => ops_lim hc os hk s r h) s r h
end

theorem dt_lim {ρ : Type} {cal : Nat → Cal} {c : Cal} (hc : CalLim cal c) (anc : List (List Nat)) {kn : Nat → St → Option ρ} {kl : St → Option ρ} (hk : Conv kn kl) : ∀ (t : DT) (T : List (Nat × Nat)) s r, dK c anc kl t T s = some r → Ev fun j => dK (cal j) anc (kn j) t T s = some r
  | .done, T, s, r, h => hk _ _ h
  | .take i g ao d, T, s, r, h => by
    simp only [dK] at h ⊢
    split at h
    · rename_i e
      simp only [if_pos e]
      exact op_lim hc ao (fun s r h => dt_lim hc anc hk d _ s r h) s r h
    · cases h
  | .skip i g d t, T, s, r, h => by
    simp only [dK] at h ⊢
    split at h
    · rename_i e
      simp only [if_pos e]
      exact dt_lim hc anc hk t _ _ r h
    · cases h
  | .only i g ao e fl d, T, s, r, h => by
    simp only [dK] at h ⊢
    split at h
    · rename_i e
      simp only [if_pos e]
      exact op_lim hc ao (fun s r h => dt_lim hc anc hk d _ s r h) s r h
    · cases h
  | .test c a b, T, s, r, h => by
    simp only [dK] at h ⊢
    split at h
    · split at h
      · rename_i e
        simp only [if_pos e]
        exact dt_lim hc anc hk a _ _ r h
      · rename_i e
        simp only [if_neg e]
        exact dt_lim hc anc hk b _ _ r h
    · cases h

/-- Code, whatever carries out its loops. -/
def codeG {ρ : Type} (cal : Cal) (lp : Lp ρ) : ACode → (kn kr : St → Option ρ) → (ke : Nat → St → Option ρ) → St → Option ρ
  | .skip, kn, _, _, s => kn s
  | .region ops live, kn, _, _, s => opsK cal (fun s' => kn ⟨live.map fun t => (t, getT s'.fr t), s'.st⟩) s ops
  | .draw anc t live, kn, _, _, s => dK cal anc (fun s' => kn ⟨live.map fun t => (t, getT s'.fr t), s'.st⟩) t [] s
  | .seqc live a b, kn, kr, ke, s => codeG cal lp a (fun s' => codeG cal lp b kn kr ke (s'.cutH (homesOf s live) live s.st.length)) kr ke s
  | .seq a b, kn, kr, ke, s => codeG cal lp a (fun s' => codeG cal lp b kn kr ke s') kr ke s
  | .cond c a b, kn, kr, ke, s => match s.opd c with
    | .bool t => if t = true then codeG cal lp a kn kr ke s else codeG cal lp b kn kr ke s
    | _ => none
  | .block id live body, kn, kr, ke, s => codeG cal lp body (fun s' => kn (s'.cutH (homesOf s live) live s.st.length)) kr (fun i s' => if i = id then kn (s'.cutH (homesOf s live) live s.st.length) else ke i s') s
  | .loop live body, _, kr, ke, s => lp (fun go s' => codeG cal lp body (fun s'' => go (s''.cutH (homesOf s live) live s.st.length)) kr ke s') (s.cut live s.st.length)
  | .exit id, _, _, ke, s => ke id s
  | .ret, _, kr, _, s => kr s

theorem codeK_G {ρ : Type} (cal : Cal) (k : Nat) : ∀ (a : ACode) (kn kr : St → Option ρ) (ke : Nat → St → Option ρ) (s : St), codeK cal k a kn kr ke s = codeG cal (loopF k) a kn kr ke s
  | .skip, _, _, _, _ => rfl
  | .region .., _, _, _, _ => rfl
  | .draw .., _, _, _, _ => rfl
  | .seqc live a b, kn, kr, ke, s => by simp only [codeK, codeG, codeK_G cal k a, codeK_G cal k b]
  | .seq a b, kn, kr, ke, s => by simp only [codeK, codeG, codeK_G cal k a, codeK_G cal k b]
  | .cond c a b, kn, kr, ke, s => by
    simp only [codeK, codeG, codeK_G cal k a, codeK_G cal k b]
    cases s.opd c <;> rfl
  | .block id live a, kn, kr, ke, s => by simp only [codeK, codeG, codeK_G cal k a]
  | .loop live a, kn, kr, ke, s => by simp only [codeK, codeG, codeK_G cal k a]
  | .exit _, _, _, _, _ => rfl
  | .ret, _, _, _, _ => rfl

theorem code_lim {ρ : Type} : ∀ (a : ACode) {cal : Nat → Cal} {c : Cal} {lp : Nat → Lp ρ} {ll : Lp ρ} {kn kr : Nat → St → Option ρ} {kl krl : St → Option ρ} {ke : Nat → Nat → St → Option ρ} {kel : Nat → St → Option ρ}, CalLim cal c → LpOk lp ll → (∀ j, LpOk (fun _ => lp j) (lp j)) →
    Conv kn kl → Conv kr krl → (∀ i, Conv (fun j => ke j i) (kel i)) → Conv (fun j => codeG (cal j) (lp j) a (kn j) (kr j) (ke j)) (codeG c ll a kl krl kel)
  | .skip, _, _, _, _, _, _, _, _, _, _, hc, hl, hl', hk, hr, he => hk
  | .region ops live, _, _, _, _, _, _, _, _, _, _, hc, hl, hl', hk, hr, he => fun s r h => ops_lim hc ops (fun s r h => hk _ r h) s r h
  | .draw anc t live, _, _, _, _, _, _, _, _, _, _, hc, hl, hl', hk, hr, he => fun s r h => dt_lim hc anc (fun s r h => hk _ r h) t [] s r h
  | .seqc live a b, _, _, _, _, _, _, _, _, _, _, hc, hl, hl', hk, hr, he => fun s r h => code_lim a hc hl hl' (fun s' r h => code_lim b hc hl hl' hk hr he _ r h) hr he s r h
  | .seq a b, _, _, _, _, _, _, _, _, _, _, hc, hl, hl', hk, hr, he => fun s r h => code_lim a hc hl hl' (fun s' r h => code_lim b hc hl hl' hk hr he _ r h) hr he s r h
  | .cond c a b, _, _, _, _, _, _, _, _, _, _, hc, hl, hl', hk, hr, he => fun s r h => by
    simp only [codeG] at h ⊢
    split at h
    · split at h
      · rename_i e
        simp only [if_pos e]
        exact code_lim a hc hl hl' hk hr he s r h
      · rename_i e
        simp only [if_neg e]
        exact code_lim b hc hl hl' hk hr he s r h
    · cases h
  | .block id live a, _, _, _, _, _, _, _, _, _, _, hc, hl, hl', hk, hr, he => fun s r h => by
    simp only [codeG] at h ⊢
    refine code_lim a hc hl hl' (fun s r h => hk _ r h) hr (fun i s' r h => ?_) s r h
    split at h
    · rename_i e
      simp only [if_pos e]
      exact hk _ r h
    · rename_i e
      simp only [if_neg e]
      exact he i _ r h
  | .loop live a, cal, c, lp, ll, kn, kr, kl, krl, ke, kel, hc, hl, hl', hk, hr, he => fun s r h => by
    simp only [codeG] at h ⊢
    refine hl _ _ (fun go gl hgo s' r h => ?_) (fun j go gl hgo s' r h => ?_) _ r h
    · exact code_lim a hc hl hl' (fun s r h => hgo _ r h) hr he s' r h
    · exact code_lim (cal := fun _ => cal j) (lp := fun _ => lp j) (kn := fun i s' => go i (s'.cutH (homesOf s live) live s.st.length)) (kl := fun s' => gl (s'.cutH (homesOf s live) live s.st.length)) (kr := fun _ => kr j) (krl := kr j) (ke := fun _ => ke j) (kel := ke j) a (CalLim.refl _) (hl' j) (fun _ => hl' j) (fun s r h => hgo _ r h) (Conv.refl _) (fun i => Conv.refl _) s' r h
  | .exit id, _, _, _, _, _, _, _, _, _, _, hc, hl, hl', hk, hr, he => fun s r h => he id s r h
  | .ret, _, _, _, _, _, _, _, _, _, _, hc, hl, hl', hk, hr, he => hr

/-- A round of a loop. -/
theorem loop_step {ρ : Type} {cal : Cal} {a : ACode} {hs : List (Nat × Nat)} {live : List Nat} {n : Nat} {kr : St → Option ρ} {ke : Nat → St → Option ρ} {s : St} {r : ρ}
    (h : codeG cal loopL a (fun s'' => loopL (fun go s' => codeG cal loopL a (fun s'' => go (s''.cutH hs live n)) kr ke s') (s''.cutH hs live n)) kr ke s = some r) :
    loopL (fun go s' => codeG cal loopL a (fun s'' => go (s''.cutH hs live n)) kr ke s') s = some r :=
  loopL_step (F := fun go s' => codeG cal loopL a (fun s'' => go (s''.cutH hs live n)) kr ke s') (fun go gl hgo s' r h => code_lim (cal := fun _ => cal) (lp := fun _ => loopL) (kn := fun i s' => go i (s'.cutH hs live n)) (kl := fun s' => gl (s'.cutH hs live n)) (kr := fun _ => kr) (krl := kr) (ke := fun _ => ke) (kel := ke) a (CalLim.refl _) loopL_ok (fun _ => loopL_ok) (fun s r h => hgo _ r h) (Conv.refl _) (fun i => Conv.refl _) s' r h) h

noncomputable def bodyL (cal : Cal) (fn : AFn) (args bs : List AV) : Option (RT fn.outs) :=
  codeG cal loopL fn.body (retK fn) (retK fn) (fun _ _ => none) ⟨paramsF 0 (openVs (handed bs) args), exitSt bs args⟩

noncomputable def calL (fns : Nat → Option AFn) (prims : Cal) : Cal := fun f a b => Lm fun k => callK fns prims k f a b

theorem call_prim {fns : Nat → Option AFn} {prims : Cal} {f : Nat} {args bs r : List AV} (hf : fns f = none) (h : prims f args bs = some r) : calL fns prims f args bs = some r := by
  refine ev_lm ⟨1, fun k hk => ?_⟩
  cases k with
  | zero => omega
  | succ k => simp only [callK, hf, h]

/-- A call, by its body. -/
theorem call_body {fns : Nat → Option AFn} {prims : Cal} {f : Nat} {fn : AFn} {args bs : List AV} {r : RT fn.outs} (hf : fns f = some fn) (hl : args.length = fn.params.length ∧ bs.length = (ptrKinds fn.params 0).length)
    (h : bodyL (calL fns prims) fn args bs = some r) : calL fns prims f args bs = some (encAll fn.outs r) := by
  have hc : CalLim (fun k => callK fns prims k) (calL fns prims) := fun f a b r h => lm_ev h
  obtain ⟨m, hm⟩ := code_lim (lp := loopF) (ll := loopL) fn.body (kn := fun _ => retK fn) (kr := fun _ => retK fn) (ke := fun _ _ _ => none) hc loopF_ok loopF_const (Conv.refl _) (Conv.refl _) (fun i => Conv.refl _) _ r h
  refine ev_lm ⟨m + 1, fun k hk => ?_⟩
  cases k with
  | zero => omega
  | succ k =>
    simp only [callK, hf, if_pos hl]
    have := hm k (by omega)
    simp only [← codeK_G] at this
    unfold bodyK
    rw [this]
    rfl

theorem dec_enc_app : ∀ (K : Kd) (x : K.T) (r : List AV), K.dec (K.enc x ++ r) = some (x, r)
  | .int k, x, r => by simp [Kd.enc, Kd.dec]
  | .bool, x, r => rfl
  | .str, x, r => rfl
  | .slice e, x, r => by simp [Kd.enc, Kd.dec]
  | .pair a b, x, r => by simp [Kd.enc, Kd.dec, List.append_assoc, dec_enc_app a, dec_enc_app b]
  | .own t e, x, r => by simp [Kd.enc, Kd.dec]
  | .ref K, x, r => by
    have := dec_enc_app K x []
    rw [List.append_nil] at this
    simp [Kd.enc, Kd.dec, this]
  | .fun f, x, r => by simp [Kd.enc, Kd.dec]
  | .clo f K, x, r => by simp [Kd.enc, Kd.dec]

theorem of_av_self (K : Kd) (x : K.T) : K.of (K.av x) = some x := by
  have h : K.ofCells (K.enc x) = some x := by
    have := dec_enc_app K x []
    rw [List.append_nil] at this
    simp [Kd.ofCells, this]
  unfold Kd.of
  cases K <;> exact h

theorem decAll_enc : ∀ (Ks : List Kd) (x : RT Ks), decAll Ks (encAll Ks x) = some x
  | [], _ => rfl
  | [K], x => of_av_self K x
  | K :: L :: Ks, x => by
    simp only [encAll, decAll, of_av_self, Option.bind_some]
    rw [decAll_enc (L :: Ks) x.2]
    rfl

/-- A call's typed answer. -/
theorem call_typed {fns : Nat → Option AFn} {prims : Cal} {f : Nat} {fn : AFn} {args bs : List AV} {r : RT fn.outs} (hf : fns f = some fn) (hl : args.length = fn.params.length ∧ bs.length = (ptrKinds fn.params 0).length)
    (h : bodyL (calL fns prims) fn args bs = some r) : (calL fns prims f args bs).bind (decAll fn.outs) = some r := by
  rw [call_body hf hl h, Option.bind_some, decAll_enc]

/-- A law that is true when fuel is no matter. -/
theorem law_true {P : Program} {fns : Nat → Option AFn} {prims : Cal} (ht : Tied P fns) (hp : CallOk P prims) {f : Nat} {args : List AV} (h : (calL fns prims f args []).bind (decAll [.bool]) = some true) {W : World} {cargs : List Value}
    (ha : All2 (VE (whole W)) args cargs) : Calls P f cargs.toArray W fun e W' => e = .returned (.bool true) ∧ RowKit.Below W.heap.size W W' := by
  cases hq : calL fns prims f args [] with
  | none => rw [hq] at h; cases h
  | some v =>
    rw [hq, Option.bind_some] at h
    obtain ⟨m, hm⟩ := lm_ev hq
    have hm := hm m (Nat.le_refl _)
    have e : v = [.bool true] := by
      match v, h with
      | [a], h =>
        have h : Kd.of .bool a = some true := h
        unfold Kd.of Kd.ofCells at h
        cases a <;> simp [AV.cells, Kd.dec, AV.fits] at h <;> first | rw [h] | skip
    subst e
    exact law_calls ht hp hm ha

def look (f : Nat) : List (Nat × AFn) → Option AFn
  | [] => none
  | (g, a) :: r => if g = f then some a else look f r

inductive TabOk (P : Program) : List (Nat × AFn) → Prop where
  | nil : TabOk P []
  | cons {f : Nat} {a : AFn} {r : List (Nat × AFn)} (h : afnB P f a = true) (t : TabOk P r) : TabOk P ((f, a) :: r)

theorem look_tied {P : Program} {tab : List (Nat × AFn)} (h : TabOk P tab) : Tied P fun f => look f tab := by
  intro f a hf
  induction h with
  | nil => cases hf
  | cons h _ ih =>
    simp only [look] at hf
    split at hf
    · rename_i e
      cases hf
      rw [← e]
      exact h
    · exact ih hf

end Go.Proofs.Ytnbfkndicldppaa.Core
