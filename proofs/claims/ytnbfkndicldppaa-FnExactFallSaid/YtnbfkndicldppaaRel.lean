/- What abstract values, boxes and stores of the interpreter stand for in the model's memory; small laws of that. -/
import Derived.Test.YtnbfkndicldppaaE
import Derived.Laws.AppendOwn
import Derived.Below
namespace Go.Proofs.Ytnbfkndicldppaa.Core
open Go

/-- The part of the heap that is never written again. -/
abbrev HP := Nat → Option Obj
def HP.le (H H' : HP) : Prop := ∀ b o, H b = some o → H' b = some o
theorem HP.le_refl (H : HP) : H.le H := fun _ _ h => h
theorem HP.le_trans {A B C : HP} (h : A.le B) (g : B.le C) : A.le C := fun b o e => g b o (h b o e)

/-- A slice value that reads as a list in memory that is never written again. -/
def reps {α : Type} (R : α → List Value → Prop) (sz : Nat) (H : HP) (xs : List α) (v : Value) : Prop :=
  ∃ a cap, v = .slice a xs.length cap ∧ xs.length ≤ cap ∧ (xs = [] ∨ ∃ b off c el fz, a = some ⟨b, off, none⟩ ∧ H b = some (.cells c el fz) ∧
    ∀ j x, xs[j]? = some x → ∃ cs, R x cs ∧ cs.length = sz ∧ ∀ i u, cs[i]? = some u → c[off + j * sz + i]? = some u)

/-- A function value that holds one variable, in memory that is never written again. -/
def cloR (H : HP) (f : Nat) (R : List Value → Prop) (v : Value) : Prop :=
  ∃ b o c el fz, v = .func (.func f) #[] #[.pointer (some ⟨b, o, none⟩)] ∧ H b = some (.cells c el fz) ∧ ∃ vs, R vs ∧ ∀ (j : Nat) u, vs[j]? = some u → c[o + j]? = some u
theorem cloR_mono {H H' : HP} (hH : H.le H') {f : Nat} {R R' : List Value → Prop} {v : Value} (hR : ∀ cs, R cs → R' cs) (h : cloR H f R v) : cloR H' f R' v := by
  obtain ⟨b, o, c, el, fz, e, hb, vs, hv, hc⟩ := h
  exact ⟨b, o, c, el, fz, e, hH _ _ hb, vs, hR _ hv, hc⟩

def Rep (H : HP) : (K : Kd) → K.T → List Value → Prop
  | .int k, n, cs => cs = [.int k n]
  | .bool, b, cs => cs = [.bool b]
  | .str, s, cs => cs = [.string s]
  | .slice e, xs, cs => ∃ v, cs = [v] ∧ reps (Rep H e) e.sz H xs v
  | .pair a b, x, cs => ∃ c1 c2, cs = c1 ++ c2 ∧ Rep H a x.1 c1 ∧ Rep H b x.2 c2
  | .own _ _, _, _ => False
  | .ref _, _, _ => False
  | .fun f, _, cs => cs = [.func (.func f) #[] #[]]
  | .clo f K, x, cs => ∃ v, cs = [v] ∧ cloR H f (Rep H K x) v

theorem Rep.length {H : HP} : ∀ {K : Kd} {x : K.T} {cs : List Value}, Rep H K x cs → cs.length = K.sz
  | .int _, _, _, h => by cases h; rfl
  | .bool, _, _, h => by cases h; rfl
  | .str, _, _, h => by cases h; rfl
  | .slice _, _, _, ⟨_, h, _⟩ => by cases h; rfl
  | .pair _ _, _, _, ⟨_, _, h, h1, h2⟩ => by subst h; simp [Kd.sz, Rep.length h1, Rep.length h2]
  | .own _ _, _, _, h => h.elim
  | .ref _, _, _, h => h.elim
  | .fun _, _, _, h => by cases h; rfl
  | .clo _ _, _, _, ⟨_, h, _⟩ => by cases h; rfl

theorem reps_mono {α : Type} {R R' : α → List Value → Prop} {sz : Nat} {H H' : HP} {xs : List α} {v : Value} (hR : ∀ x cs, R x cs → R' x cs) (hH : H.le H')
    (h : reps R sz H xs v) : reps R' sz H' xs v := by
  obtain ⟨a, cap, e, hc, h⟩ := h
  refine ⟨a, cap, e, hc, ?_⟩
  rcases h with h | ⟨b, off, c, el, fz, ea, hb, hr⟩
  · exact .inl h
  · refine .inr ⟨b, off, c, el, fz, ea, hH _ _ hb, fun j x hx => ?_⟩
    obtain ⟨cs, h1, h2, h3⟩ := hr j x hx
    exact ⟨cs, hR _ _ h1, h2, h3⟩

theorem Rep.mono {H H' : HP} (hH : H.le H') : ∀ {K : Kd} {x : K.T} {cs : List Value}, Rep H K x cs → Rep H' K x cs
  | .int _, _, _, h => h
  | .bool, _, _, h => h
  | .str, _, _, h => h
  | .slice _, _, _, ⟨v, h, hr⟩ => ⟨v, h, reps_mono (fun _ _ h => Rep.mono hH h) hH hr⟩
  | .pair _ _, _, _, ⟨c1, c2, h, h1, h2⟩ => ⟨c1, c2, h, Rep.mono hH h1, Rep.mono hH h2⟩
  | .own _ _, _, _, h => h.elim
  | .ref _, _, _, h => h.elim
  | .fun _, _, _, h => h
  | .clo _ _, _, _, ⟨v, h, hr⟩ => ⟨v, h, cloR_mono hH (fun _ h => Rep.mono hH h) hr⟩

/-- A cell's value that needs no store to be read. -/
def VF (H : HP) : AV → Value → Prop
  | .int k n, v => v = .int k n
  | .bool b, v => v = .bool b
  | .str s, v => v = .string s
  | .nil, v => v = .slice none 0 0
  | .lst K xs, v => reps (Rep H K) K.sz H xs v
  | .fn f caps, v => caps = [] ∧ v = .func (.func f) #[] #[]
  | .clo f K x, v => cloR H f (Rep H K x) v
  | _, _ => False

theorem VF.mono {H H' : HP} (hH : H.le H') {a : AV} {v : Value} (h : VF H a v) : VF H' a v := by
  cases a <;> simp only [VF] at h ⊢ <;> first | exact h | exact reps_mono (fun _ _ h => Rep.mono hH h) hH h | exact cloR_mono hH (fun _ h => Rep.mono hH h) h

/-- Lists of cells, one by one. -/
def VFs (H : HP) : List AV → List Value → Prop
  | [], vs => vs = []
  | a :: as, vs => ∃ v r, vs = v :: r ∧ VF H a v ∧ VFs H as r

theorem VFs.mono {H H' : HP} (hH : H.le H') : ∀ {as : List AV} {vs : List Value}, VFs H as vs → VFs H' as vs
  | [], _, h => h
  | _ :: _, _, ⟨v, r, e, h, hr⟩ => ⟨v, r, e, VF.mono hH h, VFs.mono hH hr⟩

theorem VFs.length {H : HP} : ∀ {as : List AV} {vs : List Value}, VFs H as vs → vs.length = as.length
  | [], _, h => by cases h; rfl
  | _ :: _, _, ⟨v, r, e, _, hr⟩ => by subst e; simp [VFs.length hr]

theorem VFs.append {H : HP} : ∀ {as bs : List AV} {vs ws : List Value}, VFs H as vs → VFs H bs ws → VFs H (as ++ bs) (vs ++ ws)
  | [], _, _, _, h, g => by cases h; exact g
  | _ :: _, _, _, _, ⟨v, r, e, h, hr⟩, g => by subst e; exact ⟨v, _, rfl, h, VFs.append hr g⟩

theorem VFs.get {H : HP} : ∀ {as : List AV} {vs : List Value}, VFs H as vs → ∀ (j : Nat) (a : AV), as[j]? = some a → ∃ v, vs[j]? = some v ∧ VF H a v
  | [], _, _, j, a, hj => by simp at hj
  | x :: as, _, ⟨v, r, e, h, hr⟩, 0, a, hj => by subst e; simp at hj; subst hj; exact ⟨v, rfl, h⟩
  | x :: as, _, ⟨v, r, e, h, hr⟩, j + 1, a, hj => by subst e; simp at hj; simpa using VFs.get hr j a hj

theorem VFs.drop {H : HP} : ∀ {as : List AV} {vs : List Value} (n : Nat), VFs H as vs → VFs H (as.drop n) (vs.drop n)
  | as, vs, 0, h => by simpa using h
  | [], vs, n + 1, h => by cases h; simp [VFs]
  | _ :: _, _, n + 1, ⟨v, r, e, h, hr⟩ => by subst e; simpa using VFs.drop n hr

theorem VFs.take {H : HP} : ∀ {as : List AV} {vs : List Value} (n : Nat), VFs H as vs → VFs H (as.take n) (vs.take n)
  | as, vs, 0, h => by simp [VFs]
  | [], vs, n + 1, h => by cases h; simp [VFs]
  | _ :: _, _, n + 1, ⟨v, r, e, h, hr⟩ => by subst e; exact ⟨v, _, by simp, h, VFs.take n hr⟩

theorem VFs.set {H : HP} : ∀ {as : List AV} {vs : List Value} (n : Nat) {a : AV} {v : Value}, VFs H as vs → VF H a v → VFs H (as.set n a) (vs.set n v)
  | [], vs, n, a, v, h, _ => by cases h; simp [VFs]
  | _ :: _, _, 0, a, v, ⟨v0, r, e, _, hr⟩, g => by subst e; exact ⟨v, r, rfl, g, hr⟩
  | _ :: _, _, n + 1, a, v, ⟨v0, r, e, h, hr⟩, g => by subst e; exact ⟨v0, _, rfl, h, VFs.set n hr g⟩

theorem VFs.of_rep {H : HP} : ∀ {K : Kd} {x : K.T} {cs : List Value}, Rep H K x cs → VFs H (K.enc x) cs
  | .int _, _, _, h => ⟨_, _, h, rfl, rfl⟩
  | .bool, _, _, h => ⟨_, _, h, rfl, rfl⟩
  | .str, _, _, h => ⟨_, _, h, rfl, rfl⟩
  | .slice _, _, _, ⟨v, h, hr⟩ => ⟨_, _, h, hr, rfl⟩
  | .pair _ _, _, _, ⟨_, _, h, h1, h2⟩ => by subst h; exact VFs.append (VFs.of_rep h1) (VFs.of_rep h2)
  | .own _ _, _, _, h => h.elim
  | .ref _, _, _, h => h.elim
  | .fun _, _, _, h => ⟨_, _, h, ⟨rfl, rfl⟩, rfl⟩
  | .clo _ _, _, _, ⟨v, h, hr⟩ => ⟨_, _, h, hr, rfl⟩

theorem reps_nil {α : Type} {R : α → List Value → Prop} {sz : Nat} {H : HP} : reps R sz H ([] : List α) (.slice none 0 0) := ⟨none, 0, rfl, Nat.le_refl _, .inl rfl⟩

/-- What 'dec' reads is there. -/
theorem rep_of_dec {H : HP} : ∀ (K : Kd) {as : List AV} {vs : List Value} {x : K.T} {r : List AV}, VFs H as vs → K.dec as = some (x, r) →
    ∃ c1 c2, vs = c1 ++ c2 ∧ Rep H K x c1 ∧ VFs H r c2 := by
  intro K
  induction K with
  | int k =>
    intro as vs x r h hd
    cases as with
    | nil => simp [Kd.dec] at hd
    | cons a as =>
      obtain ⟨v, w, e, h1, h2⟩ := h
      cases a <;> simp [Kd.dec] at hd
      obtain ⟨rfl, rfl, rfl⟩ := hd
      simp only [VF] at h1
      exact ⟨[v], w, by simp [e], by simp [Rep, h1], h2⟩
  | bool =>
    intro as vs x r h hd
    cases as with
    | nil => simp [Kd.dec] at hd
    | cons a as =>
      obtain ⟨v, w, e, h1, h2⟩ := h
      cases a <;> simp [Kd.dec] at hd
      obtain ⟨rfl, rfl⟩ := hd
      simp only [VF] at h1
      exact ⟨[v], w, by simp [e], by simp [Rep, h1], h2⟩
  | str =>
    intro as vs x r h hd
    cases as with
    | nil => simp [Kd.dec] at hd
    | cons a as =>
      obtain ⟨v, w, e, h1, h2⟩ := h
      cases a <;> simp [Kd.dec] at hd
      obtain ⟨rfl, rfl⟩ := hd
      simp only [VF] at h1
      exact ⟨[v], w, by simp [e], by simp [Rep, h1], h2⟩
  | slice e ih =>
    intro as vs x r h hd
    cases as with
    | nil => simp [Kd.dec] at hd
    | cons a as =>
      obtain ⟨v, w, ev, h1, h2⟩ := h
      cases a with
      | nil =>
        simp only [Kd.dec, Option.some.injEq, Prod.mk.injEq] at hd
        obtain ⟨rfl, rfl⟩ := hd
        simp only [VF] at h1
        exact ⟨[v], w, by simp [ev], ⟨v, rfl, by rw [h1]; exact reps_nil⟩, h2⟩
      | lst K xs =>
        simp only [Kd.dec] at hd
        split at hd
        · rename_i hk
          subst hk
          simp only [Option.some.injEq, Prod.mk.injEq] at hd
          obtain ⟨rfl, rfl⟩ := hd
          exact ⟨[v], w, by simp [ev], ⟨v, rfl, h1⟩, h2⟩
        · cases hd
      | _ => simp [Kd.dec] at hd
  | pair a b iha ihb =>
    intro as vs x r h hd
    simp only [Kd.dec] at hd
    cases hx : a.dec as with
    | none => simp [hx] at hd
    | some xa =>
      obtain ⟨xa, ra⟩ := xa
      simp only [hx, Option.bind_some] at hd
      cases hy : b.dec ra with
      | none => simp [hy] at hd
      | some yb =>
        obtain ⟨yb, rb⟩ := yb
        simp only [hy, Option.bind_some, Option.some.injEq, Prod.mk.injEq] at hd
        obtain ⟨rfl, rfl⟩ := hd
        obtain ⟨c1, c2, e1, r1, h1⟩ := iha h hx
        obtain ⟨d1, d2, e2, r2, h2⟩ := ihb h1 hy
        exact ⟨c1 ++ d1, d2, by simp [e1, e2], ⟨c1, d1, rfl, r1, r2⟩, h2⟩
  | own t e ih =>
    intro as vs x r h hd
    cases as with
    | nil => simp [Kd.dec] at hd
    | cons a as =>
      obtain ⟨v, w, ev, h1, h2⟩ := h
      cases a <;> first | exact h1.elim | (simp [Kd.dec] at hd)
  | ref K ih =>
    intro as vs x r h hd
    cases as with
    | nil => simp [Kd.dec] at hd
    | cons a as =>
      obtain ⟨v, w, ev, h1, h2⟩ := h
      cases a <;> first | exact h1.elim | (simp [Kd.dec] at hd)
  | «fun» f =>
    intro as vs x r h hd
    cases as with
    | nil => simp [Kd.dec] at hd
    | cons a as =>
      obtain ⟨v, w, ev, h1, h2⟩ := h
      cases a with
      | fn f' caps =>
        cases caps with
        | nil =>
          simp only [Kd.dec] at hd
          split at hd
          · rename_i e
            subst e
            cases hd
            obtain ⟨_, rfl⟩ := h1
            exact ⟨[_], w, by simp [ev], rfl, h2⟩
          · cases hd
        | cons _ _ => simp [Kd.dec] at hd
      | _ => simp [Kd.dec] at hd
  | clo f K ih =>
    intro as vs x r h hd
    cases as with
    | nil => simp [Kd.dec] at hd
    | cons a as =>
      obtain ⟨v, w, ev, h1, h2⟩ := h
      cases a with
      | clo f' K' y =>
        simp only [Kd.dec] at hd
        split at hd
        · rename_i e
          subst e
          split at hd
          · rename_i hk
            subst hk
            simp only [Option.some.injEq, Prod.mk.injEq] at hd
            obtain ⟨rfl, rfl⟩ := hd
            exact ⟨[v], w, by simp [ev], ⟨v, rfl, h1⟩, h2⟩
          · cases hd
        · cases hd
      | _ => simp [Kd.dec] at hd

end Go.Proofs.Ytnbfkndicldppaa.Core
