/- The interpreter's store against the model's heap: what references, boxes and frames stand for, and what keeps them. -/
import Derived.Test.YtnbfkndicldppaaRel
namespace Go.Proofs.Ytnbfkndicldppaa.Core
open Go

/-- What each box is in memory: the address of a variable's cells, a row's slice value. -/
abbrev Phi := Nat → Value

def kindAt (st : List Box) (id : Nat) : Option (Kd × Nat) :=
  match st[id]? with
  | some (.rows _ K xs) => some (K, xs.length)
  | some (.frz K xs) => some (K, xs.length)
  | some (.mrow _ K xs) => some (K, xs.length)
  | _ => none

/-- Boxes that stay where they are: variables, rows that are lent for writing. -/
def Box.hold : Box → Bool
  | .var _ => true
  | .mrow _ _ _ => true
  | _ => false
def holdAt (st : List Box) (id : Nat) : Bool :=
  match st[id]? with
  | some b => b.hold
  | _ => false

def varAt (st : List Box) (id : Nat) : Bool :=
  match st[id]? with
  | some (.var _) => true
  | _ => false

/-- One by one. -/
def All2 {α β : Type} (R : α → β → Prop) : List α → List β → Prop
  | [], vs => vs = []
  | a :: as, vs => ∃ v r, vs = v :: r ∧ R a v ∧ All2 R as r

theorem All2.imp {α β : Type} {R S : α → β → Prop} (h : ∀ a v, R a v → S a v) : ∀ {as : List α} {vs : List β}, All2 R as vs → All2 S as vs
  | [], _, e => e
  | _ :: _, _, ⟨v, r, e, g, hr⟩ => ⟨v, r, e, h _ _ g, All2.imp h hr⟩
theorem All2.impM {α β : Type} {R S : α → β → Prop} : ∀ {as : List α} {vs : List β}, (∀ a ∈ as, ∀ v, R a v → S a v) → All2 R as vs → All2 S as vs
  | [], _, _, e => e
  | a :: as, _, h, ⟨v, r, e, g, hr⟩ => ⟨v, r, e, h a (by simp) _ g, All2.impM (fun b hb => h b (by simp [hb])) hr⟩
theorem All2.map {α β : Type} {R S : α → β → Prop} {f : α → α} (h : ∀ a v, R a v → S (f a) v) : ∀ {as : List α} {vs : List β}, All2 R as vs → All2 S (as.map f) vs
  | [], _, e => e
  | _ :: _, _, ⟨v, r, e, g, hr⟩ => ⟨v, r, e, h _ _ g, All2.map h hr⟩
theorem All2.length {α β : Type} {R : α → β → Prop} : ∀ {as : List α} {vs : List β}, All2 R as vs → vs.length = as.length
  | [], _, h => by cases h; rfl
  | _ :: _, _, ⟨v, r, e, _, hr⟩ => by subst e; simp [All2.length hr]
theorem All2.get {α β : Type} {R : α → β → Prop} : ∀ {as : List α} {vs : List β}, All2 R as vs → ∀ (j : Nat) (a : α), as[j]? = some a → ∃ v, vs[j]? = some v ∧ R a v
  | [], _, _, j, a, hj => by simp at hj
  | x :: as, _, ⟨v, r, e, h, hr⟩, 0, a, hj => by subst e; simp at hj; subst hj; exact ⟨v, rfl, h⟩
  | x :: as, _, ⟨v, r, e, h, hr⟩, j + 1, a, hj => by subst e; simp at hj; simpa using All2.get hr j a hj
theorem all2_of {α β : Type} {R : α → β → Prop} : ∀ {as : List α} {vs : List β}, vs.length = as.length → (∀ (j : Nat) (a : α) (v : β), as[j]? = some a → vs[j]? = some v → R a v) → All2 R as vs
  | [], [], _, _ => rfl
  | [], _ :: _, h, _ => by simp at h
  | _ :: _, [], h, _ => by simp at h
  | a :: as, v :: vs, h, g => ⟨v, vs, rfl, g 0 a v rfl rfl, all2_of (by simpa using h) fun j a v h1 h2 => g (j + 1) a v (by simpa using h1) (by simpa using h2)⟩
theorem All2.mem {α β : Type} {R : α → β → Prop} : ∀ {as : List α} {vs : List β}, All2 R as vs → ∀ (j : Nat) (v : β), vs[j]? = some v → ∃ a, as[j]? = some a ∧ R a v
  | [], _, h, j, v, hj => by cases h; simp at hj
  | x :: as, _, ⟨v', r, e, h, hr⟩, 0, v, hj => by subst e; simp at hj; subst hj; exact ⟨x, rfl, h⟩
  | x :: as, _, ⟨v', r, e, h, hr⟩, j + 1, v, hj => by subst e; simp at hj; simpa using All2.mem hr j v hj
theorem All2.at {α β : Type} {R : α → β → Prop} {as : List α} {vs : List β} (h : All2 R as vs) {j : Nat} {a : α} {v : β} (ha : as[j]? = some a) (hv : vs[j]? = some v) : R a v := by
  obtain ⟨v', h1, h2⟩ := h.get j a ha
  rw [hv] at h1
  cases h1
  exact h2
theorem All2.drop {α β : Type} {R : α → β → Prop} : ∀ {as : List α} {vs : List β} (n : Nat), All2 R as vs → All2 R (as.drop n) (vs.drop n)
  | as, vs, 0, h => by simpa using h
  | [], vs, n + 1, h => by cases h; simp [All2]
  | _ :: _, _, n + 1, ⟨v, r, e, h, hr⟩ => by subst e; simpa using All2.drop n hr
theorem All2.take {α β : Type} {R : α → β → Prop} : ∀ {as : List α} {vs : List β} (n : Nat), All2 R as vs → All2 R (as.take n) (vs.take n)
  | as, vs, 0, h => by simp [All2]
  | [], vs, n + 1, h => by cases h; simp [All2]
  | _ :: _, _, n + 1, ⟨v, r, e, h, hr⟩ => by subst e; exact ⟨v, _, by simp, h, All2.take n hr⟩
theorem All2.append {α β : Type} {R : α → β → Prop} : ∀ {as bs : List α} {vs ws : List β}, All2 R as vs → All2 R bs ws → All2 R (as ++ bs) (vs ++ ws)
  | [], _, _, _, h, g => by cases h; exact g
  | _ :: _, _, _, _, ⟨v, r, e, h, hr⟩, g => by subst e; exact ⟨v, _, rfl, h, All2.append hr g⟩
theorem VFs_iff {H : HP} : ∀ {as : List AV} {vs : List Value}, VFs H as vs ↔ All2 (VF H) as vs
  | [], _ => Iff.rfl
  | _ :: _, _ => ⟨fun ⟨v, r, e, h, hr⟩ => ⟨v, r, e, h, VFs_iff.1 hr⟩, fun ⟨v, r, e, h, hr⟩ => ⟨v, r, e, h, VFs_iff.2 hr⟩⟩

/-- A cell's value, references among them. -/
def VC (H : HP) (φ : Phi) (st : List Box) : AV → Value → Prop
  | .undef, _ => True
  | .void, v => v = Go.undef
  | .was _, _ => True
  | .row id, v => v = φ id ∧ (kindAt st id).isSome = true
  | .ptr id off, v => varAt st id = true ∧ ∃ b, φ id = .pointer (some ⟨b, 0, none⟩) ∧ v = .pointer (some ⟨b, off, none⟩)
  | .eptr id i off, v => ∃ b n cap K, kindAt st id = some (K, n) ∧ i < n ∧ φ id = .slice (some ⟨b, 0, none⟩) n cap ∧ v = .pointer (some ⟨b, i * K.sz + off, none⟩)
  | .fptr cs off, v => ∃ b o c el fz, v = .pointer (some ⟨b, o + off, none⟩) ∧ H b = some (.cells c el fz) ∧ ∃ vs, VFs H cs vs ∧ ∀ j u, vs[j]? = some u → c[o + j]? = some u
  | a, v => VF H a v

/-- A value that is kept for good, or a struct of such. -/
def VE (H : HP) : AV → Value → Prop
  | .agg cs, v => ∃ arr, v = .agg arr ∧ VFs H cs arr.toList
  | a, v => VF H a v

/-- A value, or a struct of values. -/
def VB (H : HP) (φ : Phi) (st : List Box) : AV → Value → Prop
  | .agg cs, v => ∃ arr, v = .agg arr ∧ All2 (VC H φ st) cs arr.toList
  | a, v => VC H φ st a v

/-- A temporary's value. -/
def VA (H : HP) (φ : Phi) (st : List Box) : AV → Value → Prop
  | .tup vs, v => ∃ arr, v = .tuple arr ∧ All2 (VB H φ st) vs arr.toList
  | a, v => VB H φ st a v

/-- What a variable's cell is known to hold: its rows' values stand with the rows. -/
def VW (H : HP) : AV → Value → Prop
  | .row _, _ => True
  | .was _, _ => True
  | .undef, _ => True
  | a, v => VF H a v

def FrR (H : HP) (φ : Phi) (st : List Box) (fr : List (Nat × AV)) (tmps : Array Value) : Prop :=
  ∀ t, VA H φ st (getT fr t) (tmps.getD t undef)

def blk : Value → Option Nat
  | .pointer (some a) => some a.block
  | .slice (some a) _ _ => some a.block
  | _ => none

def Box.live : Box → Bool
  | .var _ => true
  | .rows _ _ _ => true
  | .mrow _ _ _ => true
  | _ => false

def rowRep (H : HP) (K : Kd) (xs : List K.T) (flat : List Value) : Prop :=
  ∀ j x, xs[j]? = some x → Rep H K x ((flat.drop (j * K.sz)).take K.sz)

def BoxR (H : HP) (w : World) (v : Value) : Box → Prop
  | .var cs => ∃ b c el, v = .pointer (some ⟨b, 0, none⟩) ∧ w.heap[b]? = some (.cells c el (0, 0)) ∧ All2 (VW H) cs c.toList
  | .rows t K xs => ∃ flat, w.ownsRow 0 t K.sz v xs.length flat ∧ rowRep H K xs flat
  | .mrow t K xs => ∃ flat, w.ownsRow 0 t K.sz v xs.length flat ∧ rowRep H K xs flat
  | .frz K xs => reps (Rep H K) K.sz H xs v ∧ ∀ a n cap, v = .slice (some a) n cap → a.off = 0 ∧ a.spot = none
  | .dead => True

structure SR (H : HP) (φ : Phi) (st : List Box) (w : World) : Prop where
  hp : ∀ b o, H b = some o → w.heap[b]? = some o
  box : ∀ id bx, st[id]? = some bx → BoxR H w (φ id) bx
  sep : ∀ i j bi bj, st[i]? = some bi → st[j]? = some bj → bi.live = true → bj.live = true → i ≠ j → ∀ b, blk (φ i) = some b → blk (φ j) ≠ some b
  out : ∀ i bi, st[i]? = some bi → bi.live = true → ∀ b, blk (φ i) = some b → H b = none
  cell : ∀ id cs, st[id]? = some (.var cs) → ∀ (o i : Nat), cs[o]? = some (AV.row i) → (kindAt st i).isSome = true ∧ ∃ b, φ id = .pointer (some ⟨b, 0, none⟩) ∧ w.cell? ⟨b, o, none⟩ = some (φ i)

/-- References keep their meaning: all of them, but those to box 'x'. -/
def Keeps (φ : Phi) (st : List Box) (φ' : Phi) (st' : List Box) (x : Option Nat) : Prop :=
  ∀ id, some id ≠ x → ((kindAt st id).isSome = true ∨ varAt st id = true) → φ' id = φ id ∧ kindAt st' id = kindAt st id ∧ varAt st' id = varAt st id ∧ holdAt st' id = holdAt st id

theorem Keeps.refl (φ : Phi) (st : List Box) (x : Option Nat) : Keeps φ st φ st x := fun _ _ _ => ⟨rfl, rfl, rfl, rfl⟩
theorem hold_dom {st : List Box} {id : Nat} (h : holdAt st id = true) : (kindAt st id).isSome = true ∨ varAt st id = true := by
  unfold holdAt at h
  unfold kindAt varAt
  split at h
  · rename_i b e
    rw [e]
    cases b <;> first | exact .inl rfl | exact .inr rfl | cases h
  · cases h
theorem Keeps.hold {φ φ' : Phi} {st st' : List Box} (h : Keeps φ st φ' st' none) (id : Nat) (hv : holdAt st id = true) : φ' id = φ id ∧ holdAt st' id = true ∧ varAt st' id = varAt st id := by
  obtain ⟨k1, _, k3, k4⟩ := h id (by simp) (hold_dom hv)
  exact ⟨k1, k4.trans hv, k3⟩
theorem Keeps.trans {φ φ' φ'' : Phi} {st st' st'' : List Box} (h : Keeps φ st φ' st' none) (g : Keeps φ' st' φ'' st'' none) : Keeps φ st φ'' st'' none := by
  intro id hx hd
  obtain ⟨h1, h2, h3, h4⟩ := h id hx hd
  obtain ⟨g1, g2, g3, g4⟩ := g id hx (by rw [h2, h3]; exact hd)
  exact ⟨g1.trans h1, g2.trans h2, g3.trans h3, g4.trans h4⟩

theorem VC.mono {H H' : HP} {φ φ' : Phi} {st st' : List Box} (hH : H.le H') (hk : Keeps φ st φ' st' none) {a : AV} {v : Value} (h : VC H φ st a v) : VC H' φ' st' a v := by
  cases a with
  | undef => trivial
  | void => exact h
  | was id => trivial
  | row id =>
    obtain ⟨e, hs⟩ := h
    obtain ⟨k1, k2, _⟩ := hk id (by simp) (.inl hs)
    exact ⟨by rw [k1]; exact e, by rw [k2]; exact hs⟩
  | ptr id off =>
    obtain ⟨hs, b, e1, e2⟩ := h
    obtain ⟨k1, _, k3, _⟩ := hk id (by simp) (.inr hs)
    exact ⟨by rw [k3]; exact hs, b, by rw [k1]; exact e1, e2⟩
  | eptr id i off =>
    obtain ⟨b, n, cap, K, hs, hi, e1, e2⟩ := h
    obtain ⟨k1, k2, _⟩ := hk id (by simp) (.inl (by simp [hs]))
    exact ⟨b, n, cap, K, by rw [k2]; exact hs, hi, by rw [k1]; exact e1, e2⟩
  | fptr cs off =>
    obtain ⟨b, o, c, el, fz, e, hb, vs, h1, h2⟩ := h
    exact ⟨b, o, c, el, fz, e, hH _ _ hb, vs, h1.mono hH, h2⟩
  | fn f caps => exact VF.mono hH (a := .fn f caps) h
  | clo f K x => exact VF.mono hH (a := .clo f K x) h
  | agg cs => exact h.elim
  | tup vs => exact h.elim
  | new t K xs => exact h.elim
  | ref cs => exact h.elim
  | int k n => exact VF.mono hH (a := .int k n) h
  | bool b => exact VF.mono hH (a := .bool b) h
  | str s => exact VF.mono hH (a := .str s) h
  | nil => exact VF.mono hH (a := .nil) h
  | lst K xs => exact VF.mono hH (a := .lst K xs) h

theorem VE.cases {H : HP} {a : AV} {v : Value} (h : VE H a v) : (∃ cs arr, a = .agg cs ∧ v = .agg arr ∧ VFs H cs arr.toList) ∨ VF H a v := by
  cases a <;> first | exact .inr h | (obtain ⟨arr, e, h⟩ := h; exact .inl ⟨_, arr, rfl, e, h⟩)
theorem VE.of_VF {H : HP} {a : AV} {v : Value} (h : VF H a v) : VE H a v := by
  cases a <;> first | exact h | exact (h : False).elim
theorem VE.mono {H H' : HP} (hH : H.le H') {a : AV} {v : Value} (h : VE H a v) : VE H' a v := by
  rcases h.cases with ⟨cs, arr, rfl, e, h⟩ | h
  · exact ⟨arr, e, h.mono hH⟩
  · exact .of_VF (h.mono hH)

theorem VA.cases {H : HP} {φ : Phi} {st : List Box} {a : AV} {v : Value} (h : VA H φ st a v) :
    (∃ cs arr, a = .agg cs ∧ v = .agg arr ∧ All2 (VC H φ st) cs arr.toList) ∨ (∃ vs arr, a = .tup vs ∧ v = .tuple arr ∧ All2 (VB H φ st) vs arr.toList) ∨ VC H φ st a v := by
  cases a <;> first | exact .inr (.inr h) | (obtain ⟨arr, e, h⟩ := h; first | exact .inl ⟨_, arr, rfl, e, h⟩ | exact .inr (.inl ⟨_, arr, rfl, e, h⟩))
theorem VB.cases {H : HP} {φ : Phi} {st : List Box} {a : AV} {v : Value} (h : VB H φ st a v) :
    (∃ cs arr, a = .agg cs ∧ v = .agg arr ∧ All2 (VC H φ st) cs arr.toList) ∨ VC H φ st a v := by
  cases a <;> first | exact .inr h | (obtain ⟨arr, e, h⟩ := h; exact .inl ⟨_, arr, rfl, e, h⟩)
theorem VB.of_VC {H : HP} {φ : Phi} {st : List Box} {a : AV} {v : Value} (h : VC H φ st a v) : VB H φ st a v := by
  cases a <;> first | exact h | exact (h : False).elim
theorem VB.mono {H H' : HP} {φ φ' : Phi} {st st' : List Box} (hH : H.le H') (hk : Keeps φ st φ' st' none) {a : AV} {v : Value} (h : VB H φ st a v) : VB H' φ' st' a v := by
  rcases h.cases with ⟨cs, arr, rfl, e, h⟩ | h
  · exact ⟨arr, e, h.imp fun _ _ h => h.mono hH hk⟩
  · exact .of_VC (h.mono hH hk)
theorem VA.of_VB {H : HP} {φ : Phi} {st : List Box} {a : AV} {v : Value} (h : VB H φ st a v) : VA H φ st a v := by
  cases a <;> first | exact h | exact (h : False).elim
theorem VA.of_VC {H : HP} {φ : Phi} {st : List Box} {a : AV} {v : Value} (h : VC H φ st a v) : VA H φ st a v := by
  cases a <;> first | exact h | exact (h : False).elim
theorem VA.mono {H H' : HP} {φ φ' : Phi} {st st' : List Box} (hH : H.le H') (hk : Keeps φ st φ' st' none) {a : AV} {v : Value} (h : VA H φ st a v) : VA H' φ' st' a v := by
  rcases h.cases with ⟨cs, arr, rfl, e, h⟩ | ⟨vs, arr, rfl, e, h⟩ | h
  · exact ⟨arr, e, h.imp fun _ _ h => h.mono hH hk⟩
  · exact ⟨arr, e, h.imp fun _ _ h => h.mono hH hk⟩
  · exact .of_VC (h.mono hH hk)

theorem FrR.mono {H H' : HP} {φ φ' : Phi} {st st' : List Box} (hH : H.le H') (hk : Keeps φ st φ' st' none) {fr : List (Nat × AV)} {tmps : Array Value}
    (h : FrR H φ st fr tmps) : FrR H' φ' st' fr tmps := fun t => (h t).mono hH hk

theorem VC.of_VF {H : HP} {φ : Phi} {st : List Box} {a : AV} {v : Value} (h : VF H a v) : VC H φ st a v := by
  cases a <;> first | exact h | exact (h : False).elim
theorem VA.of_VF {H : HP} {φ : Phi} {st : List Box} {a : AV} {v : Value} (h : VF H a v) : VA H φ st a v := by
  cases a <;> first | exact h | exact (h : False).elim
theorem VA.of_VE {H : HP} {φ : Phi} {st : List Box} {a : AV} {v : Value} (h : VE H a v) : VA H φ st a v := by
  rcases h.cases with ⟨cs, arr, rfl, e, h⟩ | h
  · exact ⟨arr, e, (VFs_iff.1 h).imp fun _ _ h => VC.of_VF h⟩
  · exact VA.of_VF h
theorem VC.solid {H : HP} {φ : Phi} {st : List Box} {a : AV} {v : Value} (hs : a.solid = true) (h : VC H φ st a v) : VF H a v := by
  cases a <;> first | exact h | cases hs
theorem VCs.solid {H : HP} {φ : Phi} {st : List Box} {as : List AV} {vs : List Value} (hs : as.all AV.solid = true) (h : All2 (VC H φ st) as vs) : VFs H as vs :=
  VFs_iff.2 (h.impM fun a ha _ g => VC.solid (List.all_eq_true.1 hs a ha) g)

/-- A temporary is written. -/
theorem FrR.put {H : HP} {φ : Phi} {st : List Box} {fr : List (Nat × AV)} {tmps : Array Value} (h : FrR H φ st fr tmps) {d : Nat} (hd : d < tmps.size)
    {a : AV} {v : Value} (hv : VA H φ st a v) : FrR H φ st ((d, a) :: fr) (tmps.setIfInBounds d v) := by
  intro t
  simp only [getT]
  by_cases e : d = t
  · subst e
    rw [if_pos rfl]
    simpa [Array.getD, hd] using hv
  · rw [if_neg e]
    have := h t
    simpa [Array.getD_eq_getD_getElem?, Array.getElem?_setIfInBounds, e] using this

theorem getT_live (fr : List (Nat × AV)) (f : AV → AV) (live : List Nat) (t : Nat) :
    getT (live.map fun t => (t, f (getT fr t))) t = .undef ∨ getT (live.map fun t => (t, f (getT fr t))) t = f (getT fr t) := by
  induction live with
  | nil => exact .inl rfl
  | cons s r ih =>
    simp only [List.map_cons, getT]
    by_cases e : s = t
    · subst e; rw [if_pos rfl]; exact .inr rfl
    · rw [if_neg e]; exact ih

theorem FrR.live {H : HP} {φ : Phi} {st : List Box} {fr : List (Nat × AV)} {tmps : Array Value} (h : FrR H φ st fr tmps) (live : List Nat) :
    FrR H φ st (live.map fun t => (t, getT fr t)) tmps := by
  intro t
  rcases getT_live fr id live t with e | e
  · simp only [id] at e; rw [e]; trivial
  · simp only [id] at e; rw [e]; exact h t

theorem kindAt_lt {st : List Box} {id : Nat} (h : (kindAt st id).isSome = true) : id < st.length := by
  unfold kindAt at h
  rcases Nat.lt_or_ge id st.length with g | g
  · exact g
  · rw [List.getElem?_eq_none g] at h; simp at h
theorem varAt_lt {st : List Box} {id : Nat} (h : varAt st id = true) : id < st.length := by
  unfold varAt at h
  rcases Nat.lt_or_ge id st.length with g | g
  · exact g
  · rw [List.getElem?_eq_none g] at h; simp at h

/-- A new box behind the others. -/
theorem keeps_append (φ : Phi) (st : List Box) (v : Value) (b : Box) : Keeps φ st (fun i => if i = st.length then v else φ i) (st ++ [b]) none := by
  intro id _ hd
  have hl : id < st.length := by rcases hd with h | h; exact kindAt_lt h; exact varAt_lt h
  refine ⟨by simp [Nat.ne_of_lt hl], ?_, ?_, ?_⟩
  · simp [kindAt, List.getElem?_append_left hl]
  · simp [varAt, List.getElem?_append_left hl]
  · simp [holdAt, List.getElem?_append_left hl]

/-- Boxes changed in their cells alone. -/
def CellsOnly (f : Box → Box) : Prop := ∀ b, (∃ cs cs', b = .var cs ∧ f b = .var cs') ∨ (f b = b ∧ ∀ cs, b ≠ .var cs)
theorem cellsOnly_kill (ids : List Nat) : CellsOnly (Box.kill ids) := fun b => by
  cases b <;> first | exact .inl ⟨_, _, rfl, rfl⟩ | exact .inr ⟨rfl, by simp⟩
theorem cellsOnly_older (n : Nat) : CellsOnly (Box.older n) := fun b => by
  cases b <;> first | exact .inl ⟨_, _, rfl, rfl⟩ | exact .inr ⟨rfl, by simp⟩
theorem kindAt_map {f : Box → Box} (hf : CellsOnly f) (st : List Box) (id : Nat) : kindAt (st.map f) id = kindAt st id := by
  unfold kindAt
  rw [List.getElem?_map]
  cases st[id]? with
  | none => rfl
  | some b =>
    simp only [Option.map_some]
    rcases hf b with ⟨cs, cs', rfl, e⟩ | ⟨e, _⟩
    · rw [e]
    · rw [e]
theorem varAt_map {f : Box → Box} (hf : CellsOnly f) (st : List Box) (id : Nat) : varAt (st.map f) id = varAt st id := by
  unfold varAt
  rw [List.getElem?_map]
  cases st[id]? with
  | none => rfl
  | some b =>
    simp only [Option.map_some]
    rcases hf b with ⟨cs, cs', rfl, e⟩ | ⟨e, _⟩
    · rw [e]
    · rw [e]
theorem holdAt_lt {st : List Box} {id : Nat} (h : holdAt st id = true) : id < st.length := by
  unfold holdAt at h
  rcases Nat.lt_or_ge id st.length with g | g
  · exact g
  · rw [List.getElem?_eq_none g] at h; simp at h
theorem holdAt_map {f : Box → Box} (hf : CellsOnly f) (st : List Box) (id : Nat) : holdAt (st.map f) id = holdAt st id := by
  unfold holdAt
  rw [List.getElem?_map]
  cases st[id]? with
  | none => rfl
  | some b =>
    simp only [Option.map_some]
    rcases hf b with ⟨cs, cs', rfl, e⟩ | ⟨e, _⟩
    · rw [e]; rfl
    · rw [e]
theorem keeps_map {f : Box → Box} (hf : CellsOnly f) (φ : Phi) (st : List Box) : Keeps φ st φ (st.map f) none :=
  fun id _ _ => ⟨rfl, kindAt_map hf st id, varAt_map hf st id, holdAt_map hf st id⟩

theorem AV.firm_VB {H : HP} {φ : Phi} {st : List Box} {a : AV} {v : Value} (hs : a.firm = true) (h : VB H φ st a v) : VE H a v := by
  rcases h.cases with ⟨cs, arr, rfl, e, h⟩ | h
  · exact ⟨arr, e, VCs.solid hs h⟩
  · cases a <;> first | exact VE.of_VF h | cases hs | exact h.elim
theorem VB.of_VE {H : HP} {φ : Phi} {st : List Box} {a : AV} {v : Value} (h : VE H a v) : VB H φ st a v := by
  rcases h.cases with ⟨cs, arr, rfl, e, h⟩ | h
  · exact ⟨arr, e, (VFs_iff.1 h).imp fun _ _ h => VC.of_VF h⟩
  · exact VB.of_VC (VC.of_VF h)

theorem VC.older {H : HP} {φ : Phi} {st : List Box} {a : AV} {v : Value} (h : VC H φ st a v) (n : Nat) : VC H φ ((st.take n).map (Box.older n)) (a.older1 n) v := by
  have hk : ∀ id, id < n → kindAt ((st.take n).map (Box.older n)) id = kindAt st id ∧ varAt ((st.take n).map (Box.older n)) id = varAt st id := by
    intro id hid
    rw [kindAt_map (cellsOnly_older n), varAt_map (cellsOnly_older n)]
    simp [kindAt, varAt, List.getElem?_take, hid]
  cases a with
  | row id =>
    simp only [AV.older1]; split
    · rename_i hid; obtain ⟨e, g⟩ := h; exact ⟨e, by rw [(hk id hid).1]; exact g⟩
    · trivial
  | ptr id o =>
    simp only [AV.older1]; split
    · rename_i hid; obtain ⟨g, r⟩ := h; exact ⟨by rw [(hk id hid).2]; exact g, r⟩
    · trivial
  | eptr id i o =>
    simp only [AV.older1]; split
    · rename_i hid; obtain ⟨b, m, cap, K, g, r⟩ := h; exact ⟨b, m, cap, K, by rw [(hk id hid).1]; exact g, r⟩
    · trivial
  | agg cs => trivial
  | tup vs => trivial
  | _ => exact h

/-- Boxes from n on are let go of. -/
theorem VA.older {H : HP} {φ : Phi} {st : List Box} {a : AV} {v : Value} (h : VA H φ st a v) (n : Nat) : VA H φ ((st.take n).map (Box.older n)) (a.older n) v := by
  rcases h.cases with ⟨cs, arr, rfl, e, h⟩ | ⟨vs, arr, rfl, e, h⟩ | h
  · exact ⟨arr, e, h.map fun _ _ h => h.older n⟩
  · trivial
  · have : a.older n = a.older1 n := by cases a <;> first | rfl | exact h.elim
    rw [this]
    exact VA.of_VC (h.older n)

/-- What some rows' change leaves of all others. -/
def KeepsBut (φ : Phi) (st : List Box) (φ' : Phi) (st' : List Box) (ids : List Nat) : Prop :=
  (∀ id, hasN ids id = false → ((kindAt st id).isSome = true ∨ varAt st id = true) → φ' id = φ id ∧ kindAt st' id = kindAt st id ∧ varAt st' id = varAt st id) ∧
  (∀ id, holdAt st id = true → φ' id = φ id ∧ holdAt st' id = true ∧ varAt st' id = varAt st id)

theorem varAt_hold {st : List Box} {id : Nat} (h : varAt st id = true) : holdAt st id = true := by
  unfold varAt at h
  unfold holdAt
  split at h
  · rename_i e; rw [e]; rfl
  · cases h

theorem VC.kill {H : HP} {φ φ' : Phi} {st st' : List Box} {ids : List Nat} (hk : KeepsBut φ st φ' st' ids) {a : AV} {v : Value} (h : VC H φ st a v) : VC H φ' st' (a.kill1 ids) v := by
  cases a with
  | row id =>
    simp only [AV.kill1]; split
    · trivial
    · rename_i hid
      obtain ⟨e, g⟩ := h
      obtain ⟨k1, k2, _⟩ := hk.1 id (by simpa using hid) (.inl g)
      exact ⟨by rw [k1]; exact e, by rw [k2]; exact g⟩
  | ptr id o =>
    obtain ⟨g, b, e1, e2⟩ := h
    obtain ⟨k1, _, k3⟩ := hk.2 id (varAt_hold g)
    exact ⟨k3.trans g, b, by rw [k1]; exact e1, e2⟩
  | eptr id i o =>
    simp only [AV.kill1]; split
    · trivial
    · rename_i hid
      obtain ⟨b, m, cap, K, g, hi, e1, e2⟩ := h
      obtain ⟨k1, k2, _⟩ := hk.1 id (by simpa using hid) (.inl (by simp [g]))
      exact ⟨b, m, cap, K, by rw [k2]; exact g, hi, by rw [k1]; exact e1, e2⟩
  | agg cs => trivial
  | tup vs => trivial
  | _ => exact h

/-- Some rows are not what they were. -/
theorem VA.kill {H : HP} {φ φ' : Phi} {st st' : List Box} {ids : List Nat} (hk : KeepsBut φ st φ' st' ids) {a : AV} {v : Value} (h : VA H φ st a v) : VA H φ' st' (a.kill ids) v := by
  rcases h.cases with ⟨cs, arr, rfl, e, h⟩ | ⟨vs, arr, rfl, e, h⟩ | h
  · exact ⟨arr, e, h.map fun _ _ h => h.kill hk⟩
  · simp only [AV.kill]
    split
    · rename_i hf
      exact ⟨arr, e, h.impM fun a ha _ g => VB.of_VE (AV.firm_VB (List.all_eq_true.1 hf a ha) g)⟩
    · trivial
  · have : a.kill ids = a.kill1 ids := by cases a <;> first | rfl | exact h.elim
    rw [this]
    exact VA.of_VC (h.kill hk)

theorem getT_map (f : AV → AV) : ∀ (fr : List (Nat × AV)) (t : Nat), getT (fr.map fun p => (p.1, f p.2)) t = f (getT fr t) ∨ getT (fr.map fun p => (p.1, f p.2)) t = .undef
  | [], _ => .inr rfl
  | (s, v) :: r, t => by
    simp only [List.map_cons, getT]
    by_cases e : s = t
    · rw [if_pos e, if_pos e]; exact .inl rfl
    · rw [if_neg e, if_neg e]; exact getT_map f r t

theorem FrR.kill {H : HP} {φ φ' : Phi} {st st' : List Box} {ids : List Nat} (hk : KeepsBut φ st φ' st' ids) {fr : List (Nat × AV)} {tmps : Array Value} (h : FrR H φ st fr tmps) : FrR H φ' st' (fr.map (killT ids)) tmps := by
  intro t
  rcases getT_map (AV.kill ids) fr t with e | e
  · have : fr.map (killT ids) = fr.map fun p => (p.1, p.2.kill ids) := rfl
    rw [this, e]; exact (h t).kill hk
  · have : fr.map (killT ids) = fr.map fun p => (p.1, p.2.kill ids) := rfl
    rw [this, e]; trivial

end Go.Proofs.Ytnbfkndicldppaa.Core
