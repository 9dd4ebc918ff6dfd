/- Calls: what is asked of a callee, and what it gives its caller. -/
import Derived.Test.YtnbfkndicldppaaGraft
namespace Go.Proofs.Ytnbfkndicldppaa.Core
open Go

variable {P : Program}

/-- Results, one value or a tuple of them. -/
def ResR (H : HP) (φ : Phi) (st : List Box) : List AV → Value → Prop
  | [a], v => VB H φ st a v
  | rs, v => ∃ arr, v = .tuple arr ∧ All2 (VB H φ st) rs arr.toList

def Enters (P : Program) (f : Nat) : Prop := ∃ fn c, P.funcs[f]? = some fn ∧ (fn.name == "runtime.NumGoroutine") = false ∧ fn.body = some c

/-- What a call comes to. -/
def CallEnd (H : HP) (φ : Phi) (w : World) (args bs outs rs : List AV) (v : Value) (w' : World) : Prop :=
  ∃ H' φ', H.le H' ∧ SR H' φ' (exitSt outs rs) w' ∧ Fr bs.length (exitSt bs args).length H φ w H' φ' (exitSt outs rs) w' ∧ ResR H' φ' (exitSt outs rs) (openVs (handed outs) rs) v

/-- What an answer of 'cal' stands for. -/
def CallOk (P : Program) (cal : Cal) : Prop :=
  ∀ f args bs rs, cal f args bs = some rs → Enters P f ∧ (∀ r ∈ rs, r.cells.all AV.nilFree = true) ∧ ∃ n, n + bs.length = rs.length ∧
    ∀ (H : HP) (φ : Phi) (w : World) (cargs : List Value), SR H φ (exitSt bs args) w → All2 (VB H φ (exitSt bs args)) (openVs (handed bs) args) cargs →
      Calls P f cargs.toArray w fun out w' => match out with
        | .returned v => CallEnd H φ w args bs (rs.drop n) (rs.take n) v w'
        | _ => False

theorem ve_av {H : HP} {K : Kd} {x : K.T} {v : Value} (h : Rep H K x v.cells.toList) (f : fitsV K v) : VE H (K.av x) v := by
  cases K with
  | int k => simp only [fitsV] at f; simp only [f, Rep, List.cons.injEq, and_true] at h; subst h; rfl
  | bool => simp only [fitsV] at f; simp only [f, Rep, List.cons.injEq, and_true] at h; subst h; rfl
  | str => simp only [fitsV] at f; simp only [f, Rep, List.cons.injEq, and_true] at h; subst h; rfl
  | slice e =>
    simp only [fitsV] at f
    obtain ⟨u, e1, h⟩ := h
    simp only [f, List.cons.injEq, and_true] at e1
    subst e1
    exact h
  | pair a b =>
    obtain ⟨arr, e⟩ := f
    subst e
    exact ⟨arr, rfl, VFs.of_rep h⟩
  | own t e => exact h.elim
  | ref K => exact h.elim
  | «fun» g => simp only [fitsV] at f; simp only [f, Rep, List.cons.injEq, and_true] at h; subst h; exact ⟨rfl, rfl⟩
  | clo g K =>
    simp only [fitsV] at f
    obtain ⟨u, e1, h⟩ := h
    simp only [f, List.cons.injEq, and_true] at e1
    subst e1
    exact h

theorem ve_of {H : HP} {K : Kd} {a : AV} {x : K.T} {v : Value} (hv : VE H a v) (h : K.of a = some x) : VE H (K.av x) v := by
  obtain ⟨h1, h2⟩ := of_rep (φ := fun _ => .nilIface) (st := []) (VA.of_VE hv) h
  exact ve_av h1 h2

theorem decAll_ok : ∀ (Ks : List Kd) (rs : List AV) (y : RT Ks), decAll Ks rs = some y → rs.length = Ks.length ∧ (encAll Ks y).length = Ks.length ∧ All2 (fun a b => ∃ K x, Kd.of K a = some x ∧ b = K.av x) rs (encAll Ks y)
  | [], [], y, _ => ⟨rfl, rfl, rfl⟩
  | [], _ :: _, y, h => by simp [decAll] at h
  | [K], [], y, h => by simp [decAll] at h
  | [K], [v], y, h => ⟨rfl, rfl, ⟨_, _, rfl, ⟨K, y, h, rfl⟩, rfl⟩⟩
  | [K], _ :: _ :: _, y, h => by simp [decAll] at h
  | K :: L :: Ks, [], y, h => by simp [decAll] at h
  | K :: L :: Ks, v :: vs, y, h => by
    simp only [decAll] at h
    cases h1 : K.of v with
    | none => rw [h1] at h; cases h
    | some x =>
      cases h2 : decAll (L :: Ks) vs with
      | none => rw [h1, h2] at h; cases h
      | some r =>
        rw [h1, h2] at h
        cases h
        obtain ⟨l1, l2, l3⟩ := decAll_ok (L :: Ks) vs r h2
        exact ⟨by simp [l1], by simpa [encAll] using l2, ⟨_, _, rfl, ⟨K, x, h1, rfl⟩, l3⟩⟩

theorem of_av {K : Kd} {a : AV} {x : K.T} (h : K.of a = some x) (hn : a.cells.all AV.nilFree = true) : a = K.av x := by
  obtain ⟨hd, hf⟩ := of_dec h
  have e := dec_enc K a.cells [] x hn hd
  rw [List.append_nil] at e
  cases K with
  | pair k l =>
    cases a with
    | agg cs => simp only [AV.cells] at e; rw [e]; rfl
    | _ => cases hf
  | _ =>
    cases a <;> first | exact (List.cons.inj e).1 | cases hf

theorem encAll_of : ∀ (Ks : List Kd) (rs : List AV) (y : RT Ks), decAll Ks rs = some y → (∀ r ∈ rs, r.cells.all AV.nilFree = true) → encAll Ks y = rs := by
  intro Ks rs y h hn
  obtain ⟨_, _, h3⟩ := decAll_ok Ks rs y h
  have key : ∀ {as bs : List AV}, All2 (fun a b => ∃ K x, Kd.of K a = some x ∧ b = K.av x) as bs → (∀ r ∈ as, r.cells.all AV.nilFree = true) → bs = as := by
    intro as
    induction as with
    | nil => intro bs h _; exact h
    | cons a as ih =>
      intro bs h hn
      obtain ⟨b, r, rfl, ⟨K, x, h1, h2⟩, hr⟩ := h
      rw [ih hr fun r hr => hn r (by simp [hr]), h2, ← of_av h1 (hn a (by simp))]
  exact key h3 hn

theorem encAll_kd : ∀ (Ks : List Kd) (y : RT Ks) (j : Nat) (K : Kd), Ks[j]? = some K → ∃ x : K.T, (encAll Ks y)[j]? = some (K.av x)
  | [], y, j, K, h => by simp at h
  | [K0], y, j, K, h => by
    cases j with
    | zero => simp at h; subst h; exact ⟨y, rfl⟩
    | succ j => simp at h
  | K0 :: L :: Ks, y, j, K, h => by
    cases j with
    | zero => simp at h; subst h; exact ⟨y.1, rfl⟩
    | succ j =>
      obtain ⟨x, hx⟩ := encAll_kd (L :: Ks) y.2 j K (by simpa using h)
      exact ⟨x, by simpa [encAll] using hx⟩

/-- Boxes that hold what kinds say: how many rows they bring along. -/
theorem news_of {ids : List (Nat × Kd)} : ∀ {bx : List AV}, bx.length = ids.length → (∀ (j : Nat) (v : AV), bx[j]? = some v → ∃ p, ids[j]? = some p ∧ ∃ x : Kd.T p.2, v = Kd.av p.2 x) →
    newCount (cellsOO bx) = (ids.map fun p => if p.2.isOwn = true then 0 else p.2.news).sum := by
  induction ids with
  | nil => intro bx hl _; have : bx = [] := List.length_eq_zero_iff.1 hl; subst this; rfl
  | cons p ids ih =>
    intro bx hl hk
    cases bx with
    | nil => simp at hl
    | cons v bx =>
      obtain ⟨q, hq, x, hx⟩ := hk 0 v rfl
      simp at hq
      subst hq
      have := ih (bx := bx) (by simpa using hl) fun j v hj => by simpa using hk (j + 1) v (by simpa using hj)
      simp only [cellsOO, List.flatMap_cons, newCount_append, List.map_cons, List.sum_cons] at this ⊢
      rw [this, hx]
      by_cases ho : p.2.isOwn = true
      · obtain ⟨pi, pk⟩ := p
        obtain ⟨t, e, rfl⟩ := isOwn_ok ho
        rw [if_pos ho, (own_cellsO x).1]
        rfl
      · rw [if_neg ho, (av_cellsO x (by simpa using ho)).1, newCount_enc]

/-- Freezing goes one way. -/
theorem keep_rows {s s' : St} {a a' : AV} (h : s.keep a = some (a', s')) {i : Nat} {b : Box} (hi : s'.st[i]? = some b) (hl : b.live = true) : s.st[i]? = some b := by
  cases a with
  | row id =>
    simp only [St.keep] at h
    split at h
    · rename_i t' K' xs' hb
      cases h
      simp only [List.getElem?_set] at hi
      split at hi
      · split at hi
        · cases hi; cases hl
        · cases hi
      · exact hi
    · cases h; exact hi
    · cases h
  | fn f caps => cases caps <;> first | (cases h; exact hi) | cases h
  | _ => first | (cases h; exact hi) | cases h
theorem keep_fr {s s' : St} {a a' : AV} (h : s.keep a = some (a', s')) : s'.fr = s.fr := by
  cases a with
  | row id =>
    simp only [St.keep] at h
    split at h
    · cases h; rfl
    · cases h; rfl
    · cases h
  | fn f caps => cases caps <;> first | (cases h; rfl) | cases h
  | _ => first | (cases h; rfl) | cases h
theorem keepAll_fr : ∀ {as as' : List AV} {s s' : St}, s.keepAll as = some (as', s') → s'.fr = s.fr
  | [], as', s, s', h => by cases h; rfl
  | a :: as, as', s, s', h => by
    simp only [St.keepAll] at h
    cases hk : s.keep a with
    | none => rw [hk] at h; cases h
    | some x =>
      rw [hk] at h
      simp only [Option.bind_some] at h
      cases hq : x.2.keepAll as with
      | none => rw [hq] at h; cases h
      | some y =>
        rw [hq] at h
        cases h
        exact (keepAll_fr hq).trans (keep_fr (a' := x.1) hk)
theorem keepAll_rows : ∀ {as as' : List AV} {s s' : St}, s.keepAll as = some (as', s') → ∀ {i : Nat} {b : Box}, s'.st[i]? = some b → b.live = true → s.st[i]? = some b
  | [], as', s, s', h, i, b, hi, hl => by cases h; exact hi
  | a :: as, as', s, s', h, i, b, hi, hl => by
    simp only [St.keepAll] at h
    cases hk : s.keep a with
    | none => rw [hk] at h; cases h
    | some x =>
      rw [hk] at h
      simp only [Option.bind_some] at h
      cases hq : x.2.keepAll as with
      | none => rw [hq] at h; cases h
      | some y =>
        rw [hq] at h
        cases h
        exact keep_rows hk (keepAll_rows hq hi hl) hl

/-- What a function value that is called hands on of its own. -/
def capA : PK → Value → List Value
  | .cap _ _, .func _ _ caps => caps.toList
  | .cap _ _, _ => []
  | .cap0 _, _ => []
  | _, v => [v]
def capAll : List (Opd × PK) → List Value → List Value
  | x :: xs, c :: cs => capA x.2 c ++ capAll xs cs
  | _, _ => []
def PK.isCap : PK → Bool
  | .cap _ _ | .cap0 _ => true
  | _ => false
theorem capA_plain {p : PK} {c : Value} (h : p.isCap = false) : capA p c = [c] := by cases p <;> first | rfl | cases h
theorem capAll_plain : ∀ {xs : List (Opd × PK)} {cs : List Value}, xs.length = cs.length → (xs.all fun x => !x.2.isCap) = true → capAll xs cs = cs
  | [], [], _, _ => rfl
  | x :: xs, c :: cs, hl, h => by
    simp only [List.all_cons, Bool.and_eq_true, Bool.not_eq_true'] at h
    simp only [capAll, capA_plain h.1, capAll_plain (by simpa using hl) h.2]
    rfl
  | [], _ :: _, h, _ => by simp at h
  | _ :: _, [], h, _ => by simp at h
theorem capAll_append : ∀ {xs ys : List (Opd × PK)} {cs ds : List Value}, xs.length = cs.length → capAll (xs ++ ys) (cs ++ ds) = capAll xs cs ++ capAll ys ds
  | [], ys, [], ds, _ => by simp [capAll]
  | x :: xs, ys, c :: cs, ds, h => by
    simp only [List.cons_append, capAll, capAll_append (xs := xs) (cs := cs) (by simpa using h), List.append_assoc]
  | [], _, _ :: _, _, h => by simp at h
  | _ :: _, _, [], _, h => by simp at h

/-- A struct's cell that is lent for reading. -/
def BorC (H : HP) (φ : Phi) (st : List Box) (lent : Nat → Prop) (a : AV) (c : Value) : Prop :=
  VF H a c ∨ ∃ (i : Nat) (t : TypeId) (K : Kd), ∃ xs : List (Kd.T K), lent i ∧ st[i]? = some (Box.rows t K xs) ∧ a = .lst K xs ∧ c = φ i
/-- A cell that is lent for writing, and a struct of such. -/
def MutC (H : HP) (φ : Phi) (st : List Box) (pt : Nat → Option (Nat × Kd)) (a : AV) (c : Value) : Prop :=
  VF H a c ∨ ∃ (k : Nat) (p : Nat × Kd), a = .row k ∧ pt k = some p ∧ varAt st p.1 = false ∧ c = φ p.1
def MutR (H : HP) (φ : Phi) (st : List Box) (pt : Nat → Option (Nat × Kd)) (a : AV) (c : Value) : Prop :=
  (∃ (as : List AV) (arr : Array Value), a = .agg as ∧ c = .agg arr ∧ All2 (MutC H φ st pt) as arr.toList) ∨ MutC H φ st pt a c

theorem borC_ok {H : HP} {φ : Phi} {st : List Box} {w : World} : ∀ {vs : List AV} {y : List AV × List Nat} {us : List Value}, SR H φ st w → All2 (VC H φ st) vs us → borC st vs = some y →
    All2 (fun a u => VF H a u ∨ ∃ (i : Nat) (t : TypeId) (K : Kd), ∃ xs : List (Kd.T K), i ∈ y.2 ∧ st[i]? = some (Box.rows t K xs) ∧ a = .lst K xs ∧ u = φ i) y.1 us
  | [], y, us, hs, hv, h => by cases h; exact hv
  | v :: vs, y, us, hs, ⟨u, us', e, hu, hr⟩, h => by
    subst e
    have plain : (if v.solid = true then (borC st vs).bind fun r => some (v :: r.1, r.2) else none) = some y → All2 (fun a u => VF H a u ∨ ∃ (i : Nat) (t : TypeId) (K : Kd), ∃ xs : List (Kd.T K), i ∈ y.2 ∧ st[i]? = some (Box.rows t K xs) ∧ a = .lst K xs ∧ u = φ i) y.1 (u :: us') := by
      intro h
      split at h
      · rename_i hsol
        cases hq : borC st vs with
        | none => rw [hq] at h; cases h
        | some q =>
          rw [hq] at h
          cases h
          exact ⟨u, us', rfl, .inl (hu.solid hsol), borC_ok hs hr hq⟩
      · cases h
    cases v with
    | row id =>
      simp only [borC] at h
      split at h
      · rename_i t e xs hb
        cases hq : borC st vs with
        | none => rw [hq] at h; cases h
        | some q =>
          rw [hq] at h
          cases h
          refine ⟨u, us', rfl, .inr ⟨id, t, e, xs, by simp, hb, rfl, hu.1⟩, (borC_ok hs hr hq).imp fun a u h => ?_⟩
          rcases h with h | ⟨i, t, K, xs, h1, h2⟩
          · exact .inl h
          · exact .inr ⟨i, t, K, xs, by simp [h1], h2⟩
      · rename_i e xs hb
        cases hq : borC st vs with
        | none => rw [hq] at h; cases h
        | some q =>
          rw [hq] at h
          cases h
          refine ⟨u, us', rfl, .inl ?_, borC_ok hs hr hq⟩
          have := (hs.box id _ hb).1
          rw [← hu.1] at this
          exact this
      · cases h
    | _ => exact plain h

theorem mutC_ok {H : HP} {φ : Phi} {st : List Box} : ∀ {ks : List Kd} {vs : List AV} {j : Nat} {y : List AV × List (Nat × Kd)} {us : List Value}, All2 (VC H φ st) vs us → mutC st j ks vs = some y →
    All2 (fun a u => VF H a u ∨ ∃ (m : Nat) (p : Nat × Kd), a = .row (j + m) ∧ y.2[m]? = some p ∧ varAt st p.1 = false ∧ (kindAt st p.1).isSome = true ∧ u = φ p.1) y.1 us
  | [], [], j, y, us, hv, h => by cases h; exact hv
  | [], _ :: _, j, y, us, hv, h => by simp [mutC] at h
  | _ :: _, [], j, y, us, hv, h => by simp [mutC] at h
  | k :: ks, v :: vs, j, y, us, ⟨u, us', e, hu, hr⟩, h => by
    subst e
    have row : ∀ id, v = .row id → varAt st id = false → ((mutC st (j + 1) ks vs).bind fun r => some (AV.row j :: r.1, (id, k) :: r.2)) = some y →
        All2 (fun a u => VF H a u ∨ ∃ (m : Nat) (p : Nat × Kd), a = .row (j + m) ∧ y.2[m]? = some p ∧ varAt st p.1 = false ∧ (kindAt st p.1).isSome = true ∧ u = φ p.1) y.1 (u :: us') := by
      intro id ev hva h'
      subst ev
      cases hq : mutC st (j + 1) ks vs with
      | none => rw [hq] at h'; cases h'
      | some q =>
        rw [hq] at h'
        cases h'
        refine ⟨u, us', rfl, .inr ⟨0, (id, k), rfl, rfl, hva, hu.2, hu.1⟩, (mutC_ok hr hq).imp fun a u h => ?_⟩
        rcases h with h | ⟨m, p, h1, h2, h3⟩
        · exact .inl h
        · exact .inr ⟨m + 1, p, by rw [h1]; congr 1; omega, by simpa using h2, h3⟩
    have plain : ((v.norm k).bind fun a => (mutC st j ks vs).bind fun r => some (a :: r.1, r.2)) = some y →
        All2 (fun a u => VF H a u ∨ ∃ (m : Nat) (p : Nat × Kd), a = .row (j + m) ∧ y.2[m]? = some p ∧ varAt st p.1 = false ∧ (kindAt st p.1).isSome = true ∧ u = φ p.1) y.1 (u :: us') := by
      intro h
      cases hn : v.norm k with
      | none => rw [hn] at h; cases h
      | some a =>
        rw [hn] at h
        simp only [Option.bind_some] at h
        cases hq : mutC st j ks vs with
        | none => rw [hq] at h; cases h
        | some q =>
          rw [hq] at h
          cases h
          obtain ⟨n1, n2, n3, n4⟩ := norm_ok hn
          exact ⟨u, us', rfl, .inl (n4 H u (hu.solid n3)), mutC_ok hr hq⟩
    cases v with
    | row id =>
      simp only [mutC] at h
      split at h
      · rename_i t e xs hb
        split at h
        · exact row id rfl (by simp only [varAt, hb]) h
        · cases h
      · rename_i t e xs hb
        split at h
        · exact row id rfl (by simp only [varAt, hb]) h
        · cases h
      · cases h
    | _ => exact plain h

/-- A call's arguments, as the caller knows them. -/
inductive ArgsR (H : HP) (φ : Phi) (st : List Box) (pt : Nat → Option (Nat × Kd)) (lent : Nat → Prop) : List AV → List Value → List Nat → Prop
  | nil : ArgsR H φ st pt lent [] [] []
  | val {a : AV} {c : Value} {as cs ms} : VE H a c → ArgsR H φ st pt lent as cs ms → ArgsR H φ st pt lent (a :: as) (c :: cs) ms
  | bor {i : Nat} {t : TypeId} {K : Kd} {xs : List K.T} {as cs ms} : lent i → st[i]? = some (.rows t K xs) → ArgsR H φ st pt lent as cs ms → ArgsR H φ st pt lent (.lst K xs :: as) (φ i :: cs) ms
  | mov {i : Nat} {t : TypeId} {K : Kd} {xs : List K.T} {as cs ms} : st[i]? = some (.rows t K xs) → ArgsR H φ st pt lent as cs ms → ArgsR H φ st pt lent (.new t K xs :: as) (φ i :: cs) (i :: ms)
  | cap {f : Nat} {K : Kd} {z : K.T} {c : Value} {as cs ms} : cloR H f (Rep H K z) (.func (.func f) #[] #[c]) → ArgsR H φ st pt lent as cs ms → ArgsR H φ st pt lent (.fptr (K.enc z) 0 :: as) (c :: cs) ms
  | borS {K : Kd} {z : K.T} {y : List AV} {arr : Array Value} {as cs ms} : All2 (BorC H φ st lent) y arr.toList → K.ofCells y = some z → (K.av z = .agg (K.enc z)) → ArgsR H φ st pt lent as cs ms → ArgsR H φ st pt lent (K.av z :: as) (.agg arr :: cs) ms
  | lendw {a : AV} {c : Value} {as cs ms} : MutR H φ st pt a c → ArgsR H φ st pt lent as cs ms → ArgsR H φ st pt lent (a :: as) (c :: cs) ms
  | ptr {k : Nat} {p : Nat × Kd} {b : Nat} {as cs ms} : pt k = some p → φ p.1 = .pointer (some ⟨b, 0, none⟩) → ArgsR H φ st pt lent as cs ms → ArgsR H φ st pt lent (.ptr k 0 :: as) (φ p.1 :: cs) ms

theorem args_ok {φ : Phi} {w : World} {pt : Nat → Option (Nat × Kd)} {lent : Nat → Prop} : ∀ {args : List (Opd × PK)} {j : Nat} {q : Hand} {s s' : St} {H : HP} {cs : List Value}, SR H φ s.st w → All2 (fun (x : Opd × PK) c => VA H φ s.st (s.opd x.1) c) args cs →
    s.args args j = some (q, s') → (∀ k, q.ptrs[k]? = pt (j + k) ∨ q.ptrs[k]? = none) → (∀ i ∈ q.bors, lent i) → (∀ i ∈ q.movs ++ q.bors, ∃ (t : TypeId) (K : Kd), ∃ xs : List (Kd.T K), s'.st[i]? = some (Box.rows t K xs)) →
    ∃ H', Step H φ s.st w H' φ s'.st w ∧ Keeps φ s.st φ s'.st none ∧ s'.fr = s.fr ∧ s'.st.length = s.st.length ∧ ArgsR H' φ s'.st pt lent q.args (capAll args cs) q.movs ∧
      (∀ {i : Nat} {b : Box}, s'.st[i]? = some b → b.live = true → s.st[i]? = some b)
  | [], j, q, s, s', H, cs, hs, hc, h, _, _, _ => by
    cases h
    cases hc
    exact ⟨H, Step.refl hs, Keeps.refl _ _ _, rfl, rfl, .nil, fun h _ => h⟩
  | (x, .val K) :: r, j, q, s, s', H, cs, hs, hc, h, hp, hl, hv => by
    obtain ⟨c, cs, rfl, h1, h2⟩ := hc
    simp only [St.args] at h
    split at h
    · rename_i hfit
      cases hk : s.keepAll (s.opd x).cells with
      | none => rw [hk] at h; cases h
      | some y =>
        obtain ⟨a', s1⟩ := y
        rw [hk] at h
        simp only [Option.bind_some] at h
        obtain ⟨H1, g1, k1, f1, e1, n1⟩ := keepCells_step hs h1 hk
        cases hz : K.ofCells a' with
        | none => rw [hz] at h; cases h
        | some z =>
          rw [hz] at h
          simp only [Option.bind_some] at h
          cases hq : s1.args r j with
          | none => rw [hq] at h; cases h
          | some q' =>
            obtain ⟨q1, s2⟩ := q'
            rw [hq] at h
            cases h
            have ho : ∀ x, s1.opd x = s.opd x := fun x => by cases x <;> simp [St.opd, e1]
            obtain ⟨H2, g2, k2, e2, n2, h3, b2⟩ := args_ok (pt := pt) (lent := lent) g1.sr (h2.imp fun x c hx => by rw [ho]; exact hx.mono g1.le k1) hq hp hl hv
            refine ⟨H2, g1.trans g2, k1.trans k2, e2.trans e1, n2.trans n1, .val ?_ h3, fun h hl => keepAll_rows hk (b2 h hl) hl⟩
            obtain ⟨c1, c2, d1, d2, d3⟩ := rep_of_dec K f1 (ofCells_dec hz)
            cases d3
            rw [List.append_nil] at d1
            refine (ve_av (by rw [d1]; exact d2) ?_).mono g2.le
            rcases h1.cases with ⟨ds, arr, ea, ev, _⟩ | ⟨vs, arr, ea, _, _⟩ | hvc
            · rw [ea] at hfit
              cases K with
              | pair a b => exact ⟨arr, ev⟩
              | _ => cases hfit
            · rw [ea] at hk
              simp [AV.cells, St.keepAll, St.keep] at hk
            · rw [cells_one hvc] at hk
              simp only [St.keepAll] at hk
              cases hkk : s.keep (s.opd x) with
              | none => rw [hkk] at hk; cases hk
              | some y2 =>
                obtain ⟨H3, _, _, f3, _⟩ := keep_step hs hvc (show s.keep (s.opd x) = some (y2.1, y2.2) from hkk)
                have hcell := f3.cells
                cases K with
                | pair a b =>
                  have := d2.length
                  rw [← d1, hcell] at this
                  have p1 := Kd.sz_pos a
                  have p2 := Kd.sz_pos b
                  simp [Kd.sz] at this
                  omega
                | _ => exact hcell
    · cases h
  | (x, .bor K) :: r, j, q, s, s', H, cs, hs, hc, h, hp, hl, hv => by
    obtain ⟨c, cs, rfl, h1, h2⟩ := hc
    simp only at h1
    have plain : ∀ v, s.opd x = v → (if v.solid = true then (K.ofCells [v]).bind fun z => (s.args r j).bind fun q => some ((⟨K.av z :: q.1.args, q.1.ptrs, q.1.movs, q.1.bors⟩ : Hand), q.2) else none) = some (q, s') →
        ∃ H', Step H φ s.st w H' φ s'.st w ∧ Keeps φ s.st φ s'.st none ∧ s'.fr = s.fr ∧ s'.st.length = s.st.length ∧ ArgsR H' φ s'.st pt lent q.args (c :: capAll r cs) q.movs ∧
          (∀ {i : Nat} {b : Box}, s'.st[i]? = some b → b.live = true → s.st[i]? = some b) := by
      intro v ev h
      split at h
      · rename_i hsol
        cases hz : K.ofCells [v] with
        | none => rw [hz] at h; cases h
        | some z =>
          rw [hz] at h
          simp only [Option.bind_some] at h
          cases hq : s.args r j with
          | none => rw [hq] at h; cases h
          | some q' =>
            obtain ⟨q1, s2⟩ := q'
            rw [hq] at h
            cases h
            obtain ⟨H2, g2, k2, e2, n2, h3, b2⟩ := args_ok (pt := pt) (lent := lent) hs h2 hq hp hl hv
            rw [ev] at h1
            refine ⟨H2, g2, k2, e2, n2, .val ?_ h3, b2⟩
            have hf : VF H v c := by
              rcases h1.cases with ⟨ds, arr, ea, _, _⟩ | ⟨vs, arr, ea, _, _⟩ | hvc
              · rw [ea] at hsol; cases hsol
              · rw [ea] at hsol; cases hsol
              · exact hvc.solid hsol
            obtain ⟨c1, c2, d1, d2, d3⟩ := rep_of_dec K (as := [v]) (vs := [c]) ⟨c, [], rfl, hf, rfl⟩ (ofCells_dec hz)
            cases d3
            rw [List.append_nil] at d1
            subst d1
            have hc2 := d2.vcells
            refine (ve_av (by rw [hc2]; exact d2) ?_).mono g2.le
            cases K with
            | pair a b =>
              have := d2.length
              have p1 := Kd.sz_pos a
              have p2 := Kd.sz_pos b
              simp [Kd.sz] at this
              omega
            | _ => exact hc2
      · cases h
    simp only [St.args] at h
    cases hx : s.opd x with
    | row id =>
      rw [hx] at h h1
      obtain ⟨ec, _⟩ := h1
      subst ec
      simp only at h
      split at h
      · rename_i t e xs hb
        split at h
        · rename_i hK
          cases hq : s.args r j with
          | none => rw [hq] at h; cases h
          | some q' =>
            obtain ⟨q1, s2⟩ := q'
            rw [hq] at h
            cases h
            obtain ⟨H2, g2, k2, e2, n2, h3, b2⟩ := args_ok (pt := pt) (lent := lent) hs h2 hq hp (fun i hi => hl i (by simp [hi])) (fun i hi => hv i (by
              rcases List.mem_append.1 hi with h | h
              · exact List.mem_append_left _ h
              · exact List.mem_append_right _ (by simp [h])))
            obtain ⟨t', K', xs', hlive⟩ := hv id (by simp)
            have heq := b2 hlive rfl
            rw [hb] at heq
            cases heq
            exact ⟨H2, g2, k2, e2, n2, .bor (hl id (by simp)) hlive h3, b2⟩
        · cases h
      · rename_i e xs hb
        split at h
        · rename_i hK
          cases hq : s.args r j with
          | none => rw [hq] at h; cases h
          | some q' =>
            obtain ⟨q1, s2⟩ := q'
            rw [hq] at h
            cases h
            obtain ⟨H2, g2, k2, e2, n2, h3, b2⟩ := args_ok (pt := pt) (lent := lent) hs h2 hq hp hl hv
            exact ⟨H2, g2, k2, e2, n2, .val (VE.mono g2.le (a := .lst e xs) (hs.box id _ hb).1) h3, b2⟩
        · cases h
      · cases h
    | agg ds =>
      rw [hx] at h h1
      simp only at h
      split at h
      case isFalse => cases h
      rename_i hfit
      cases hy : borC s.st ds with
      | none => rw [hy] at h; cases h
      | some y =>
        rw [hy] at h
        simp only [Option.bind_some] at h
        cases hz : K.ofCells y.1 with
        | none => rw [hz] at h; cases h
        | some z =>
          rw [hz] at h
          simp only [Option.bind_some] at h
          cases hq : s.args r j with
          | none => rw [hq] at h; cases h
          | some q' =>
            obtain ⟨q1, s2⟩ := q'
            rw [hq] at h
            cases h
            obtain ⟨H2, g2, k2, e2, n2, h3, b2⟩ := args_ok (pt := pt) (lent := lent) hs h2 hq hp (fun i hi => hl i (by simp [hi])) (fun i hi => hv i (by
              rcases List.mem_append.1 hi with h | h
              · exact List.mem_append_left _ h
              · exact List.mem_append_right _ (by simp [h])))
            obtain ⟨arr, ec, hd⟩ := h1
            subst ec
            refine ⟨H2, g2, k2, e2, n2, .borS (y := y.1) ((borC_ok hs hd hy).imp fun a u h => ?_) hz ?_ h3, b2⟩
            · rcases h with h | ⟨i, t, e, xs, h1, h2, h4, h5⟩
              · exact .inl (h.mono g2.le)
              · obtain ⟨t', K', xs', hlive⟩ := hv i (by simp [h1])
                have heq := b2 hlive rfl
                rw [h2] at heq
                cases heq
                exact .inr ⟨i, t, e, xs, hl i (by simp [h1]), hlive, h4, h5⟩
            · cases K with
              | pair a b => rfl
              | _ => cases hfit
    | _ => exact plain _ hx (by rw [hx] at h; exact h)
  | (x, .mov K) :: r, j, q, s, s', H, cs, hs, hc, h, hp, hl, hv => by
    obtain ⟨c, cs, rfl, h1, h2⟩ := hc
    simp only [St.args] at h
    split at h
    · rename_i id hx
      split at h
      · rename_i t e xs hb
        split at h
        · cases hq : s.args r j with
          | none => rw [hq] at h; cases h
          | some q' =>
            obtain ⟨q1, s2⟩ := q'
            rw [hq] at h
            cases h
            simp only at h1
            rw [hx] at h1
            obtain ⟨ec, _⟩ := h1
            subst ec
            obtain ⟨H2, g2, k2, e2, n2, h3, b2⟩ := args_ok (pt := pt) (lent := lent) hs h2 hq hp hl (fun i hi => hv i (by
              rcases List.mem_append.1 hi with h | h
              · exact List.mem_append_left _ (by simp [h])
              · exact List.mem_append_right _ h))
            obtain ⟨t', K', xs', hlive⟩ := hv id (by simp)
            have heq := b2 hlive rfl
            rw [hb] at heq
            cases heq
            exact ⟨H2, g2, k2, e2, n2, .mov hlive h3, b2⟩
        · cases h
      · cases h
    · cases h
  | (x, .ptr K) :: r, j, q, s, s', H, cs, hs, hc, h, hp, hl, hv => by
    obtain ⟨c, cs, rfl, h1, h2⟩ := hc
    simp only [St.args] at h
    split at h
    · rename_i id hx
      cases hq : s.args r (j + 1) with
      | none => rw [hq] at h; cases h
      | some q' =>
        obtain ⟨q1, s2⟩ := q'
        rw [hq] at h
        cases h
        obtain ⟨H2, g2, k2, e2, n2, h3, b2⟩ := args_ok (pt := pt) (lent := lent) hs h2 hq (fun k => by
          have := hp (k + 1)
          simp only [List.getElem?_cons_succ] at this
          rw [show j + 1 + k = j + (k + 1) by omega]
          exact this) hl hv
        simp only at h1
        rw [hx] at h1
        obtain ⟨_, b, b1, b3⟩ := h1
        have e : c = φ id := b3.trans b1.symm
        subst e
        refine ⟨H2, g2, k2, e2, n2, ArgsR.ptr (p := (id, K)) (b := b) ?_ b1 h3, b2⟩
        rcases hp 0 with h | h
        · simpa using h.symm
        · simp at h
    · cases h
  | (x, .mut K) :: r, j, q, s, s', H, cs, hs, hc, h, hp, hl, hv => by
    obtain ⟨c, cs, rfl, h1, h2⟩ := hc
    simp only [St.args] at h
    cases hy : mutC s.st j K.leaves (s.opd x).cells with
    | none => rw [hy] at h; cases h
    | some y =>
      rw [hy] at h
      simp only [Option.bind_some] at h
      cases hq : s.args r (j + y.2.length) with
      | none => rw [hq] at h; cases h
      | some q' =>
        obtain ⟨q1, s2⟩ := q'
        rw [hq] at h
        cases h
        obtain ⟨H2, g2, k2, e2, n2, h3, b2⟩ := args_ok (pt := pt) (lent := lent) hs h2 hq (fun k => by
          have := hp (y.2.length + k)
          rw [List.getElem?_append_right (by omega), Nat.add_sub_cancel_left, ← Nat.add_assoc] at this
          exact this) hl hv
        have pts : ∀ (m : Nat) (p : Nat × Kd), y.2[m]? = some p → pt (j + m) = some p := by
          intro m p hm
          have hlm := (List.getElem?_eq_some_iff.1 hm).1
          rcases hp m with h | h
          · rw [← h, List.getElem?_append_left hlm]; exact hm
          · rw [List.getElem?_append_left hlm, hm] at h; cases h
        have one : ∀ a u, (VF H a u ∨ ∃ (m : Nat) (p : Nat × Kd), a = .row (j + m) ∧ y.2[m]? = some p ∧ varAt s.st p.1 = false ∧ (kindAt s.st p.1).isSome = true ∧ u = φ p.1) → MutC H2 φ s2.st pt a u := by
          intro a u h
          rcases h with h | ⟨m, p, h1, h2, h3, h4, h5⟩
          · exact .inl (h.mono g2.le)
          · exact .inr ⟨j + m, p, h1, pts m p h2, ((k2 p.1 (by simp) (.inl h4)).2.2.1).trans h3, h5⟩
        refine ⟨H2, g2, k2, e2, n2, ArgsR.lendw ?_ h3, b2⟩
        simp only at h1
        rcases h1.cases with ⟨ds, arr, ea, ev, hd⟩ | ⟨vs, arr, ea, _, _⟩ | hvc
        · rw [ea] at hy ⊢
          subst ev
          exact .inl ⟨y.1, arr, rfl, rfl, (mutC_ok hd hy).imp one⟩
        · rw [ea] at hy
          exfalso
          simp only [AV.cells] at hy
          cases hks : K.leaves with
          | nil => rw [hks] at hy; simp [mutC] at hy
          | cons k ks =>
            rw [hks] at hy
            simp [mutC, AV.norm, AV.solid] at hy
        · have hcell : (s.opd x).cells = [s.opd x] := cells_one hvc
          rw [hcell] at hy
          have := mutC_ok (show All2 (VC H φ s.st) [s.opd x] [c] from ⟨c, [], rfl, hvc, rfl⟩) hy
          have hlk : ∀ z, (s.opd x).like z = z.headD .undef := fun z => by
            generalize s.opd x = v at hvc
            cases v <;> first | rfl | exact hvc.elim
          rw [hlk]
          cases hy1 : y.1 with
          | nil => rw [hy1] at this; cases this
          | cons a as =>
            rw [hy1] at this
            obtain ⟨u, us, e, h1', _⟩ := this
            cases e
            exact .inr (one a c h1')
  | (x, .cap f K) :: r, j, q, s, s', H, cs, hs, hc, h, hp, hl, hv => by
    obtain ⟨c, cs, rfl, h1, h2⟩ := hc
    simp only [St.args] at h
    split at h
    · rename_i f' K' z hx
      split at h
      · rename_i ef
        split at h
        · rename_i ek
          subst ef ek
          cases hq : s.args r j with
          | none => rw [hq] at h; cases h
          | some q' =>
            obtain ⟨q1, s2⟩ := q'
            rw [hq] at h
            cases h
            obtain ⟨H2, g2, k2, e2, n2, h3, b2⟩ := args_ok (pt := pt) (lent := lent) hs h2 hq hp hl hv
            simp only at h1
            rw [hx] at h1
            have h1 : cloR H f' (Rep H K' z) c := h1
            have h1' := cloR_mono g2.le (fun _ h => Rep.mono g2.le h) h1
            obtain ⟨b, o, c', el, fz, e, rest⟩ := h1'
            subst e
            exact ⟨H2, g2, k2, e2, n2, ArgsR.cap (f := f') ⟨b, o, c', el, fz, rfl, rest⟩ h3, b2⟩
        · cases h
      · cases h
    · cases h
  | (x, .cap0 f) :: r, j, q, s, s', H, cs, hs, hc, h, hp, hl, hv => by
    obtain ⟨c, cs, rfl, h1, h2⟩ := hc
    simp only [St.args] at h
    split at h
    · split at h
      · exact args_ok (args := r) (pt := pt) (lent := lent) hs h2 h hp hl hv
      · cases h
    · cases h

theorem args_last : ∀ {l : List (Opd × PK)} {x : Opd} {p : PK} {s : St} {j : Nat} {r : Hand × St}, s.args (l ++ [(x, p)]) j = some r → ∃ (j' : Nat) (s' : St) (r' : Hand × St), s'.fr = s.fr ∧ s'.args [(x, p)] j' = some r'
  | [], x, p, s, j, r, h => ⟨j, s, r, rfl, h⟩
  | (y, .val K) :: l, x, p, s, j, r, h => by
    simp only [List.cons_append, St.args] at h
    split at h
    · cases hk : s.keepAll (s.opd y).cells with
      | none => rw [hk] at h; cases h
      | some a =>
        rw [hk] at h
        simp only [Option.bind_some] at h
        cases hz : K.ofCells a.1 with
        | none => rw [hz] at h; cases h
        | some z =>
          rw [hz] at h
          simp only [Option.bind_some] at h
          cases hq : a.2.args (l ++ [(x, p)]) j with
          | none => rw [hq] at h; cases h
          | some q =>
            obtain ⟨j', s', r', e, h'⟩ := args_last hq
            exact ⟨j', s', r', e.trans (keepAll_fr hk), h'⟩
    · cases h
  | (y, .bor K) :: l, x, p, s, j, r, h => by
    have go : ∀ {ρ : Type} {g : Hand × St → Option ρ} {r : ρ}, (s.args (l ++ [(x, p)]) j).bind g = some r → ∃ (j' : Nat) (s' : St) (r' : Hand × St), s'.fr = s.fr ∧ s'.args [(x, p)] j' = some r' := by
      intro ρ g r h
      cases hq : s.args (l ++ [(x, p)]) j with
      | none => rw [hq] at h; cases h
      | some q => exact args_last hq
    simp only [List.cons_append, St.args] at h
    split at h
    · split at h
      · split at h
        · exact go h
        · cases h
      · split at h
        · exact go h
        · cases h
      · cases h
    · split at h
      · rename_i cs' _ _
        cases hy : borC s.st cs' with
        | none => rw [hy] at h; cases h
        | some y' =>
          rw [hy] at h
          simp only [Option.bind_some] at h
          cases hz : K.ofCells y'.1 with
          | none => rw [hz] at h; cases h
          | some z =>
            rw [hz] at h
            exact go h
      · cases h
    · split at h
      · cases hz : K.ofCells [s.opd y] with
        | none => rw [hz] at h; cases h
        | some z =>
          rw [hz] at h
          exact go h
      · cases h
  | (y, .mov K) :: l, x, p, s, j, r, h => by
    simp only [List.cons_append, St.args] at h
    split at h
    · split at h
      · split at h
        · cases hq : s.args (l ++ [(x, p)]) j with
          | none => rw [hq] at h; cases h
          | some q => exact args_last hq
        · cases h
      · cases h
    · cases h
  | (y, .ptr K) :: l, x, p, s, j, r, h => by
    simp only [List.cons_append, St.args] at h
    split at h
    · cases hq : s.args (l ++ [(x, p)]) (j + 1) with
      | none => rw [hq] at h; cases h
      | some q => exact args_last hq
    · cases h
  | (y, .mut K) :: l, x, p, s, j, r, h => by
    simp only [List.cons_append, St.args] at h
    cases hy : mutC s.st j K.leaves (s.opd y).cells with
    | none => rw [hy] at h; cases h
    | some y' =>
      rw [hy] at h
      simp only [Option.bind_some] at h
      cases hq : s.args (l ++ [(x, p)]) (j + y'.2.length) with
      | none => rw [hq] at h; cases h
      | some q => exact args_last hq
  | (y, .cap f K) :: l, x, p, s, j, r, h => by
    simp only [List.cons_append, St.args] at h
    split at h
    · split at h
      · split at h
        · cases hq : s.args (l ++ [(x, p)]) j with
          | none => rw [hq] at h; cases h
          | some q => exact args_last hq
        · cases h
      · cases h
    · cases h
  | (y, .cap0 f) :: l, x, p, s, j, r, h => by
    simp only [List.cons_append, St.args] at h
    split at h
    · split at h
      · exact args_last h
      · cases h
    · cases h

theorem VE.opens {H : HP} {a : AV} {v : Value} (h : VE H a v) (k : Nat) : openV k a = a ∧ newCount a.cells = 0 ∧ openB a.cells = [] := by
  have sol : ∀ {cs : List AV} {vs : List Value}, VFs H cs vs → ∀ k, openC k cs = cs ∧ newCount cs = 0 ∧ openB cs = [] := by
    intro cs
    induction cs with
    | nil => intro vs _ k; exact ⟨rfl, rfl, rfl⟩
    | cons c cs ih =>
      intro vs h k
      obtain ⟨v, r, rfl, h1, h2⟩ := h
      obtain ⟨o1, o2, o3⟩ := openC_VF (k := k) (r := cs) h1
      obtain ⟨i1, i2, i3⟩ := ih h2 k
      exact ⟨by rw [o1, i1], by rw [o3]; exact i2, by rw [o2]; exact i3⟩
  rcases h.cases with ⟨cs, arr, rfl, _, hc⟩ | h
  · obtain ⟨s1, s2, s3⟩ := sol hc k
    exact ⟨by simp only [openV, s1], s2, s3⟩
  · have e : a.cells = [a] := by cases a <;> first | rfl | exact h.elim
    obtain ⟨s1, s2, s3⟩ := sol (cs := [a]) (vs := [v]) ⟨v, [], rfl, h, rfl⟩ k
    refine ⟨?_, by rw [e]; exact s2, by rw [e]; exact s3⟩
    have : openV k a = (openC k [a]).headD .undef := by cases a <;> first | rfl | exact h.elim
    rw [this, s1]
    rfl

theorem dec_new : ∀ (K : Kd) (cs r : List AV) (x : K.T), (cs.all fun a => !a.isNew) = true → K.dec cs = some (x, r) → ((K.enc x).all fun a => !a.isNew) = true ∧ (r.all fun a => !a.isNew) = true := by
  intro K
  induction K with
  | pair a b iha ihb =>
    intro cs r x hn h
    simp only [Kd.dec] at h
    cases h1 : a.dec cs with
    | none => simp [h1] at h
    | some p =>
      simp only [h1, Option.bind_some] at h
      cases h2 : b.dec p.2 with
      | none => simp [h2] at h
      | some q =>
        simp only [h2, Option.bind_some, Option.some.injEq, Prod.mk.injEq] at h
        obtain ⟨rfl, rfl⟩ := h
        obtain ⟨e1, e2⟩ := iha cs p.2 p.1 hn h1
        obtain ⟨e3, e4⟩ := ihb p.2 q.2 q.1 e2 h2
        exact ⟨by simp only [Kd.enc, List.all_append, e1, e3, Bool.and_self], e4⟩
  | own t e _ =>
    intro cs r x hn h
    cases cs with
    | nil => simp [Kd.dec] at h
    | cons a cs => cases a <;> first | (simp [AV.isNew] at hn; done) | (simp [Kd.dec] at h; done)
  | ref K _ =>
    intro cs r x hn h
    cases cs with
    | nil => simp [Kd.dec] at h
    | cons a cs => cases a <;> first | (simp [AV.isNew] at hn; done) | (simp [Kd.dec] at h; done)
  | _ =>
    intro cs r x hn h
    cases cs with
    | nil => simp [Kd.dec] at h
    | cons a cs =>
      simp only [List.all_cons, Bool.and_eq_true] at hn
      refine ⟨rfl, ?_⟩
      have e : r = cs := by
        cases a <;> first | (simp [Kd.dec] at h; done) | (simp [Kd.dec] at h; obtain ⟨_, _, rfl⟩ := h; rfl) | (simp [Kd.dec] at h; obtain ⟨_, rfl⟩ := h; rfl) | (simp only [Kd.dec] at h; split at h <;> first | (cases h; done) | (cases h; rfl) | (split at h <;> first | (cases h; done) | (cases h; rfl))) | (rename_i l; cases l <;> first | (simp [Kd.dec] at h; done) | (simp only [Kd.dec] at h; split at h <;> first | (cases h; done) | (cases h; rfl)))
      rw [e]
      exact hn.2
theorem ofCells_new {K : Kd} {cs : List AV} {z : K.T} (h : K.ofCells cs = some z) (hn : (cs.all fun a => !a.isNew) = true) : ((K.enc z).all fun a => !a.isNew) = true := (dec_new K cs [] z hn (ofCells_dec h)).1

theorem noNew : ∀ {cs : List AV}, (cs.all fun a => !a.isNew) = true → newCount cs = 0 ∧ ∀ k, openC k cs = cs ∧ openB cs = []
  | [], _ => ⟨rfl, fun _ => ⟨rfl, rfl⟩⟩
  | a :: cs, h => by
    simp only [List.all_cons, Bool.and_eq_true, Bool.not_eq_true'] at h
    obtain ⟨h1, h2⟩ := noNew h.2
    have ha := h.1
    refine ⟨by simp [newCount, ha, h1], fun k => ?_⟩
    obtain ⟨o1, o2⟩ := h2 k
    cases a <;> first | (cases ha; done) | exact ⟨by simp only [openC, o1], by simp only [openB, o2]⟩
theorem MutR.opens {H : HP} {φ : Phi} {st : List Box} {pt : Nat → Option (Nat × Kd)} {a : AV} {c : Value} (h : MutR H φ st pt a c) (k : Nat) : openV k a = a ∧ newCount a.cells = 0 ∧ openB a.cells = [] := by
  rcases h with ⟨as, arr, rfl, _, hc⟩ | h | ⟨k', p, rfl, _⟩
  · have hs : (as.all fun a => !a.isNew) = true := by
      refine List.all_eq_true.2 fun a ha => ?_
      obtain ⟨j, hj⟩ := List.mem_iff_getElem?.1 ha
      obtain ⟨u, _, h | ⟨_, _, h, _⟩⟩ := hc.get j a hj
      · cases a <;> first | rfl | exact h.elim
      · rw [h]; rfl
    obtain ⟨h1, h2⟩ := noNew hs
    exact ⟨by simp only [openV, (h2 k).1], h1, (h2 k).2⟩
  · exact (VE.of_VF h).opens k
  · exact ⟨rfl, rfl, rfl⟩

theorem ArgsR.news {H : HP} {φ : Phi} {st : List Box} {pt : Nat → Option (Nat × Kd)} {lent : Nat → Prop} {as : List AV} {cs : List Value} {ms : List Nat} (h : ArgsR H φ st pt lent as cs ms) :
    newCount (cellsOf as) = ms.length ∧ ∀ (m : Nat) (b : Box), (openB (cellsOf as))[m]? = some b → ∃ (i : Nat) (t : TypeId) (e : Kd), ∃ xs : List (Kd.T e), ms[m]? = some i ∧ st[i]? = some (Box.rows t e xs) ∧ b = Box.rows t e xs := by
  have skip : ∀ {a : AV} {as : List AV} {ms : List Nat}, newCount a.cells = 0 → openB a.cells = [] → (newCount (cellsOf as) = ms.length ∧ ∀ (m : Nat) (b : Box), (openB (cellsOf as))[m]? = some b → ∃ (i : Nat) (t : TypeId) (e : Kd), ∃ xs : List (Kd.T e), ms[m]? = some i ∧ st[i]? = some (Box.rows t e xs) ∧ b = Box.rows t e xs) →
      (newCount (cellsOf (a :: as)) = ms.length ∧ ∀ (m : Nat) (b : Box), (openB (cellsOf (a :: as)))[m]? = some b → ∃ (i : Nat) (t : TypeId) (e : Kd), ∃ xs : List (Kd.T e), ms[m]? = some i ∧ st[i]? = some (Box.rows t e xs) ∧ b = Box.rows t e xs) := by
    intro a as ms h1 h2 h3
    have e : cellsOf (a :: as) = a.cells ++ cellsOf as := rfl
    rw [e, newCount_append, h1, openB_append, h2, Nat.zero_add, List.nil_append]
    exact h3
  induction h with
  | nil => exact ⟨rfl, fun m b h => by simp [cellsOf, openB] at h⟩
  | val hv _ ih => obtain ⟨_, h1, h2⟩ := hv.opens 0; exact skip h1 h2 ih
  | bor _ _ _ ih => exact skip rfl rfl ih
  | cap _ _ ih => exact skip rfl rfl ih
  | borS hb hz he _ ih =>
    rename_i K z y arr as cs ms _
    have hs : (y.all fun a => !a.isNew) = true := by
      refine List.all_eq_true.2 fun a ha => ?_
      obtain ⟨j, hj⟩ := List.mem_iff_getElem?.1 ha
      obtain ⟨u, _, h | ⟨_, _, _, _, _, _, h, _⟩⟩ := hb.get j a hj
      · cases a <;> first | rfl | exact h.elim
      · rw [h]; rfl
    have hn := noNew (ofCells_new hz hs)
    exact skip (by rw [av_cells]; exact hn.1) (by rw [av_cells]; exact (hn.2 0).2) ih
  | lendw hm _ ih =>
    obtain ⟨_, h1, h2⟩ := hm.opens 0
    exact skip h1 h2 ih
  | ptr _ _ _ ih => exact skip rfl rfl ih
  | mov hi _ ih =>
    rename_i i t K xs as cs ms _
    have e : cellsOf (AV.new t K xs :: as) = .new t K xs :: cellsOf as := rfl
    rw [e]
    refine ⟨by simp [newCount, AV.isNew, ih.1], fun m b hb => ?_⟩
    simp only [openB] at hb
    cases m with
    | zero => simp at hb; subst hb; exact ⟨i, t, K, xs, rfl, hi, rfl⟩
    | succ m => simpa using ih.2 m b (by simpa using hb)

/-- The arguments, as the callee sees them. -/
theorem ArgsR.callee {H H1 : HP} {φ : Phi} {st est : List Box} {ids : List (Nat × Kd)} {owns movs bors : List Nat} {as : List AV} {cs : List Value} {ms : List Nat} (hE : Entry st ids.length (ids.map (·.1) ++ owns ++ movs) est)
    (hle : H.le H1) (hlent : ∀ i ∈ bors, ∀ (t : TypeId) (K : Kd) (xs : List (Kd.T K)), st[i]? = some (Box.rows t K xs) → reps (Rep H1 K) K.sz H1 xs (φ i))
    (hnp : ∀ i b, ((∃ (t : TypeId) (K : Kd), ∃ xs : List (Kd.T K), st[i]? = some (Box.rows t K xs)) ∨ (∃ (t : TypeId) (K : Kd), ∃ xs : List (Kd.T K), st[i]? = some (Box.mrow t K xs))) → φ i ≠ .pointer (some ⟨b, 0, none⟩))
    (h : ArgsR H φ st (fun k => ids[k]?) (· ∈ bors) as cs ms) : ∀ (pre : List Nat), movs = pre ++ ms →
    All2 (VB H1 (fun k => φ ((ids.map (·.1) ++ owns ++ movs).getD k 0)) est) (openVs (ids.length + owns.length + pre.length) as) cs := by
  induction h with
  | nil => intro pre _; rfl
  | val hv _ ih =>
    intro pre e
    obtain ⟨h1, h2, _⟩ := hv.opens (ids.length + owns.length + pre.length)
    simp only [openVs, h1, h2, Nat.add_zero]
    exact ⟨_, _, rfl, VB.of_VE (hv.mono hle), ih pre e⟩
  | bor hi hst _ ih =>
    intro pre e
    exact ⟨_, _, rfl, VB.of_VC (a := .lst _ _) (hlent _ hi _ _ _ hst), ih pre e⟩
  | cap hc _ ih =>
    intro pre e
    obtain ⟨b, o, c', el, fz, ev, hb, vs, hr, hv⟩ := hc
    simp only [Value.func.injEq, true_and, Array.mk.injEq, List.cons.injEq, and_true] at ev
    subst ev
    exact ⟨_, _, rfl, VB.of_VC (a := .fptr _ 0) ⟨b, o, c', el, fz, rfl, hle _ _ hb, vs, VFs.mono hle (VFs.of_rep hr), hv⟩, ih pre e⟩
  | mov hst _ ih =>
    rename_i i t K xs as cs ms _
    intro pre e
    have hk : (ids.map (·.1) ++ owns ++ movs)[ids.length + owns.length + pre.length]? = some i := by
      rw [List.getElem?_append_right (by simp), e]
      simp
    refine ⟨_, _, rfl, ?_, ?_⟩
    · obtain ⟨b, hb⟩ := hE.at hk
      obtain ⟨i', hi', hc⟩ := hE.get _ b hb
      refine VB.of_VC (a := .row _) ⟨by simp only [getD_of hk], ?_⟩
      rcases hc with ⟨hlt, _⟩ | ⟨_, t', e', xs', _, rfl⟩ | ⟨hlt, _⟩
      · omega
      · simp only [kindAt, hb]; rfl
      · omega
    · have := ih (pre ++ [i]) (by simp [e])
      simpa [newCount, AV.cells, AV.isNew, Nat.add_assoc] using this
  | borS hb hz he _ ih =>
    rename_i K z y arr as cs ms _
    intro pre e
    have hf : VFs H1 y arr.toList := VFs_iff.2 (hb.imp fun a u h => by
      rcases h with h | ⟨i, t, K', xs, g1, g2, rfl, rfl⟩
      · exact h.mono hle
      · exact hlent i g1 t K' xs g2)
    obtain ⟨c1, c2, d1, d2, d3⟩ := rep_of_dec K hf (ofCells_dec hz)
    cases d3
    rw [List.append_nil] at d1
    have hve : VE H1 (K.av z) (.agg arr) := by
      rw [he]
      exact ⟨arr, rfl, by rw [d1]; exact VFs.of_rep d2⟩
    obtain ⟨h1, h2, _⟩ := hve.opens (ids.length + owns.length + pre.length)
    simp only [openVs, h1, h2, Nat.add_zero]
    exact ⟨_, _, rfl, VB.of_VE hve, ih pre e⟩
  | lendw hm _ ih =>
    rename_i a c as cs ms _
    intro pre e
    obtain ⟨h1, h2, _⟩ := hm.opens (ids.length + owns.length + pre.length)
    simp only [openVs, h1, h2, Nat.add_zero]
    have one : ∀ a c, MutC H φ st (fun k => ids[k]?) a c → VC H1 (fun k => φ ((ids.map (·.1) ++ owns ++ movs).getD k 0)) est a c := by
      intro a c h
      rcases h with h | ⟨k, p, rfl, hp, hva, rfl⟩
      · exact VC.of_VF (h.mono hle)
      · have hp : ids[k]? = some p := hp
        have hk1 : k < ids.length := (List.getElem?_eq_some_iff.1 hp).1
        have hk : (ids.map (·.1) ++ owns ++ movs)[k]? = some p.1 := by
          rw [List.append_assoc, List.getElem?_append_left (by simpa using hk1), List.getElem?_map, hp]
          rfl
        obtain ⟨bx, hbx⟩ := hE.at hk
        obtain ⟨i', hi', hc⟩ := hE.get _ bx hbx
        rw [hk] at hi'
        cases hi'
        refine ⟨by simp only [getD_of hk], ?_⟩
        rcases hc with ⟨_, c1, c2, hst, _⟩ | ⟨hle, _⟩ | ⟨_, t', e', xs', _, rfl⟩
        · simp only [varAt, hst] at hva; cases hva
        · omega
        · simp only [kindAt, hbx]; rfl
    refine ⟨_, _, rfl, ?_, ih pre e⟩
    rcases hm with ⟨as', arr, rfl, rfl, hc⟩ | hm
    · exact ⟨arr, rfl, hc.imp one⟩
    · exact VB.of_VC (one a c hm)
  | ptr hp hb _ ih =>
    rename_i k p b as cs ms _
    intro pre e
    have hk1 : k < ids.length := (List.getElem?_eq_some_iff.1 hp).1
    have hk : (ids.map (·.1) ++ owns ++ movs)[k]? = some p.1 := by
      rw [List.append_assoc, List.getElem?_append_left (by simpa using hk1), List.getElem?_map, hp]
      rfl
    refine ⟨_, _, rfl, ?_, by simpa [newCount, AV.cells, AV.isNew] using ih pre e⟩
    obtain ⟨bx, hbx⟩ := hE.at hk
    obtain ⟨i', hi', hc⟩ := hE.get _ bx hbx
    rw [hk] at hi'
    cases hi'
    refine VB.of_VC (a := .ptr k 0) ⟨?_, b, by simp only [getD_of hk]; exact hb, hb⟩
    rcases hc with ⟨_, c1, c2, _, rfl, _⟩ | ⟨hle, _⟩ | ⟨_, t', e', xs', hst, rfl⟩
    · simp only [varAt, hbx]
    · omega
    · exact absurd hb (hnp p.1 b (by rcases hst with h | h; exact .inl ⟨_, _, _, h⟩; exact .inr ⟨_, _, _, h⟩))

def argsB : List Operand → List (Opd × PK) → Bool
  | [], [] => true
  | y :: ys, x :: xs => opdB y x.1 && argsB ys xs
  | _, _ => false
theorem argsB_ok {H : HP} {φ : Phi} {s : St} {act : Act} (hf : FrR H φ s.st s.fr act.tmps) : ∀ {ys : List Operand} {xs : List (Opd × PK)}, argsB ys xs = true → All2 (fun (x : Opd × PK) c => VA H φ s.st (s.opd x.1) c) xs (ys.map act.eval)
  | [], [], _ => rfl
  | y :: ys, x :: xs, h => by
    simp only [argsB, Bool.and_eq_true] at h
    exact ⟨_, _, rfl, opd_ok hf h.1, argsB_ok hf h.2⟩
  | [], _ :: _, h => by simp [argsB] at h
  | _ :: _, [], h => by simp [argsB] at h

def callB (n : Nat) (o : Oper) (d : Option Nat) (f : Nat) (args : List (Opd × PK)) : Bool :=
  o.dst == d && (match d with | some d => decide (d < n) | none => true) && (match o.op with
    | .call ⟨.value (.func g), cargs, _⟩ => g == f && argsB cargs.toList args && args.all fun x => !x.2.isCap
    | .call ⟨.value (.tmp y), cargs, _⟩ => (match args.getLast? with
      | some x => argsB cargs.toList args.dropLast && opdB (.tmp y) x.1 && (args.dropLast.all fun x => !x.2.isCap) && (match x.2 with
        | .cap f' _ => f' == f
        | .cap0 f' => f' == f
        | _ => false)
      | none => false)
    | _ => false)

theorem tupOf_VA {H H' : HP} {φ φ' : Phi} {st st' : List Box} {rs : List AV} {f : AV → AV} {v : Value} (h : ResR H φ st rs v) (hf : ∀ a ∈ rs, ∀ u, VB H φ st a u → VB H' φ' st' (f a) u) : VA H' φ' st' (tupOf (rs.map f)) v := by
  have mp : ∀ {as : List AV} {vs : List Value}, (∀ a ∈ as, ∀ u, VB H φ st a u → VB H' φ' st' (f a) u) → All2 (VB H φ st) as vs → All2 (VB H' φ' st') (as.map f) vs := by
    intro as
    induction as with
    | nil => intro vs _ h; exact h
    | cons a as ih =>
      intro vs hf h
      obtain ⟨v, r, rfl, h1, h2⟩ := h
      exact ⟨v, _, rfl, hf a (by simp) v h1, ih (fun b hb => hf b (by simp [hb])) h2⟩
  cases rs with
  | nil =>
    obtain ⟨arr, e, h⟩ := h
    exact ⟨arr, e, mp (as := []) (fun _ h => by cases h) h⟩
  | cons a rs =>
    cases rs with
    | nil => exact VA.of_VB (hf a (by simp) v h)
    | cons b rs =>
      obtain ⟨arr, e, h⟩ := h
      exact ⟨arr, e, mp hf h⟩

theorem argsB_len : ∀ {ys : List Operand} {xs : List (Opd × PK)}, argsB ys xs = true → xs.length = ys.length
  | [], [], _ => rfl
  | y :: ys, x :: xs, h => by
    simp only [argsB, Bool.and_eq_true] at h
    simp [argsB_len h.2]
  | [], _ :: _, h => by simp [argsB] at h
  | _ :: _, [], h => by simp [argsB] at h

theorem call_exec {H : HP} {φ : Phi} {s : St} {act : Act} {n : Nat} {o : Oper} {d : Option Nat} {f : Nat} {args : List (Opd × PK)} {q : Hand × St} (h : callB n o d f args = true) (hf : FrR H φ s.st s.fr act.tmps) (hq : s.args args 0 = some q) :
    o.dst = d ∧ (∀ k, d = some k → k < n) ∧ ∃ cs : List Value, All2 (fun (x : Opd × PK) c => VA H φ s.st (s.opd x.1) c) args cs ∧ ∀ w : World, Enters P f → (execOp act.eval o).run P w = .ok (.enter f (capAll args cs).toArray) w := by
  simp only [callB, Bool.and_eq_true, beq_iff_eq] at h
  obtain ⟨⟨hd, hdn⟩, h2⟩ := h
  refine ⟨hd, fun k e => by subst e; simpa using hdn, ?_⟩
  split at h2
  · rename_i g cargs tys ho
    simp only [Bool.and_eq_true, beq_iff_eq] at h2
    obtain ⟨⟨rfl, hargs⟩, hpl⟩ := h2
    refine ⟨_, argsB_ok hf hargs, fun w hent => ?_⟩
    obtain ⟨fn, c, hfn, hname, hbody⟩ := hent
    have hname' : ¬ fn.name = "runtime.NumGoroutine" := by simpa using hname
    rw [capAll_plain (by simpa using argsB_len hargs) hpl]
    have hargs' : (cargs.toList.map act.eval).toArray = cargs.map act.eval := by
      rw [← Array.toList_map, Array.toArray_toList]
    rw [hargs']
    simp [execOp, ho, resolve, Act.eval, Deferred.ofValue, invoke, callFunc, run_program, hfn, hname', hbody]
  · rename_i y cargs tys ho
    split at h2
    · rename_i x hx
      simp only [Bool.and_eq_true] at h2
      obtain ⟨⟨⟨hargs, hy⟩, hpl⟩, hp⟩ := h2
      have hne : args ≠ [] := fun e => by rw [e] at hx; cases hx
      have hsplit : args = args.dropLast ++ [x] := by
        rw [List.getLast?_eq_some_getLast hne] at hx
        rw [← Option.some.inj hx]
        exact (List.dropLast_concat_getLast hne).symm
      have hvy := opd_ok hf hy
      refine ⟨cargs.toList.map act.eval ++ [act.eval (.tmp y)], ?_, fun w hent => ?_⟩
      · rw [hsplit]
        exact (argsB_ok hf hargs).append ⟨_, _, rfl, hvy, rfl⟩
      · obtain ⟨fn, c, hfn, hname, hbody⟩ := hent
        have hname' : ¬ fn.name = "runtime.NumGoroutine" := by simpa using hname
        have hargs' : (cargs.toList.map act.eval).toArray = cargs.map act.eval := by
          rw [← Array.toList_map, Array.toArray_toList]
        rw [hsplit, capAll_append (by simpa using argsB_len hargs), capAll_plain (by simpa using argsB_len hargs) hpl, show (cargs.toList.map act.eval ++ capAll [x] [act.eval (.tmp y)]).toArray = (cargs.toList.map act.eval).toArray ++ (capAll [x] [act.eval (.tmp y)]).toArray from by simp, hargs']
        obtain ⟨x1, p⟩ := x
        rw [hsplit] at hq
        obtain ⟨j', s', r', efr, hl⟩ := args_last hq
        have hopd : s'.opd x1 = s.opd x1 := by cases x1 <;> simp [St.opd, efr]
        cases p with
        | cap f' K =>
          simp only [beq_iff_eq] at hp
          subst hp
          simp only [St.args] at hl
          split at hl
          · rename_i f2 K2 z hz
            rw [hopd] at hz
            simp only at hvy
            rw [hz] at hvy
            split at hl
            · rename_i e1
              subst e1
              obtain ⟨b, o', c', el, fz, ev, _⟩ := (hvy : cloR H f2 (Rep H K2 z) _)
              simp only [capAll, capA, ev, List.append_nil]
              simp [execOp, ho, resolve, ev, Deferred.ofValue, invoke, callFunc, run_program, hfn, hname', hbody]
            · cases hl
          · cases hl
        | cap0 f' =>
          simp only [beq_iff_eq] at hp
          subst hp
          simp only [St.args] at hl
          split at hl
          · rename_i f2 hz
            rw [hopd] at hz
            simp only at hvy
            rw [hz] at hvy
            split at hl
            · rename_i e1
              subst e1
              obtain ⟨_, ev⟩ := (hvy : ([] : List AV) = [] ∧ act.eval (.tmp y) = .func (.func f2) #[] #[])
              simp only [capAll, capA, List.append_nil]
              simp [execOp, ho, resolve, ev, Deferred.ofValue, invoke, callFunc, run_program, hfn, hname', hbody]
            · cases hl
          · cases hl
        | _ => cases hp
    · cases h2
  · cases h2

theorem call_ok {n : Nat} {o : Oper} {d : Option Nat} {f : Nat} {args : List (Opd × PK)} {res : List Kd} {cal : Cal} (hcal : CallOk P cal) (h : callB n o d f args = true) : OpOk P n o (.call d f args res) cal := by
  intro ρ kn r s act w H φ next Q hs hf hn hk hnext
  simp only [opK] at hk
  cases hq : s.args args 0 with
  | none => rw [hq] at hk; cases hk
  | some q0 =>
    obtain ⟨q, s1⟩ := q0
    rw [hq] at hk
    simp only [Option.bind_some] at hk
    obtain ⟨hd, hdn, cvs, hcvs, hrun⟩ := call_exec h hf hq
    cases hb : boxesOf s1.st q.ptrs with
    | none => rw [hb] at hk; cases hk
    | some bx0 =>
      obtain ⟨bx, owns⟩ := bx0
      rw [hb] at hk
      simp only [Option.bind_some] at hk
      split at hk
      · rename_i hchk
        simp only [Bool.and_eq_true] at hchk
        obtain ⟨⟨hnd, hap⟩, hlv⟩ := hchk
        have hnd := nodupN_ok hnd
        have hap := apartN_ok hap
        have hlv := liveRows_ok hlv
        cases hc : cal f q.args bx with
        | none => rw [hc] at hk; cases hk
        | some rs =>
          rw [hc] at hk
          simp only [Option.bind_some] at hk
          cases hy : decAll (res ++ q.ptrs.map (·.2)) rs with
          | none => rw [hy] at hk; cases hk
          | some y =>
            rw [hy] at hk
            simp only [Option.bind_some] at hk
            obtain ⟨H1, g1, k1, e1, n1, ha, hback⟩ := args_ok (pt := fun k => q.ptrs[k]?) (lent := (· ∈ q.bors)) hs hcvs hq (fun k => .inl (by simp)) (fun _ h => h) hlv
            have F := boxesOf_ok hb
            obtain ⟨hent, hnf, m, hm, hcall⟩ := hcal f q.args bx rs hc
            obtain ⟨l1, l2, _⟩ := decAll_ok _ rs y hy
            have hrs : encAll _ y = rs := encAll_of _ rs y hy hnf
            rw [hrs] at hk
            have hmr : m = res.length := by
              have : rs.length = res.length + q.ptrs.length := by rw [l1]; simp
              have := F.len
              omega
            subst hmr
            have hE := entry_of F ha.news.1 ha.news.2
            obtain ⟨H2, st1, b1, b2, b3, b4, b5⟩ := lend g1.sr q.bors (fun i hi => hlv i (List.mem_append_right _ hi))
            have hsame : ∀ i ∈ q.ptrs.map (·.1) ++ owns ++ q.movs, st1[i]? = s1.st[i]? := fun i hi => b4 i fun h => hap i h hi
            have hsr := hE.sr hnd b2 hsame
            have hnp : ∀ i b, ((∃ (t : TypeId) (K : Kd), ∃ xs : List (Kd.T K), s1.st[i]? = some (Box.rows t K xs)) ∨ (∃ (t : TypeId) (K : Kd), ∃ xs : List (Kd.T K), s1.st[i]? = some (Box.mrow t K xs))) → φ i ≠ .pointer (some ⟨b, 0, none⟩) := by
              intro i b hi e
              rcases hi with ⟨t, K, xs, hi⟩ | ⟨t, K, xs, hi⟩
              · obtain ⟨flat, ho, _⟩ := g1.sr.box i _ hi
                rcases ho.2 with ⟨e1, _⟩ | ⟨_, _, _, e1, _⟩ <;> rw [e] at e1 <;> cases e1
              · obtain ⟨flat, ho, _⟩ := g1.sr.box i _ hi
                rcases ho.2 with ⟨e1, _⟩ | ⟨_, _, _, e1, _⟩ <;> rw [e] at e1 <;> cases e1
            have hargs2 := ha.callee hE b1 b5 hnp [] rfl
            have hhan : handed bx = q.ptrs.length + owns.length := by rw [handed_eq, F.len, F.cnt]
            simp only [List.length_nil, Nat.add_zero] at hargs2
            rw [← hhan] at hargs2
            have hC := hcall H2 _ w _ hsr hargs2
            have B : Border H1 φ s1.st w q.ptrs.length (q.ptrs.map (·.1) ++ owns) q.movs q.bors H2 (exitSt bx q.args) :=
              ⟨g1.sr, hE, hnd, fun i hi => hlv i (List.mem_append_right _ hi), hap, b1, b3, by simp⟩
            have houtl : (rs.drop res.length).length = q.ptrs.length := by rw [List.length_drop, l1]; simp
            have houtk : ∀ (j : Nat) (v : AV), (rs.drop res.length)[j]? = some v → ∃ p, q.ptrs[j]? = some p ∧ ∃ x : Kd.T p.2, v = Kd.av p.2 x := by
              intro j v hj
              have hjl : j < q.ptrs.length := by rw [← houtl]; exact (List.getElem?_eq_some_iff.1 hj).1
              have hp : q.ptrs[j]? = some q.ptrs[j] := by simp
              refine ⟨q.ptrs[j], hp, ?_⟩
              have hK : (res ++ q.ptrs.map (·.2))[res.length + j]? = some q.ptrs[j].2 := by
                rw [List.getElem?_append_right (by omega), Nat.add_sub_cancel_left, List.getElem?_map, hp]; rfl
              obtain ⟨x, hx⟩ := encAll_kd _ y _ _ hK
              rw [hrs] at hx
              rw [List.getElem?_drop, hx] at hj
              exact ⟨x, (Option.some.inj hj).symm⟩
            have hcnt : newCount (cellsOO (rs.drop res.length)) = owns.length := by
              rw [news_of houtl houtk, ← news_of F.len F.kd, F.cnt]
            have hhan2 : handed (rs.drop res.length) = q.ptrs.length + owns.length := by rw [handed_eq, houtl, hcnt]
            split at hk
            · rename_i hflat
              simp only [Bool.or_eq_true, Bool.and_eq_true, List.isEmpty_iff] at hflat
              unfold Oper.wp
              rw [hrun w hent, Oper.upon_enter]
              refine Calls.mono hC fun out w' hout => ?_
              cases out with
              | returned v =>
                obtain ⟨H3, φ3, c1, c2, c3, c4⟩ := hout
                rw [F.len, hE.len] at c3
                have hlen : (q.ptrs.map (·.1) ++ owns).length ≤ (exitSt (rs.drop res.length) (rs.take res.length)).length := by
                  rw [exitSt_length, houtl, hcnt]; simp only [List.length_append, List.length_map]; omega
                obtain ⟨H4, φ4, d1, dm, d2, d3⟩ := B.back c2 c1 c3 hlen (by
                  intro k i hkn hbk
                  have hpk : q.ptrs[k]? = some q.ptrs[k] := by simp
                  have hik : q.ptrs[k].1 = i := by
                    rw [List.getElem?_append_left (by simpa using hkn), List.getElem?_map, hpk] at hbk
                    exact Option.some.inj hbk
                  have hbxk : bx[k]? = some (bx[k]'(by rw [F.len]; exact hkn)) := by simp
                  obtain ⟨p, hp, hc⟩ := F.vars 0 k _ hbxk
                  rw [hpk] at hp
                  cases hp
                  have hok : (rs.drop res.length)[k]? = some ((rs.drop res.length)[k]'(by rw [houtl]; exact hkn)) := by simp
                  obtain ⟨p, hp, x, hx⟩ := houtk k _ hok
                  rw [hpk] at hp
                  cases hp
                  have hest : (exitSt (rs.drop res.length) (rs.take res.length))[k]? = some (boxO ((rs.drop res.length).length + newCount (cellsOO ((rs.drop res.length).take k))) (Kd.av q.ptrs[k].2 x)) := by
                    rw [exitSt_eq, List.getElem?_append_left (by rw [openVars_length, houtl]; exact hkn), openVars_get _ _ k _ hok, hx]
                  rw [hik] at hc
                  rcases hc with ⟨cs, ecs, ho, hst, _⟩ | ⟨t, e, xs, ho, hst, _⟩
                  · refine ⟨fun _ _ => ⟨_, by rw [hest, (av_cellsO x ho).2]⟩, fun t K xs h => ?_⟩
                    rw [hst] at h
                    rcases h with h | h <;> cases h
                  · refine ⟨fun cs h => ?_, fun t' K' xs' h => ?_⟩
                    · rcases hst with h2 | h2 <;> rw [h2] at h <;> cases h
                    · have e1 : t' = t ∧ K' = e := by
                        rcases hst with h2 | h2 <;> rcases h with h | h <;> rw [h2] at h <;> cases h <;> exact ⟨rfl, rfl⟩
                      obtain ⟨rfl, rfl⟩ := e1
                      revert x
                      rw [ho]
                      intro x _ hest
                      exact ⟨x, hest⟩) (by
                  rcases hflat with h | h
                  · exact .inl h
                  · exact .inr h.1)
                have hdrop : (q.ptrs.map (·.1) ++ owns).drop q.ptrs.length = owns := by
                  rw [show q.ptrs.length = (q.ptrs.map (·.1)).length by simp, List.drop_left]
                rw [hdrop] at d2
                have hf4 : FrR H4 φ4 (graft s1.st q.ptrs.length (q.ptrs.map (·.1) ++ owns) q.movs (exitSt (rs.drop res.length) (rs.take res.length))) (s1.fr.map (killT (owns ++ q.movs))) act.tmps := by
                  rw [e1]
                  exact FrR.kill d2 ((hf.mono g1.le k1).mono d1.le (Keeps.refl _ _ _))
                have hres := tupOf_VA c4 (H' := H4) (φ' := φ4) (st' := graft s1.st q.ptrs.length (q.ptrs.map (·.1) ++ owns) q.movs (exitSt (rs.drop res.length) (rs.take res.length)))
                  (f := AV.renV (renN (q.ptrs.map (·.1) ++ owns) s1.st.length)) fun a ha u hu => d3 a u (by
                    rcases hflat with h | h
                    · exact .inl h
                    · exact .inr (List.all_eq_true.1 h.2 a ha)) hu
                refine hnext _ v w' H4 φ4 hk (g1.trans d1) ?_ ⟨?_, fun h => by cases h⟩
                rotate_left
                · intro i bi hi hl hni b hbi
                  simp only [AOp.touch, hq, hb, List.mem_append, not_or] at hni
                  refine c3.old b ((hs.box i bi hi).blk_lt hl hbi) fun k hk => ?_
                  have hk2 : (q.ptrs.map (·.1) ++ owns ++ q.movs)[k]? = some (q.ptrs.map (·.1) ++ owns ++ q.movs)[k] := by simp
                  rw [getD_of hk2]
                  intro e
                  have hmem := List.getElem_mem hk
                  have hne : (q.ptrs.map (·.1) ++ owns ++ q.movs)[k] ≠ i := fun e2 => by
                    rw [e2] at hmem
                    simp only [List.mem_append] at hmem
                    rcases hmem with (h | h) | h
                    · exact hni.1.1 h
                    · exact hni.1.2 h
                    · exact hni.2 h
                  obtain ⟨eb, heb⟩ := hE.at hk2
                  obtain ⟨i', hi', hc'⟩ := hE.get k eb heb
                  rw [hk2] at hi'
                  cases hi'
                  have hlv2 : ∃ b2, s.st[(q.ptrs.map (·.1) ++ owns ++ q.movs)[k]]? = some b2 ∧ b2.live = true := by
                    rcases hc' with ⟨_, cs, ecs, h, _⟩ | ⟨_, t, e, xs, h, _⟩ | ⟨_, t, e, xs, h | h, _⟩
                    · exact ⟨_, hback h rfl, rfl⟩
                    · exact ⟨_, hback h rfl, rfl⟩
                    · exact ⟨_, hback h rfl, rfl⟩
                    · exact ⟨_, hback h rfl, rfl⟩
                  obtain ⟨b2, h1, h2⟩ := hlv2
                  exact hs.sep _ i b2 bi h1 hi h2 hl hne b e hbi
                cases d with
                | none => rw [hd]; exact hf4
                | some d =>
                  rw [put_tmps hd]
                  exact hf4.put (by have := hdn d rfl; omega) hres
              | panicked ch => exact hout.elim
              | outgrown => exact hout.elim
            · cases hk
      · cases hk

end Go.Proofs.Ytnbfkndicldppaa.Core
