/- How the store relation is kept when memory grows, a box is written, a row is frozen. -/
import Derived.Test.YtnbfkndicldppaaSto
namespace Go.Proofs.Ytnbfkndicldppaa.Core
open Go

variable {H : HP} {φ : Phi} {st : List Box} {w w' : World}

theorem HP.lt_of (h : ∀ b o, H b = some o → w.heap[b]? = some o) {b : Nat} {o : Obj} (hb : H b = some o) : b < w.heap.size :=
  (Array.getElem?_eq_some_iff.1 (h b o hb)).1

theorem BoxR.blk_lt {v : Value} {bx : Box} (h : BoxR H w v bx) (hl : bx.live = true) {b : Nat} (hb : blk v = some b) : b < w.heap.size := by
  cases bx with
  | var cs =>
    obtain ⟨b', c, el, rfl, hh, _⟩ := h
    simp only [blk, Option.some.injEq] at hb
    subst hb
    exact (Array.getElem?_eq_some_iff.1 hh).1
  | rows t K xs =>
    obtain ⟨flat, ho, _⟩ := h
    rcases ho.2 with ⟨rfl, _⟩ | ⟨g, cap, cur, rfl, _, hg, _⟩
    · simp [blk] at hb
    · simp only [blk, Option.some.injEq] at hb
      subst hb
      exact (Array.getElem?_eq_some_iff.1 hg).1
  | mrow t K xs =>
    obtain ⟨flat, ho, _⟩ := h
    rcases ho.2 with ⟨rfl, _⟩ | ⟨g, cap, cur, rfl, _, hg, _⟩
    · simp [blk] at hb
    · simp only [blk, Option.some.injEq] at hb
      subst hb
      exact (Array.getElem?_eq_some_iff.1 hg).1
  | frz K xs => simp [Box.live] at hl
  | dead => simp [Box.live] at hl

theorem blk_own {v : Value} (h : ∀ a, v ≠ .pointer a) : blk v = v.ownBlock := by
  cases v <;> try rfl
  case pointer a => exact (h a rfl).elim
  case slice a n c => cases a <;> rfl

/-- A box that is not written keeps what it is. -/
theorem BoxR.kept {v : Value} {bx : Box} (h : BoxR H w v bx) {row : Option Nat} (hg : w.grownBy w' row) (hne : ∀ b, blk v = some b → bx.live = true → row ≠ some b) :
    BoxR H w' v bx := by
  cases bx with
  | var cs =>
    obtain ⟨b, c, el, rfl, hh, hc⟩ := h
    refine ⟨b, c, el, rfl, ?_, hc⟩
    rw [hg.block b (Array.getElem?_eq_some_iff.1 hh).1 (fun e => hne b rfl rfl e.symm)]
    exact hh
  | rows t K xs =>
    obtain ⟨flat, ho, hr⟩ := h
    refine ⟨flat, ho.kept hg ?_, hr⟩
    rcases ho.2 with ⟨rfl, _⟩ | ⟨g, cap, cur, rfl, _⟩
    · exact .inl rfl
    · right
      intro e
      exact hne g rfl rfl (by simpa [Value.ownBlock] using e.symm)
  | mrow t K xs =>
    obtain ⟨flat, ho, hr⟩ := h
    refine ⟨flat, ho.kept hg ?_, hr⟩
    rcases ho.2 with ⟨rfl, _⟩ | ⟨g, cap, cur, rfl, _⟩
    · exact .inl rfl
    · right
      intro e
      exact hne g rfl rfl (by simpa [Value.ownBlock] using e.symm)
  | frz K xs => exact h
  | dead => trivial

theorem cell_kept {row : Option Nat} (hg : w.grownBy w' row) {b o : Nat} {u : Value} (hne : row ≠ some b) (h : w.cell? ⟨b, o, none⟩ = some u) : w'.cell? ⟨b, o, none⟩ = some u := by
  have hlt : b < w.heap.size := by
    rcases Nat.lt_or_ge b w.heap.size with hl | hl
    · exact hl
    · simp [World.cell?, Array.getElem?_eq_none hl] at h
  simp only [World.cell?] at h ⊢
  rw [hg.block b hlt (fun e => hne e.symm)]
  exact h

theorem VW.of_VF {a : AV} {v : Value} (h : VF H a v) : VW H a v := by cases a <;> first | exact h | exact h.elim
theorem VW.mono {H' : HP} (hH : H.le H') {a : AV} {v : Value} (h : VW H a v) : VW H' a v := by
  cases a with
  | int k n => exact VF.mono hH (a := .int k n) h
  | bool b => exact VF.mono hH (a := .bool b) h
  | str b => exact VF.mono hH (a := .str b) h
  | nil => exact VF.mono hH (a := .nil) h
  | lst K xs => exact VF.mono hH (a := .lst K xs) h
  | fn f caps => exact VF.mono hH (a := .fn f caps) h
  | clo f K x => exact VF.mono hH (a := .clo f K x) h
  | _ => first | trivial | exact h.elim
theorem VWs.of_VFs {as : List AV} {vs : List Value} (h : VFs H as vs) : All2 (VW H) as vs := (VFs_iff.1 h).imp fun _ _ h => VW.of_VF h

/-- Memory grows. -/
theorem SR.grow (h : SR H φ st w) (hg : w.grownBy w' none) : SR H φ st w' where
  hp b o hb := by rw [hg.block b (HP.lt_of h.hp hb) (by simp)]; exact h.hp b o hb
  box id bx hid := (h.box id bx hid).kept hg (fun _ _ _ => by simp)
  sep := h.sep
  out := h.out
  cell id cs hid o i ho := by
    obtain ⟨h1, b, h2, h3⟩ := h.cell id cs hid o i ho
    exact ⟨h1, b, h2, cell_kept hg (by simp) h3⟩

/-- A box more. -/
theorem SR.push (h : SR H φ st w) {v : Value} {bx : Box} (hb : BoxR H w v bx)
    (hn : bx.live = true → ∀ b, blk v = some b → H b = none ∧ ∀ i bi, st[i]? = some bi → bi.live = true → blk (φ i) ≠ some b)
    (hc : ∀ (cs : List AV), bx = Box.var cs → ∀ (o i : Nat), cs[o]? = some (AV.row i) → (kindAt st i).isSome = true ∧ ∃ b, v = .pointer (some ⟨b, 0, none⟩) ∧ w.cell? ⟨b, o, none⟩ = some (φ i)) :
    SR H (fun i => if i = st.length then v else φ i) (st ++ [bx]) w where
  hp := h.hp
  box id b0 hid := by
    rcases Nat.lt_trichotomy id st.length with hl | hl | hl
    · rw [List.getElem?_append_left hl] at hid
      simp only [Nat.ne_of_lt hl, if_false]
      exact h.box id b0 hid
    · subst hl
      simp at hid
      subst hid
      simpa using hb
    · rw [List.getElem?_append_right (Nat.le_of_lt hl)] at hid
      rw [List.getElem?_eq_none (by simp; omega)] at hid
      cases hid
  sep i j bi bj hi hj li lj hij b hb' := by
    have key : ∀ k bk, (st ++ [bx])[k]? = some bk → (k < st.length ∧ st[k]? = some bk) ∨ (k = st.length ∧ bk = bx) := by
      intro k bk hk
      rcases Nat.lt_trichotomy k st.length with hl | hl | hl
      · rw [List.getElem?_append_left hl] at hk; exact .inl ⟨hl, hk⟩
      · subst hl; simp at hk; exact .inr ⟨rfl, hk.symm⟩
      · rw [List.getElem?_eq_none (by simp; omega)] at hk; cases hk
    rcases key i bi hi with ⟨h1, h2⟩ | ⟨h1, h2⟩ <;> rcases key j bj hj with ⟨g1, g2⟩ | ⟨g1, g2⟩
    · simp only [Nat.ne_of_lt h1, Nat.ne_of_lt g1, if_false] at hb' ⊢
      exact h.sep i j bi bj h2 g2 li lj hij b hb'
    · subst g1; subst g2
      simp only [Nat.ne_of_lt h1, if_false, if_true] at hb' ⊢
      intro e
      exact (hn lj b e).2 i bi h2 li hb'
    · subst h1; subst h2
      simp only [Nat.ne_of_lt g1, if_false, if_true] at hb' ⊢
      exact (hn li b hb').2 j bj g2 lj
    · omega
  out i bi hi li b hb' := by
    rcases Nat.lt_trichotomy i st.length with hl | hl | hl
    · rw [List.getElem?_append_left hl] at hi
      simp only [Nat.ne_of_lt hl, if_false] at hb'
      exact h.out i bi hi li b hb'
    · subst hl
      simp at hi
      subst hi
      simp only [if_true] at hb'
      exact (hn li b hb').1
    · rw [List.getElem?_eq_none (by simp; omega)] at hi; cases hi
  cell id cs hid o i ho := by
    have up : ∀ i, (kindAt st i).isSome = true → (kindAt (st ++ [bx]) i).isSome = true ∧ (if i = st.length then v else φ i) = φ i := by
      intro i hi
      have hl := kindAt_lt hi
      refine ⟨?_, by simp [Nat.ne_of_lt hl]⟩
      unfold kindAt at hi ⊢
      rw [List.getElem?_append_left hl]
      exact hi
    rcases Nat.lt_trichotomy id st.length with hl | hl | hl
    · rw [List.getElem?_append_left hl] at hid
      obtain ⟨h1, b, h2, h3⟩ := h.cell id cs hid o i ho
      obtain ⟨u1, u2⟩ := up i h1
      refine ⟨u1, b, by simpa [Nat.ne_of_lt hl] using h2, ?_⟩
      simp only [u2]; exact h3
    · subst hl
      simp at hid
      obtain ⟨h1, b, h2, h3⟩ := hc cs hid o i ho
      obtain ⟨u1, u2⟩ := up i h1
      refine ⟨u1, b, by simpa using h2, ?_⟩
      simp only [u2]; exact h3
    · rw [List.getElem?_eq_none (by simp; omega)] at hid; cases hid

/-- What is beyond the heap is nobody's. -/
theorem SR.fresh (h : SR H φ st w) {b : Nat} (hb : w.heap.size ≤ b) : H b = none ∧ ∀ i bi, st[i]? = some bi → bi.live = true → blk (φ i) ≠ some b := by
  constructor
  · cases hq : H b with
    | none => rfl
    | some o => have := HP.lt_of h.hp hq; omega
  · intro i bi hi li e
    have := (h.box i bi hi).blk_lt li e
    omega

/-- A live box is written: nothing but its own block changes, or it gets a new one. -/
theorem SR.update (h : SR H φ st w) {id : Nat} {bx bx' : Box} {v' : Value} (hid : st[id]? = some bx) (hl : bx.live = true) (hg : w.grownBy w' (blk (φ id)))
    (hb : BoxR H w' v' bx') (hn : ∀ b, blk v' = some b → blk (φ id) = some b ∨ w.heap.size ≤ b)
    (hr : ∀ (k : Nat) (cs : List AV), st[k]? = some (Box.var cs) → ∀ (o : Nat), cs[o]? = some (AV.row id) → v' = φ id ∧ (kindAt (st.set id bx') id).isSome = true)
    (hc : ∀ (cs : List AV), bx' = Box.var cs → ∀ (o i : Nat), cs[o]? = some (AV.row i) → i ≠ id ∧ (kindAt st i).isSome = true ∧ ∃ b, v' = .pointer (some ⟨b, 0, none⟩) ∧ w'.cell? ⟨b, o, none⟩ = some (φ i)) :
    SR H (fun i => if i = id then v' else φ i) (st.set id bx') w' := by
  have hlt : id < st.length := (List.getElem?_eq_some_iff.1 hid).1
  have hown : ∀ b, blk v' = some b → H b = none ∧ ∀ j bj, st[j]? = some bj → bj.live = true → j ≠ id → blk (φ j) ≠ some b := by
    intro b hb'
    rcases hn b hb' with e | e
    · exact ⟨h.out id bx hid hl b e, fun j bj hj lj hne => h.sep id j bx bj hid hj hl lj (Ne.symm hne) b e⟩
    · exact ⟨(h.fresh e).1, fun j bj hj lj _ => (h.fresh e).2 j bj hj lj⟩
  have get : ∀ k, k ≠ id → (st.set id bx')[k]? = st[k]? := fun k hk => by rw [List.getElem?_set]; simp [Ne.symm hk]
  have geti : (st.set id bx')[id]? = some bx' := by rw [List.getElem?_set]; simp [hlt]
  refine ⟨fun b o hb' => ?_, fun k bk hk => ?_, fun i j bi bj hi hj li lj hij b hb' => ?_, fun i bi hi li b hb' => ?_, fun k cs hk o i ho => ?_⟩
  · rw [hg.block b (HP.lt_of h.hp hb') (fun e => by have := h.out id bx hid hl b e.symm; rw [this] at hb'; cases hb')]
    exact h.hp b o hb'
  · by_cases e : k = id
    · subst e
      rw [geti] at hk
      cases hk
      simpa using hb
    · rw [get k e] at hk
      simp only [e, if_false]
      exact (h.box k bk hk).kept hg fun b h1 h2 => fun e2 => h.sep k id bk bx hk hid h2 hl e b h1 e2
  · by_cases ei : i = id
    · subst ei
      have ej : j ≠ i := Ne.symm hij
      rw [get j ej] at hj
      simp only [ej, if_false, if_true] at hb' ⊢
      exact (hown b hb').2 j bj hj lj ej
    · rw [get i ei] at hi
      by_cases ej : j = id
      · subst ej
        simp only [ei, if_false, if_true] at hb' ⊢
        intro e
        exact (hown b e).2 i bi hi li ei hb'
      · rw [get j ej] at hj
        simp only [ei, ej, if_false] at hb' ⊢
        exact h.sep i j bi bj hi hj li lj hij b hb'
  · by_cases ei : i = id
    · subst ei
      simp only [if_true] at hb'
      exact (hown b hb').1
    · rw [get i ei] at hi
      simp only [ei, if_false] at hb'
      exact h.out i bi hi li b hb'
  · have kk : ∀ i, i ≠ id → kindAt (st.set id bx') i = kindAt st i := fun i hi => by simp only [kindAt, get i hi]
    by_cases ek : k = id
    · subst ek
      rw [geti] at hk
      cases hk
      obtain ⟨h0, h1, b, h2, h3⟩ := hc cs rfl o i ho
      exact ⟨by rw [kk i h0]; exact h1, b, by simpa using h2, by simp only [h0, if_false]; exact h3⟩
    · rw [get k ek] at hk
      obtain ⟨h1, b, h2, h3⟩ := h.cell k cs hk o i ho
      have h4 := cell_kept hg (fun e => h.sep k id _ bx hk hid rfl hl ek b (by rw [h2]; rfl) e) h3
      by_cases ei : i = id
      · subst ei
        obtain ⟨g1, g2⟩ := hr k cs hk o ho
        exact ⟨g2, b, by simpa [ek] using h2, by simp only [if_true, g1]; exact h4⟩
      · exact ⟨by rw [kk i ei]; exact h1, b, by simpa [ek] using h2, by simp only [ei, if_false]; exact h4⟩

/-- References keep their meaning when a box is written that stays of its kind. -/
theorem keeps_set {id : Nat} {bx' : Box} {v' : Value} (hk : kindAt (st.set id bx') id = kindAt st id) (hv : varAt (st.set id bx') id = varAt st id) (hh : holdAt (st.set id bx') id = holdAt st id) (he : v' = φ id) :
    Keeps φ st (fun i => if i = id then v' else φ i) (st.set id bx') none := by
  intro i _ _
  by_cases e : i = id
  · subst e
    exact ⟨by simp [he], hk, hv, hh⟩
  · refine ⟨by simp [e], ?_, ?_, ?_⟩
    · simp [kindAt, List.getElem?_set, Ne.symm e]
    · simp [varAt, List.getElem?_set, Ne.symm e]
    · simp [holdAt, List.getElem?_set, Ne.symm e]

theorem rowRep_get {K : Kd} {xs : List K.T} {flat : List Value} (hr : rowRep H K xs flat) (hl : flat.length = xs.length * K.sz) {j : Nat} {x : K.T} (hx : xs[j]? = some x) :
    ∃ cs, Rep H K x cs ∧ cs.length = K.sz ∧ ∀ i u, cs[i]? = some u → flat[j * K.sz + i]? = some u := by
  have h := hr j x hx
  refine ⟨_, h, h.length, fun i u hu => ?_⟩
  rw [List.getElem?_take] at hu
  split at hu
  · simpa using hu
  · cases hu

/-- A live row is frozen. -/
theorem SR.freeze (h : SR H φ st w) {id : Nat} {t : TypeId} {K : Kd} {xs : List K.T} (hid : st[id]? = some (.rows t K xs)) :
    ∃ H', H.le H' ∧ SR H' φ (st.set id (.frz K xs)) w ∧ reps (Rep H' K) K.sz H' xs (φ id) ∧ ∀ b, blk (φ id) ≠ some b → H' b = H b := by
  have hlt : id < st.length := (List.getElem?_eq_some_iff.1 hid).1
  obtain ⟨flat, ho, hr⟩ := h.box id _ hid
  let H' : HP := fun b => if blk (φ id) = some b then w.heap[b]? else H b
  have hle : H.le H' := by
    intro b o hb
    by_cases e : blk (φ id) = some b
    · have := h.out id _ hid rfl b e
      rw [this] at hb
      cases hb
    · simp only [H', e, if_false]
      exact hb
  have hread : reps (Rep H' K) K.sz H' xs (φ id) := by
    rcases ho.2 with ⟨e, hn⟩ | ⟨g, cap, cur, e, _, hg, hc, hm, hs, ht⟩
    · have : xs = [] := List.length_eq_zero_iff.1 hn
      subst this
      rw [e]
      exact reps_nil
    · refine ⟨some ⟨g, 0, none⟩, cap, e, hc, .inr ⟨g, 0, cur, t, (0, 0), rfl, ?_, fun j x hx => ?_⟩⟩
      · simp [H', e, blk, hg]
      · obtain ⟨cs, h1, h2, h3⟩ := rowRep_get hr ho.1 hx
        refine ⟨cs, h1.mono hle, h2, fun i u hu => ?_⟩
        have := h3 i u hu
        rw [← ht, List.getElem?_take] at this
        split at this
        · simpa using this
        · cases this
  have get : ∀ k, k ≠ id → (st.set id (.frz K xs))[k]? = st[k]? := fun k hk => by rw [List.getElem?_set]; simp [Ne.symm hk]
  have geti : (st.set id (.frz K xs))[id]? = some (.frz K xs) := by rw [List.getElem?_set]; simp [hlt]
  refine ⟨H', hle, ⟨fun b o hb => ?_, fun k bk hk => ?_, fun i j bi bj hi hj li lj hij => ?_, fun i bi hi li b hb => ?_, fun k cs hk o i ho => ?_⟩, hread, fun b e => by simp [H', e]⟩
  · by_cases e : blk (φ id) = some b
    · simpa [H', e] using hb
    · simp only [H', e, if_false] at hb
      exact h.hp b o hb
  · by_cases e : k = id
    · subst e
      rw [geti] at hk
      cases hk
      refine ⟨hread, fun a n cap e2 => ?_⟩
      rcases ho.2 with ⟨e, _⟩ | ⟨g, cap', cur, e, _⟩
      · rw [e] at e2; cases e2
      · rw [e] at e2; cases e2; exact ⟨rfl, rfl⟩
    · rw [get k e] at hk
      have := h.box k bk hk
      cases bk with
      | var cs => obtain ⟨b, c, el, e1, e2, e3⟩ := this; exact ⟨b, c, el, e1, e2, e3.imp fun _ _ h => h.mono hle⟩
      | rows t' K' xs' => obtain ⟨flat', o', r'⟩ := this; exact ⟨flat', o', fun j x hx => (r' j x hx).mono hle⟩
      | mrow t' K' xs' => obtain ⟨flat', o', r'⟩ := this; exact ⟨flat', o', fun j x hx => (r' j x hx).mono hle⟩
      | frz K' xs' => obtain ⟨r', a'⟩ := this; exact ⟨reps_mono (fun _ _ h => Rep.mono hle h) hle r', a'⟩
      | dead => trivial
  · by_cases ei : i = id
    · subst ei; rw [geti] at hi; cases hi; cases li
    · by_cases ej : j = id
      · subst ej; rw [geti] at hj; cases hj; cases lj
      · rw [get i ei] at hi
        rw [get j ej] at hj
        exact h.sep i j bi bj hi hj li lj hij
  · by_cases ei : i = id
    · subst ei; rw [geti] at hi; cases hi; cases li
    · rw [get i ei] at hi
      have e : blk (φ id) ≠ some b := fun e => h.sep i id bi _ hi hid li rfl ei b hb e
      simp only [H', e, if_false]
      exact h.out i bi hi li b hb
  · by_cases ek : k = id
    · subst ek; rw [geti] at hk; cases hk
    · rw [get k ek] at hk
      obtain ⟨h1, b, h2, h3⟩ := h.cell k cs hk o i ho
      refine ⟨?_, b, h2, h3⟩
      by_cases ei : i = id
      · subst ei; unfold kindAt; rw [geti]; rfl
      · unfold kindAt at h1 ⊢; rw [get i ei]; exact h1

theorem keeps_freeze {id : Nat} {t : TypeId} {K : Kd} {xs : List K.T} (hid : st[id]? = some (.rows t K xs)) : Keeps φ st φ (st.set id (.frz K xs)) none := by
  have hlt : id < st.length := (List.getElem?_eq_some_iff.1 hid).1
  intro i _ _
  by_cases e : i = id
  · subst e
    have e2 : (st.set i (Box.frz K xs))[i]? = some (.frz K xs) := by rw [List.getElem?_set]; simp [hlt]
    refine ⟨rfl, ?_, ?_, ?_⟩
    · simp only [kindAt, hid, e2]
    · simp only [varAt, hid, e2]
    · simp only [holdAt, hid, e2]; rfl
  · refine ⟨rfl, ?_, ?_, ?_⟩
    · simp [kindAt, List.getElem?_set, Ne.symm e]
    · simp [varAt, List.getElem?_set, Ne.symm e]
    · simp [holdAt, List.getElem?_set, Ne.symm e]

/-- Some cells of variables are forgotten. -/
def mapCells (g : AV → AV) : Box → Box
  | .var cs => .var (cs.map g)
  | b => b
theorem cellsOnly_map (g : AV → AV) : CellsOnly (mapCells g) := fun b => by
  cases b <;> first | exact .inl ⟨_, _, rfl, rfl⟩ | exact .inr ⟨rfl, by simp⟩
theorem SR.forget (h : SR H φ st w) {g : AV → AV} (hg : ∀ c, g c = c ∨ (∃ i, g c = .was i) ∨ g c = .undef) : SR H φ (st.map (mapCells g)) w := by
  have get : ∀ (k : Nat) (b : Box), (st.map (mapCells g))[k]? = some b → ∃ b0, st[k]? = some b0 ∧ b = mapCells g b0 ∧ (b.live = b0.live) := by
    intro k b hk
    rw [List.getElem?_map] at hk
    cases hb : st[k]? with
    | none => rw [hb] at hk; cases hk
    | some b0 =>
      rw [hb] at hk
      cases hk
      exact ⟨b0, rfl, rfl, by cases b0 <;> rfl⟩
  refine ⟨h.hp, fun k b hk => ?_, fun i j bi bj hi hj li lj hij => ?_, fun i bi hi li => ?_, fun k cs hk o i ho => ?_⟩
  · obtain ⟨b0, h1, rfl, _⟩ := get k b hk
    have := h.box k b0 h1
    cases b0 with
    | var cs =>
      obtain ⟨b, c, el, e1, e2, e3⟩ := this
      refine ⟨b, c, el, e1, e2, e3.map fun a v hv => ?_⟩
      rcases hg a with e | ⟨i, e⟩ | e
      · rw [e]; exact hv
      · rw [e]; trivial
      · rw [e]; trivial
    | _ => exact this
  · obtain ⟨b0, h1, _, l1⟩ := get i bi hi
    obtain ⟨b1, h2, _, l2⟩ := get j bj hj
    exact h.sep i j b0 b1 h1 h2 (l1 ▸ li) (l2 ▸ lj) hij
  · obtain ⟨b0, h1, _, l1⟩ := get i bi hi
    exact h.out i b0 h1 (l1 ▸ li)
  · obtain ⟨b0, h1, e, _⟩ := get k _ hk
    cases b0 with
    | var cs0 =>
      cases e
      rw [List.getElem?_map] at ho
      cases hc : cs0[o]? with
      | none => rw [hc] at ho; cases ho
      | some c =>
        rw [hc] at ho
        simp only [Option.map_some, Option.some.injEq] at ho
        rcases hg c with e | ⟨j, e⟩ | e
        · rw [e] at ho
          subst ho
          obtain ⟨g1, g2⟩ := h.cell k cs0 h1 o i hc
          exact ⟨by rw [kindAt_map (cellsOnly_map g)]; exact g1, g2⟩
        · rw [e] at ho; cases ho
        · rw [e] at ho; cases ho
    | _ => cases e

theorem kill_map (ids : List Nat) : Box.kill ids = mapCells (AV.killB ids) := by funext b; cases b <;> rfl
theorem killB_cases (ids : List Nat) (c : AV) : AV.killB ids c = c ∨ (∃ i, AV.killB ids c = .was i) ∨ AV.killB ids c = .undef := by
  cases c with
  | row i =>
    simp only [AV.killB]
    split
    · exact .inr (.inl ⟨i, rfl⟩)
    · exact .inl rfl
  | _ => exact .inl rfl
theorem SR.kill (h : SR H φ st w) (ids : List Nat) : SR H φ (st.map (Box.kill ids)) w := by
  rw [kill_map]; exact h.forget (killB_cases ids)
theorem older_map (n : Nat) : Box.older n = mapCells (AV.olderC n) := by funext b; cases b <;> rfl
theorem SR.older (h : SR H φ st w) (n : Nat) : SR H φ (st.map (Box.older n)) w := by
  rw [older_map]
  refine h.forget fun c => ?_
  cases c with
  | row i =>
    simp only [AV.olderC]
    split
    · exact .inl rfl
    · exact .inr (.inr rfl)
  | _ => exact .inl rfl
/-- Behind it no variable refers to these rows. -/
theorem kill_none {ids : List Nat} {k : Nat} {cs : List AV} (h : (st.map (Box.kill ids))[k]? = some (.var cs)) {o i : Nat} (ho : cs[o]? = some (.row i)) : hasN ids i = false := by
  rw [List.getElem?_map] at h
  cases hb : st[k]? with
  | none => rw [hb] at h; cases h
  | some b =>
    rw [hb] at h
    cases b with
    | var cs0 =>
      cases h
      rw [List.getElem?_map] at ho
      cases hc : cs0[o]? with
      | none => rw [hc] at ho; cases ho
      | some c =>
        rw [hc] at ho
        simp only [Option.map_some, Option.some.injEq] at ho
        cases c <;> simp only [AV.killB] at ho <;> try cases ho
        split at ho
        · cases ho
        · rename_i hn
          cases ho
          simpa using hn
    | _ => cases h

end Go.Proofs.Ytnbfkndicldppaa.Core
