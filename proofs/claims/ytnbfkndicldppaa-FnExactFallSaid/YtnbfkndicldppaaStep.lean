/- One step of the interpreter against memory: what it keeps of the relation, and of all memory that is not its own. -/
import Derived.Test.YtnbfkndicldppaaLoad
namespace Go.Proofs.Ytnbfkndicldppaa.Core
open Go

/-- Since the call began (in world w0, with m0 boxes handed to it, the first mv of them variables): all memory but those boxes is as it was. -/
structure Fr (mv m0 : Nat) (H0 : HP) (φ0 : Phi) (w0 : World) (H : HP) (φ : Phi) (st : List Box) (w : World) : Prop where
  os : w.os = w0.os
  tape : w.tape = w0.tape
  output : w.output = w0.output
  size : w0.heap.size ≤ w.heap.size
  old : ∀ b, b < w0.heap.size → (∀ j, j < m0 → blk (φ0 j) ≠ some b) → w.heap[b]? = w0.heap[b]?
  same : ∀ j, j < mv → φ j = φ0 j
  new : ∀ i bi, st[i]? = some bi → bi.live = true → ∀ b, blk (φ i) = some b → w0.heap.size ≤ b ∨ ∃ j, j < m0 ∧ blk (φ0 j) = some b
  vars : ∀ j, j < mv → holdAt st j = true
  frz : ∀ b, b < w0.heap.size → (∀ j, j < m0 → blk (φ0 j) ≠ some b) → H b = H0 b

structure Step (H : HP) (φ : Phi) (st : List Box) (w : World) (H' : HP) (φ' : Phi) (st' : List Box) (w' : World) : Prop where
  le : H.le H'
  sr : SR H' φ' st' w'
  fr : ∀ mv m0 H0 φ0 w0, Fr mv m0 H0 φ0 w0 H φ st w → Fr mv m0 H0 φ0 w0 H' φ' st' w'

variable {H H' : HP} {φ : Phi} {st : List Box} {w w' : World}

theorem Step.refl (h : SR H φ st w) : Step H φ st w H φ st w := ⟨HP.le_refl H, h, fun _ _ _ _ _ h => h⟩
theorem Step.trans {H1 H2 H3 : HP} {φ1 φ2 φ3 : Phi} {st1 st2 st3 : List Box} {w1 w2 w3 : World} (h : Step H1 φ1 st1 w1 H2 φ2 st2 w2) (g : Step H2 φ2 st2 w2 H3 φ3 st3 w3) :
    Step H1 φ1 st1 w1 H3 φ3 st3 w3 := ⟨HP.le_trans h.le g.le, g.sr, fun mv m H0 φ0 w0 f => g.fr mv m H0 φ0 w0 (h.fr mv m H0 φ0 w0 f)⟩

/-- Memory grows, nothing else. -/
theorem Step.grow (h : SR H φ st w) (hg : w.grownBy w' none) : Step H φ st w H φ st w' where
  le := HP.le_refl H
  sr := h.grow hg
  fr mv m0 H0 φ0 w0 f := ⟨hg.os.trans f.os, hg.tape.trans f.tape, hg.output.trans f.output, Nat.le_trans f.size hg.size,
    fun b hb hn => (hg.block b (Nat.lt_of_lt_of_le hb f.size) (by simp)).trans (f.old b hb hn), f.same, f.new, f.vars, f.frz⟩

/-- A box more, of new memory or of none. -/
theorem Step.push (h : SR H φ st w) {v : Value} {bx : Box} (hg : w.grownBy w' none) (hb : BoxR H w' v bx) (hn : bx.live = true → ∀ b, blk v = some b → w.heap.size ≤ b)
    (hc : ∀ (cs : List AV), bx = Box.var cs → ∀ (o i : Nat), cs[o]? = some (AV.row i) → (kindAt st i).isSome = true ∧ ∃ b, v = .pointer (some ⟨b, 0, none⟩) ∧ w'.cell? ⟨b, o, none⟩ = some (φ i)) :
    Step H φ st w H (fun i => if i = st.length then v else φ i) (st ++ [bx]) w' where
  le := HP.le_refl H
  sr := (h.grow hg).push hb (fun hl b hb' => h.fresh (hn hl b hb')) hc
  fr mv m0 H0 φ0 w0 f := by
    refine ⟨hg.os.trans f.os, hg.tape.trans f.tape, hg.output.trans f.output, Nat.le_trans f.size hg.size,
      fun b hb hn => (hg.block b (Nat.lt_of_lt_of_le hb f.size) (by simp)).trans (f.old b hb hn), fun j hj => ?_, fun i bi hbi hl b hb' => ?_, fun j hj => ?_, f.frz⟩
    · have := holdAt_lt (f.vars j hj)
      rw [if_neg (by omega)]
      exact f.same j hj
    · rcases Nat.lt_trichotomy i st.length with e | e | e
      · rw [List.getElem?_append_left e] at hbi
        simp only [Nat.ne_of_lt e, if_false] at hb'
        exact f.new i bi hbi hl b hb'
      · subst e
        simp at hbi
        subst hbi
        simp only [if_true] at hb'
        exact .inl (Nat.le_trans f.size (hn hl b hb'))
      · rw [List.getElem?_eq_none (by simp; omega)] at hbi; cases hbi
    · have := f.vars j hj
      have hl := holdAt_lt this
      unfold holdAt at this ⊢
      rw [List.getElem?_append_left hl]
      exact this

/-- A live box is written, in place or (a row) into new memory. -/
theorem Step.update (h : SR H φ st w) {id : Nat} {bx bx' : Box} {v' : Value} (hid : st[id]? = some bx) (hl : bx.live = true) (hg : w.grownBy w' (blk (φ id)))
    (hb : BoxR H w' v' bx') (hn : ∀ b, blk v' = some b → blk (φ id) = some b ∨ w.heap.size ≤ b) (hsame : (bx'.hold = true ∧ v' = φ id) ∨ holdAt st id = false)
    (hr : ∀ (k : Nat) (cs : List AV), st[k]? = some (Box.var cs) → ∀ (o : Nat), cs[o]? = some (AV.row id) → v' = φ id ∧ (kindAt (st.set id bx') id).isSome = true)
    (hc : ∀ (cs : List AV), bx' = Box.var cs → ∀ (o i : Nat), cs[o]? = some (AV.row i) → i ≠ id ∧ (kindAt st i).isSome = true ∧ ∃ b, v' = .pointer (some ⟨b, 0, none⟩) ∧ w'.cell? ⟨b, o, none⟩ = some (φ i)) :
    Step H φ st w H (fun i => if i = id then v' else φ i) (st.set id bx') w' where
  le := HP.le_refl H
  sr := h.update hid hl hg hb hn hr hc
  fr mv m0 H0 φ0 w0 f := by
    have hlt : id < st.length := (List.getElem?_eq_some_iff.1 hid).1
    have hm : holdAt st id = false → mv ≤ id := fun e => by
      rcases Nat.lt_or_ge id mv with hi | hi
      · have := f.vars id hi; rw [e] at this; cases this
      · exact hi
    refine ⟨hg.os.trans f.os, hg.tape.trans f.tape, hg.output.trans f.output, Nat.le_trans f.size hg.size, fun b hb' hn' => ?_, fun j hj => ?_, fun i bi hbi hli b hb' => ?_, fun j hj => ?_, f.frz⟩
    · rw [hg.block b (Nat.lt_of_lt_of_le hb' f.size) (fun e => ?_)]
      · exact f.old b hb' hn'
      · rcases f.new id bx hid hl b e.symm with g | ⟨j, g1, g2⟩
        · omega
        · exact hn' j g1 g2
    · by_cases e : j = id
      · subst e
        rcases hsame with ⟨_, e2⟩ | e2
        · rw [if_pos rfl, e2]; exact f.same j hj
        · have := hm e2; omega
      · rw [if_neg e]; exact f.same j hj
    · by_cases e : i = id
      · subst e
        simp only [if_true] at hb'
        rcases hn b hb' with e2 | e2
        · exact f.new i bx hid hl b e2
        · exact .inl (Nat.le_trans f.size e2)
      · rw [List.getElem?_set, if_neg (Ne.symm e)] at hbi
        simp only [e, if_false] at hb'
        exact f.new i bi hbi hli b hb'
    · by_cases e : j = id
      · subst e
        rcases hsame with ⟨e2, _⟩ | e2
        · unfold holdAt; rw [List.getElem?_set]; simp [hlt, e2]
        · have := hm e2; omega
      · have := f.vars j hj
        unfold holdAt at this ⊢
        rw [List.getElem?_set, if_neg (Ne.symm e)]
        exact this

/-- A live row is frozen. -/
theorem Step.freeze (h : SR H φ st w) {id : Nat} {t : TypeId} {K : Kd} {xs : List K.T} (hid : st[id]? = some (.rows t K xs)) :
    ∃ H', Step H φ st w H' φ (st.set id (.frz K xs)) w ∧ reps (Rep H' K) K.sz H' xs (φ id) ∧ ∀ b, blk (φ id) ≠ some b → H' b = H b := by
  obtain ⟨H', h1, h2, h3, h4⟩ := h.freeze hid
  have hlt : id < st.length := (List.getElem?_eq_some_iff.1 hid).1
  refine ⟨H', ⟨h1, h2, fun mv m0 H0 φ0 w0 f => ⟨f.os, f.tape, f.output, f.size, f.old, f.same, fun i bi hbi hli => ?_, fun j hj => ?_, fun b hb hn => ?_⟩⟩, h3, h4⟩
  · by_cases e : i = id
    · subst e
      rw [List.getElem?_set] at hbi
      simp [hlt] at hbi
      subst hbi
      cases hli
    · rw [List.getElem?_set, if_neg (Ne.symm e)] at hbi
      exact f.new i bi hbi hli
  · have hv := f.vars j hj
    by_cases e : j = id
    · subst e; unfold holdAt at hv; rw [hid] at hv; cases hv
    · unfold holdAt at hv ⊢
      rw [List.getElem?_set, if_neg (Ne.symm e)]
      exact hv
  · rw [h4 b fun e => ?_]
    · exact f.frz b hb hn
    · rcases f.new id _ hid rfl b e with g | ⟨j, g1, g2⟩
      · omega
      · exact hn j g1 g2

/-- Cells of variables are forgotten. -/
theorem Step.kill (h : SR H φ st w) (ids : List Nat) : Step H φ st w H φ (st.map (Box.kill ids)) w where
  le := HP.le_refl H
  sr := h.kill ids
  fr mv m0 H0 φ0 w0 f := by
    refine ⟨f.os, f.tape, f.output, f.size, f.old, f.same, fun i bi hbi hli => ?_, fun j hj => ?_, f.frz⟩
    · rw [List.getElem?_map] at hbi
      cases hb : st[i]? with
      | none => rw [hb] at hbi; cases hbi
      | some b0 =>
        rw [hb] at hbi
        cases hbi
        exact f.new i b0 hb (by cases b0 <;> exact hli)
    · rw [holdAt_map (cellsOnly_kill ids)]; exact f.vars j hj

/-- The store is told otherwise, memory stays: each live box is one that was, or has no memory. -/
theorem Step.pick (h : SR H φ st w) {φ2 : Phi} {st2 : List Box} (μ : Nat → Nat) (hb : ∀ (k : Nat) (b2 : Box), st2[k]? = some b2 → BoxR H w (φ2 k) b2)
    (hl : ∀ (k : Nat) (b2 : Box), st2[k]? = some b2 → b2.live = true → blk (φ2 k) = none ∨ ∃ b, st[μ k]? = some b ∧ b.live = true ∧ φ2 k = φ (μ k))
    (inj : ∀ (k k' : Nat) (b2 b2' : Box), st2[k]? = some b2 → st2[k']? = some b2' → b2.live = true → b2'.live = true → blk (φ2 k) ≠ none → blk (φ2 k') ≠ none → μ k = μ k' → k = k')
    (hc : ∀ (id : Nat) (cs : List AV), st2[id]? = some (Box.var cs) → ∀ (o i : Nat), cs[o]? = some (AV.row i) → (kindAt st2 i).isSome = true ∧ ∃ b, φ2 id = .pointer (some ⟨b, 0, none⟩) ∧ w.cell? ⟨b, o, none⟩ = some (φ2 i)) :
    SR H φ2 st2 w := by
  refine ⟨h.hp, hb, fun i j bi bj hi hj li lj hij b hbi hbj => ?_, fun i bi hi li b hbi => ?_, hc⟩
  · rcases hl i bi hi li with e | ⟨b1, g1, g2, g3⟩
    · rw [e] at hbi; cases hbi
    rcases hl j bj hj lj with e | ⟨b2, k1, k2, k3⟩
    · rw [e] at hbj; cases hbj
    have hne : μ i ≠ μ j := fun e => hij (inj i j bi bj hi hj li lj (by rw [hbi]; simp) (by rw [hbj]; simp) e)
    rw [g3] at hbi
    rw [k3] at hbj
    exact h.sep _ _ b1 b2 g1 k1 g2 k2 hne b hbi hbj
  · rcases hl i bi hi li with e | ⟨b1, g1, g2, g3⟩
    · rw [e] at hbi; cases hbi
    rw [g3] at hbi
    exact h.out _ b1 g1 g2 b hbi

theorem Step.ghost (h : SR H φ st w) {φ2 : Phi} {st2 : List Box} (μ : Nat → Nat) (hsr : SR H φ2 st2 w)
    (hl : ∀ (k : Nat) (b2 : Box), st2[k]? = some b2 → b2.live = true → blk (φ2 k) = none ∨ ∃ b, st[μ k]? = some b ∧ b.live = true ∧ φ2 k = φ (μ k))
    (hv : ∀ j, holdAt st j = true → φ2 j = φ j ∧ holdAt st2 j = true) : Step H φ st w H φ2 st2 w where
  le := HP.le_refl H
  sr := hsr
  fr mv m0 H0 φ0 w0 f := by
    refine ⟨f.os, f.tape, f.output, f.size, f.old, fun j hj => (hv j (f.vars j hj)).1.trans (f.same j hj), fun i bi hi li b hb => ?_, fun j hj => (hv j (f.vars j hj)).2, f.frz⟩
    rcases hl i bi hi li with e | ⟨b1, g1, g2, g3⟩
    · rw [e] at hb; cases hb
    · rw [g3] at hb
      exact f.new _ b1 g1 g2 b hb

theorem keep_step {s s' : St} {a a' : AV} {v : Value} (hs : SR H φ s.st w) (hv : VC H φ s.st a v) (h : s.keep a = some (a', s')) :
    ∃ H', Step H φ s.st w H' φ s'.st w ∧ Keeps φ s.st φ s'.st none ∧ VF H' a' v ∧ s'.fr = s.fr ∧ s'.st.length = s.st.length := by
  cases a with
  | int k n => cases h; exact ⟨H, Step.refl hs, Keeps.refl _ _ _, hv, rfl, rfl⟩
  | bool b => cases h; exact ⟨H, Step.refl hs, Keeps.refl _ _ _, hv, rfl, rfl⟩
  | str b => cases h; exact ⟨H, Step.refl hs, Keeps.refl _ _ _, hv, rfl, rfl⟩
  | nil => cases h; exact ⟨H, Step.refl hs, Keeps.refl _ _ _, hv, rfl, rfl⟩
  | lst K xs => cases h; exact ⟨H, Step.refl hs, Keeps.refl _ _ _, hv, rfl, rfl⟩
  | fn f caps =>
    cases caps with
    | nil => cases h; exact ⟨H, Step.refl hs, Keeps.refl _ _ _, hv, rfl, rfl⟩
    | cons _ _ => cases h
  | clo f K x => cases h; exact ⟨H, Step.refl hs, Keeps.refl _ _ _, hv, rfl, rfl⟩
  | row id =>
    simp only [St.keep] at h
    obtain ⟨e, _⟩ := hv
    subst e
    cases hb : s.st[id]? with
    | none => rw [hb] at h; cases h
    | some bx =>
      rw [hb] at h
      cases bx with
      | rows t K xs =>
        cases h
        obtain ⟨H', h1, h3, _⟩ := Step.freeze hs hb
        exact ⟨H', h1, keeps_freeze hb, h3, rfl, by simp⟩
      | frz K xs =>
        cases h
        exact ⟨H, Step.refl hs, Keeps.refl _ _ _, (hs.box id _ hb).1, rfl, rfl⟩
      | mrow t K xs => cases h
      | var cs => cases h
      | dead => cases h
  | _ => cases h

theorem keepAll_step : ∀ {as as' : List AV} {s s' : St} {H : HP} {vs : List Value}, SR H φ s.st w → All2 (VC H φ s.st) as vs → s.keepAll as = some (as', s') →
    ∃ H', Step H φ s.st w H' φ s'.st w ∧ Keeps φ s.st φ s'.st none ∧ VFs H' as' vs ∧ s'.fr = s.fr ∧ s'.st.length = s.st.length
  | [], as', s, s', H, vs, hs, hv, h => by
    cases h
    cases hv
    exact ⟨H, Step.refl hs, Keeps.refl _ _ _, rfl, rfl, rfl⟩
  | a :: as, as', s, s', H, vs, hs, hv, h => by
    obtain ⟨v, r, rfl, h1, h2⟩ := hv
    simp only [St.keepAll] at h
    cases hk : s.keep a with
    | none => rw [hk] at h; cases h
    | some x =>
      obtain ⟨a', s1⟩ := x
      rw [hk] at h
      simp only [Option.bind_some] at h
      obtain ⟨H1, g1, k1, f1, e1, n1⟩ := keep_step hs h1 hk
      cases hq : s1.keepAll as with
      | none => rw [hq] at h; cases h
      | some y =>
        obtain ⟨b', s2⟩ := y
        rw [hq] at h
        cases h
        obtain ⟨H2, g2, k2, f2, e2, n2⟩ := keepAll_step g1.sr (h2.imp fun _ _ h => h.mono g1.le k1) hq
        exact ⟨H2, g1.trans g2, k1.trans k2, ⟨v, r, rfl, f1.mono g2.le, f2⟩, e2.trans e1, n2.trans n1⟩

/-- The cells of a temporary's value, kept for good. -/
theorem keepCells_step {a : AV} {as' : List AV} {s s' : St} {v : Value} (hs : SR H φ s.st w) (hv : VA H φ s.st a v) (h : s.keepAll a.cells = some (as', s')) :
    ∃ H', Step H φ s.st w H' φ s'.st w ∧ Keeps φ s.st φ s'.st none ∧ VFs H' as' v.cells.toList ∧ s'.fr = s.fr ∧ s'.st.length = s.st.length := by
  rcases hv.cases with ⟨cs, arr, rfl, rfl, hc⟩ | ⟨vs, arr, rfl, _, _⟩ | hc
  · exact keepAll_step hs hc h
  · simp [AV.cells, St.keepAll, St.keep] at h
  · have hcell : a.cells = [a] := by
      cases a <;> first | rfl | exact hc.elim
    rw [hcell] at h
    obtain ⟨H', g, k, f, e, n⟩ := keepAll_step (vs := [v]) hs (show All2 (VC H φ s.st) [a] [v] from ⟨v, [], rfl, hc, rfl⟩) h
    refine ⟨H', g, k, ?_, e, n⟩
    cases as' with
    | nil => cases f
    | cons b bs =>
      obtain ⟨v', r, e1, e2, e3⟩ := f
      cases e1
      rw [e2.cells]
      exact ⟨v, [], rfl, e2, e3⟩

theorem VF.oneCell {a : AV} {v : Value} (h : VF H a v) : v.oneCell' = true := by
  cases a with
  | int k n => simp only [VF] at h; subst h; rfl
  | bool b => simp only [VF] at h; subst h; rfl
  | str s => simp only [VF] at h; subst h; rfl
  | nil => simp only [VF] at h; subst h; rfl
  | lst K xs => obtain ⟨a, cap, e, _⟩ := h; subst e; rfl
  | fn f caps => obtain ⟨_, e⟩ := h; subst e; rfl
  | clo f K x => obtain ⟨b, o, c, el, fz, e, _⟩ := h; subst e; rfl
  | _ => exact h.elim
theorem VFs.oneCell : ∀ {as : List AV} {vs : List Value}, VFs H as vs → ∀ v ∈ vs, v.oneCell' = true
  | [], _, h, v, hv => by cases h; cases hv
  | _ :: _, _, ⟨u, r, e, h, hr⟩, v, hv => by
    subst e
    cases hv with
    | head => exact h.oneCell
    | tail _ hm => exact VFs.oneCell hr v hm

end Go.Proofs.Ytnbfkndicldppaa.Core
