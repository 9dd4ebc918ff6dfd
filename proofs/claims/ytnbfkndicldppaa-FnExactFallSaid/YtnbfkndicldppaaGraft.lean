/- A call's border: the callee's store out of its caller's, and back. -/
import Derived.Test.YtnbfkndicldppaaOpen
namespace Go.Proofs.Ytnbfkndicldppaa.Core
open Go

variable {H : HP} {φ : Phi} {st : List Box} {w w' : World} {P : Program}

/-- Lent rows are frozen as long as the call lasts. -/
theorem lend (hs : SR H φ st w) : ∀ (bors : List Nat), (∀ i ∈ bors, ∃ (t : TypeId) (K : Kd), ∃ xs : List (Kd.T K), st[i]? = some (Box.rows t K xs)) →
    ∃ H1 st1, H.le H1 ∧ SR H1 φ st1 w ∧ (∀ b, (∀ i ∈ bors, blk (φ i) ≠ some b) → H1 b = H b) ∧ (∀ i, i ∉ bors → st1[i]? = st[i]?) ∧
      (∀ i ∈ bors, ∀ (t : TypeId) (K : Kd) (xs : List (Kd.T K)), st[i]? = some (Box.rows t K xs) → reps (Rep H1 K) K.sz H1 xs (φ i))
  | [], _ => ⟨H, st, HP.le_refl H, hs, fun _ _ => rfl, fun _ _ => rfl, fun i hi => by cases hi⟩
  | i :: r, hl => by
    obtain ⟨H1, st1, h1, h2, h3, h4, h5⟩ := lend hs r fun j hj => hl j (by simp [hj])
    by_cases hir : i ∈ r
    · refine ⟨H1, st1, h1, h2, fun b hb => h3 b fun j hj => hb j (by simp [hj]), fun j hj => h4 j fun h => hj (by simp [h]), fun j hj => ?_⟩
      rcases List.mem_cons.1 hj with rfl | hj
      · exact h5 _ hir
      · exact h5 _ hj
    · obtain ⟨t, K, xs, hi⟩ := hl i (by simp)
      have hi1 : st1[i]? = some (.rows t K xs) := (h4 i hir).trans hi
      obtain ⟨H2, g1, g2, g3, g4⟩ := h2.freeze hi1
      refine ⟨H2, _, HP.le_trans h1 g1, g2, fun b hb => ?_, fun j hj => ?_, fun j hj t' K' xs' hj' => ?_⟩
      · rw [g4 b (hb i (by simp)), h3 b fun j hj => hb j (by simp [hj])]
      · rw [List.getElem?_set, if_neg (fun e => hj (by simp [e]))]
        exact h4 j fun h => hj (by simp [h])
      · by_cases e : j = i
        · subst e
          rw [hi] at hj'
          cases hj'
          exact g3
        · have hjr : j ∈ r := by rcases List.mem_cons.1 hj with h | h; exact absurd h e; exact h
          exact reps_mono (fun _ _ h => Rep.mono g1 h) g1 (h5 j hjr t' K' xs' hj')

/-- What boxes that are handed over hold. -/
structure BoxesFacts (st : List Box) (ids : List (Nat × Kd)) (bx : List AV) (owns : List Nat) : Prop where
  len : bx.length = ids.length
  cnt : newCount (cellsOO bx) = owns.length
  kd : ∀ (j : Nat) (v : AV), bx[j]? = some v → ∃ p, ids[j]? = some p ∧ ∃ x : Kd.T p.2, v = Kd.av p.2 x
  rows : ∀ (m : Nat) (b : Box), (openB (cellsOO bx))[m]? = some b → ∃ (i : Nat) (t : TypeId) (e : Kd), ∃ xs : List (Kd.T e), owns[m]? = some i ∧ st[i]? = some (Box.rows t e xs) ∧ b = Box.rows t e xs
  vars : ∀ (k j : Nat) (v : AV), bx[j]? = some v → ∃ p : Nat × Kd, ids[j]? = some p ∧ ((∃ cs ecs : List AV, p.2.isOwn = false ∧ st[p.1]? = some (Box.var cs) ∧ boxO (k + newCount (cellsOO (bx.take j))) v = .var ecs ∧ ecs.length = cs.length ∧ ∀ (o : Nat) (a : AV), ecs[o]? = some a →
    ∃ c, cs[o]? = some c ∧ ((∃ m i : Nat, a = AV.row (k + m) ∧ owns[m]? = some i ∧ c = AV.row i) ∨ (a.solid = true ∧ c.solid = true ∧ ∀ (H : HP) (u : Value), VF H c u → VF H a u))) ∨
    (∃ (t : TypeId) (e : Kd), ∃ xs : List (Kd.T e), p.2 = .own t e ∧ (st[p.1]? = some (Box.rows t e xs) ∨ st[p.1]? = some (Box.mrow t e xs)) ∧ boxO (k + newCount (cellsOO (bx.take j))) v = .mrow t e xs))

theorem BoxesFacts.mut {st : List Box} {ids : List (Nat × Kd)} {bx : List AV} {owns : List Nat} (f : BoxesFacts st ids bx owns) {b : Nat} {t : TypeId} {e : Kd} {xs : List e.T} (hb : st[b]? = some (Box.rows t e xs) ∨ st[b]? = some (Box.mrow t e xs)) :
    BoxesFacts st ((b, .own t e) :: ids) (.new t e xs :: bx) owns := by
  have hco : ∀ vs, cellsOO (AV.new t e xs :: vs) = cellsOO vs := fun vs => rfl
  refine ⟨by simp [f.len], by rw [hco]; exact f.cnt, fun j v hj => ?_, fun m b hb => ?_, fun k j v hj => ?_⟩
  · cases j with
    | zero => simp at hj; subst hj; exact ⟨(b, .own t e), rfl, xs, rfl⟩
    | succ j => simpa using f.kd j v (by simpa using hj)
  · rw [hco] at hb; exact f.rows m _ hb
  · cases j with
    | zero => simp at hj; subst hj; exact ⟨(b, .own t e), rfl, .inr ⟨t, e, xs, rfl, hb, rfl⟩⟩
    | succ j =>
      obtain ⟨p, g1, g2⟩ := f.vars k j v (by simpa using hj)
      exact ⟨p, by simpa using g1, by rw [List.take_succ_cons, hco]; exact g2⟩

theorem boxesOf_ok {st : List Box} : ∀ {ids : List (Nat × Kd)} {bx : List AV} {owns : List Nat}, boxesOf st ids = some (bx, owns) → BoxesFacts st ids bx owns
  | [], bx, owns, h => by
    cases h
    exact ⟨rfl, rfl, fun j v h => by simp at h, fun m b h => by simp [cellsOO, openB] at h, fun k j v h => by simp at h⟩
  | (b, K) :: ids, bx, owns, h => by
    have mu : ∀ (t : TypeId) (e : Kd) (xs : List e.T), st[b]? = some (Box.rows t e xs) ∨ st[b]? = some (Box.mrow t e xs) → (if Kd.own t e = K then (boxesOf st ids).bind fun r => some (AV.new t e xs :: r.1, r.2) else none) = some (bx, owns) → BoxesFacts st ((b, K) :: ids) bx owns := by
      intro t e xs hb h'
      split at h'
      · rename_i hK
        subst hK
        cases h3 : boxesOf st ids with
        | none => rw [h3] at h'; cases h'
        | some r =>
          obtain ⟨bx', o2⟩ := r
          rw [h3] at h'
          cases h'
          exact (boxesOf_ok h3).mut hb
      · cases h'
    simp only [boxesOf] at h
    split at h
    · rename_i cs hcs
      split at h
      · cases h
      rename_i hno
      have hno : K.isOwn = false := by simpa using hno
      cases h1 : closeC st K.leaves cs with
      | none => rw [h1] at h; cases h
      | some y =>
        obtain ⟨cl, o1⟩ := y
        rw [h1] at h
        simp only [Option.bind_some] at h
        cases h2 : K.ofCells cl with
        | none => rw [h2] at h; cases h
        | some x =>
          rw [h2] at h
          simp only [Option.bind_some] at h
          cases h3 : boxesOf st ids with
          | none => rw [h3] at h; cases h
          | some r =>
            obtain ⟨bx', o2⟩ := r
            rw [h3] at h
            cases h
            have f := boxesOf_ok h3
            have c := closeC_ok h1
            have ecl : cl = K.enc x := by
              have := dec_enc K cl [] x c.nf (ofCells_dec h2)
              simpa using this
            have hcells : (K.av x).cellsO = cl := by rw [(av_cellsO x hno).1, ecl]
            have hco : ∀ vs, cellsOO (K.av x :: vs) = cl ++ cellsOO vs := fun vs => by simp [cellsOO, hcells]
            refine ⟨by simp [f.len], by rw [hco, newCount_append, c.cnt, f.cnt, List.length_append], fun j v hj => ?_, fun m b hb => ?_, fun k j v hj => ?_⟩
            · cases j with
              | zero => simp at hj; subst hj; exact ⟨(b, K), rfl, x, rfl⟩
              | succ j => simpa using f.kd j v (by simpa using hj)
            · rw [hco, openB_append] at hb
              rcases Nat.lt_or_ge m (openB cl).length with hm | hm
              · rw [List.getElem?_append_left hm] at hb
                obtain ⟨i, t, e, xs, g1, g2⟩ := c.boxes m b hb
                exact ⟨i, t, e, xs, by rw [List.getElem?_append_left (List.getElem?_eq_some_iff.1 g1).1]; exact g1, g2⟩
              · rw [List.getElem?_append_right hm] at hb
                obtain ⟨i, t, e, xs, g1, g2⟩ := f.rows _ b hb
                rw [openB_length, c.cnt] at hm g1
                exact ⟨i, t, e, xs, by rw [List.getElem?_append_right hm]; exact g1, g2⟩
            · cases j with
              | zero =>
                simp at hj
                subst hj
                refine ⟨(b, K), rfl, .inl ⟨cs, openC k cl, hno, hcs, by rw [(av_cellsO x hno).2, ← ecl]; simp [cellsOO, newCount], by rw [openC_length]; exact c.len, fun o a ha => ?_⟩⟩
                obtain ⟨q, q1, q2⟩ := c.cells k o a ha
                refine ⟨q, q1, ?_⟩
                rcases q2 with ⟨m, i, e1, e2, e3⟩ | q2
                · exact .inl ⟨m, i, e1, by rw [List.getElem?_append_left (List.getElem?_eq_some_iff.1 e2).1]; exact e2, e3⟩
                · exact .inr q2
              | succ j =>
                obtain ⟨p, g1, gg⟩ := f.vars (k + o1.length) j v (by simpa using hj)
                have et : k + newCount (cellsOO ((K.av x :: bx').take (j + 1))) = k + o1.length + newCount (cellsOO (bx'.take j)) := by rw [List.take_succ_cons, hco, newCount_append, c.cnt, ← Nat.add_assoc]
                refine ⟨p, by simpa using g1, ?_⟩
                rw [et]
                rcases gg with ⟨cs', ecs, g0, g2, g25, g3, g4⟩ | gg
                rotate_left
                · exact .inr gg
                refine .inl ⟨cs', ecs, g0, g2, g25, g3, fun o a ha => ?_⟩
                obtain ⟨q, q1, q2⟩ := g4 o a ha
                refine ⟨q, q1, ?_⟩
                rcases q2 with ⟨m, i, e1, e2, e3⟩ | q2
                · refine .inl ⟨o1.length + m, i, by rw [e1, Nat.add_assoc], ?_, e3⟩
                  rw [List.getElem?_append_right (by omega)]
                  simpa using e2
                · exact .inr q2
    · rename_i t e xs hb
      exact mu t e xs (.inl hb) h
    · rename_i t e xs hb
      exact mu t e xs (.inr hb) h
    · cases h

/-- The callee's boxes, one by one, out of the caller's: 'ml' tells which. -/
structure Entry (st : List Box) (nv : Nat) (ml : List Nat) (est : List Box) : Prop where
  len : est.length = ml.length
  nvl : nv ≤ ml.length
  get : ∀ (k : Nat) (b : Box), est[k]? = some b → ∃ i, ml[k]? = some i ∧ ((k < nv ∧ ∃ cs ecs : List AV, st[i]? = some (Box.var cs) ∧ b = Box.var ecs ∧ ecs.length = cs.length ∧ ∀ (o : Nat) (a : AV), ecs[o]? = some a →
      ∃ c, cs[o]? = some c ∧ ((∃ q j : Nat, a = AV.row q ∧ ml[q]? = some j ∧ c = AV.row j ∧ nv ≤ q) ∨ (a.solid = true ∧ c.solid = true ∧ ∀ (H : HP) (u : Value), VF H c u → VF H a u))) ∨
    (nv ≤ k ∧ ∃ (t : TypeId) (e : Kd), ∃ xs : List (Kd.T e), st[i]? = some (Box.rows t e xs) ∧ b = Box.rows t e xs) ∨
    (k < nv ∧ ∃ (t : TypeId) (e : Kd), ∃ xs : List (Kd.T e), (st[i]? = some (Box.rows t e xs) ∨ st[i]? = some (Box.mrow t e xs)) ∧ b = Box.mrow t e xs))

theorem entry_of {ids : List (Nat × Kd)} {bx args : List AV} {owns movs : List Nat} (f : BoxesFacts st ids bx owns) (hc : newCount (cellsOf args) = movs.length)
    (hm : ∀ (m : Nat) (b : Box), (openB (cellsOf args))[m]? = some b → ∃ (i : Nat) (t : TypeId) (e : Kd), ∃ xs : List (Kd.T e), movs[m]? = some i ∧ st[i]? = some (Box.rows t e xs) ∧ b = Box.rows t e xs) :
    Entry st ids.length (ids.map (·.1) ++ owns ++ movs) (exitSt bx args) := by
  refine ⟨by rw [exitSt_length, f.len, f.cnt, hc]; simp [Nat.add_assoc], by simp [Nat.add_assoc], fun k b hk => ?_⟩
  rw [exitSt_eq] at hk
  rcases Nat.lt_or_ge k bx.length with hl | hl
  · rw [List.getElem?_append_left (by rw [openVars_length]; exact hl), openVars_get bx _ k bx[k] (by simp)] at hk
    cases hk
    obtain ⟨p, g1, gg⟩ := f.vars bx.length k bx[k] (by simp)
    have hk2 : k < ids.length := by rw [← f.len]; exact hl
    refine ⟨p.1, by rw [List.append_assoc, List.getElem?_append_left (by simpa using hk2), List.getElem?_map, g1]; rfl, ?_⟩
    rcases gg with ⟨cs, ecs, _, g2, g25, g3, g4⟩ | ⟨t, e, xs, _, g2, g25⟩
    rotate_left
    · exact .inr (.inr ⟨hk2, t, e, xs, g2, g25⟩)
    refine .inl ⟨hk2, cs, ecs, g2, g25, g3, fun o a ha => ?_⟩
    obtain ⟨c, c1, c2⟩ := g4 o a ha
    refine ⟨c, c1, ?_⟩
    rcases c2 with ⟨m, i, e1, e2, e3⟩ | c2
    · refine .inl ⟨bx.length + m, i, e1, ?_, e3, by rw [f.len]; omega⟩
      rw [f.len, List.append_assoc, List.getElem?_append_right (by simp)]
      simp only [List.length_map, Nat.add_sub_cancel_left]
      rw [List.getElem?_append_left (List.getElem?_eq_some_iff.1 e2).1]
      exact e2
    · exact .inr c2
  · rw [List.getElem?_append_right (by rw [openVars_length]; exact hl), openVars_length] at hk
    rw [openB_append] at hk
    have hk2 : ids.length ≤ k := by rw [← f.len]; exact hl
    have e0 : k - bx.length = k - ids.length := by rw [f.len]
    rw [e0] at hk
    have hidx : (ids.map (·.1) ++ owns ++ movs)[k]? = (owns ++ movs)[k - ids.length]? := by
      rw [List.append_assoc, List.getElem?_append_right (by simpa using hk2)]
      simp
    rcases Nat.lt_or_ge (k - ids.length) (openB (cellsOO bx)).length with h1 | h1
    · rw [List.getElem?_append_left h1] at hk
      obtain ⟨i, t, e, xs, g1, g2, g3⟩ := f.rows _ b hk
      exact ⟨i, by rw [hidx, List.getElem?_append_left (List.getElem?_eq_some_iff.1 g1).1]; exact g1, .inr (.inl ⟨hk2, t, e, xs, g2, g3⟩)⟩
    · rw [List.getElem?_append_right h1] at hk
      obtain ⟨i, t, e, xs, g1, g2, g3⟩ := hm _ b hk
      rw [openB_length, f.cnt] at h1 g1
      exact ⟨i, by rw [hidx, List.getElem?_append_right h1]; exact g1, .inr (.inl ⟨hk2, t, e, xs, g2, g3⟩)⟩

theorem Entry.at {nv : Nat} {ml : List Nat} {est : List Box} (h : Entry st nv ml est) {k i : Nat} (hk : ml[k]? = some i) : ∃ b, est[k]? = some b := by
  have : k < est.length := by rw [h.len]; exact (List.getElem?_eq_some_iff.1 hk).1
  exact ⟨est[k], by simp⟩

theorem getD_of {ml : List Nat} {k i : Nat} (h : ml[k]? = some i) : ml.getD k 0 = i := by simp [List.getD, h]

/-- The callee's store stands for memory. -/
theorem Entry.sr {nv : Nat} {ml : List Nat} {est st1 : List Box} {H1 : HP} (h : Entry st nv ml est) (hd : ml.Nodup) (hs : SR H1 φ st1 w) (hsame : ∀ i ∈ ml, st1[i]? = st[i]?) :
    SR H1 (fun k => φ (ml.getD k 0)) est w := by
  have old : ∀ {k i : Nat}, ml[k]? = some i → st1[i]? = st[i]? := fun hk => hsame _ (List.mem_of_getElem? hk)
  refine Step.pick hs (fun k => ml.getD k 0) (fun k b hk => ?_) (fun k b hk hl => .inr ?_) (fun k k' b b' hk hk' _ _ _ _ e => ?_) (fun k ecs hk o q hq => ?_)
  · obtain ⟨i, hi, hc⟩ := h.get k b hk
    simp only [getD_of hi]
    rcases hc with ⟨_, cs, ecs, g1, rfl, g3, g4⟩ | ⟨_, t, e, xs, g1, rfl⟩ | ⟨_, t, e, xs, g1, rfl⟩
    · obtain ⟨b0, c, el, e1, e2, e3⟩ := hs.box i _ ((old hi).trans g1)
      refine ⟨b0, c, el, e1, e2, all2_of (by rw [e3.length, g3]) fun o a u ha hu => ?_⟩
      obtain ⟨c0, c1, c2⟩ := g4 o a ha
      rcases c2 with ⟨q, j, rfl, _⟩ | ⟨s1, s2, s3⟩
      · trivial
      · have hw := e3.at c1 hu
        have hf : VF H1 c0 u := by cases c0 <;> first | exact hw | cases s2
        exact VW.of_VF (s3 H1 u hf)
    · exact hs.box i _ ((old hi).trans g1)
    · rcases g1 with g1 | g1
      · have h : BoxR H1 w (φ i) (.rows t e xs) := hs.box i _ ((old hi).trans g1)
        exact h
      · exact hs.box i _ ((old hi).trans g1)
  · obtain ⟨i, hi, hc⟩ := h.get k b hk
    simp only [getD_of hi]
    rcases hc with ⟨_, cs, ecs, g1, rfl, g3, g4⟩ | ⟨_, t, e, xs, g1, rfl⟩ | ⟨_, t, e, xs, g1, rfl⟩
    · exact ⟨_, (old hi).trans g1, rfl, trivial⟩
    · exact ⟨_, (old hi).trans g1, rfl, trivial⟩
    · rcases g1 with g1 | g1
      · exact ⟨_, (old hi).trans g1, rfl, trivial⟩
      · exact ⟨_, (old hi).trans g1, rfl, trivial⟩
  · obtain ⟨i, hi, _⟩ := h.get k b hk
    obtain ⟨i', hi', _⟩ := h.get k' b' hk'
    simp only [getD_of hi, getD_of hi'] at e
    subst e
    exact (List.getElem?_inj (List.getElem?_eq_some_iff.1 hi).1 hd).1 (hi.trans hi'.symm)
  · obtain ⟨i, hi, hc⟩ := h.get k _ hk
    rcases hc with ⟨_, cs, ecs', g1, e, g3, g4⟩ | ⟨_, t, e, xs, g1, e2⟩ | ⟨_, t, e, xs, g1, e2⟩
    · cases e
      obtain ⟨c0, c1, c2⟩ := g4 o _ hq
      rcases c2 with ⟨q', j, e, hj, rfl, hle⟩ | ⟨s1, _⟩
      · cases e
        obtain ⟨d1, b0, d2, d3⟩ := hs.cell i cs ((old hi).trans g1) o j c1
        obtain ⟨bq, hbq⟩ := h.at hj
        obtain ⟨j', hj', hcq⟩ := h.get q bq hbq
        refine ⟨?_, b0, by simp only [getD_of hi]; exact d2, by simp only [getD_of hj]; exact d3⟩
        rcases hcq with ⟨hlt, _⟩ | ⟨_, t, e, xs, _, rfl⟩ | ⟨hlt, _⟩
        · omega
        · simp only [kindAt, hbq]; rfl
        · omega
      · cases s1
    · cases e2
    · cases e2

theorem Entry.fr {nv : Nat} {ml : List Nat} {est : List Box} {H1 : HP} (h : Entry st nv ml est) (φ2 : Phi) : Fr nv ml.length H1 φ2 w H1 φ2 est w := by
  refine ⟨rfl, rfl, rfl, Nat.le_refl _, fun _ _ _ => rfl, fun _ _ => rfl, fun k b hk hl b0 hb => .inr ⟨k, ?_, hb⟩, fun j hj => ?_, fun _ _ _ => rfl⟩
  · rw [← h.len]; exact (List.getElem?_eq_some_iff.1 hk).1
  · have hj2 : j < est.length := by rw [h.len]; exact Nat.lt_of_lt_of_le hj h.nvl
    obtain ⟨i, hi, hc⟩ := h.get j est[j] (by simp)
    rcases hc with ⟨_, cs, ecs, _, e, _⟩ | ⟨hle, _⟩ | ⟨_, t, k, xs, _, e⟩
    · unfold holdAt; rw [List.getElem?_eq_getElem hj2, e]; rfl
    · omega
    · unfold holdAt; rw [List.getElem?_eq_getElem hj2, e]; rfl

/-- Values and kinds without lists stand for themselves in any memory. -/
theorem Rep.flat {H H' : HP} : ∀ {K : Kd} {x : K.T} {cs : List Value}, K.flat = true → Rep H K x cs → Rep H' K x cs
  | .int _, _, _, _, h => h
  | .bool, _, _, _, h => h
  | .str, _, _, _, h => h
  | .slice _, _, _, hf, _ => by cases hf
  | .pair _ _, _, _, hf, ⟨c1, c2, h, h1, h2⟩ => by
    simp only [Kd.flat, Bool.and_eq_true] at hf
    exact ⟨c1, c2, h, Rep.flat hf.1 h1, Rep.flat hf.2 h2⟩
  | .own _ _, _, _, hf, _ => by cases hf
  | .ref _, _, _, hf, _ => by cases hf
theorem VW.flat {H H' : HP} {a : AV} {v : Value} (hf : a.flat = true) (h : VW H a v) : VW H' a v := by
  cases a <;> first | exact h | trivial | cases hf
theorem VC.flat {H H' : HP} {a : AV} {v : Value} (hf : a.flat = true) (h : VC H φ st a v) : VC H' φ st a v := by
  cases a <;> first | exact h | trivial | cases hf
theorem VB.flat {H H' : HP} {a : AV} {v : Value} (hf : a.flatV = true) (h : VB H φ st a v) : VB H' φ st a v := by
  rcases h.cases with ⟨cs, arr, rfl, e, h⟩ | h
  · exact ⟨arr, e, h.impM fun a ha _ g => g.flat (List.all_eq_true.1 hf a ha)⟩
  · cases a <;> first | exact h.elim | exact VB.of_VC (h.flat (by first | exact hf | rfl))
theorem BoxR.flat {H H' : HP} {bx : Box} {v : Value} (hf : bx.flat = true) (h : BoxR H w v bx) : BoxR H' w v bx := by
  cases bx with
  | var cs => obtain ⟨b, c, el, e1, e2, e3⟩ := h; exact ⟨b, c, el, e1, e2, e3.impM fun a ha _ g => g.flat (List.all_eq_true.1 hf a ha)⟩
  | rows t K xs => obtain ⟨flat, h1, h2⟩ := h; exact ⟨flat, h1, fun j x hx => (h2 j x hx).flat hf⟩
  | mrow t K xs => obtain ⟨flat, h1, h2⟩ := h; exact ⟨flat, h1, fun j x hx => (h2 j x hx).flat hf⟩
  | frz K xs => cases hf
  | dead => cases hf
theorem BoxR.mono {H H' : HP} (hH : H.le H') {bx : Box} {v : Value} (h : BoxR H w v bx) : BoxR H' w v bx := by
  cases bx with
  | var cs => obtain ⟨b, c, el, e1, e2, e3⟩ := h; exact ⟨b, c, el, e1, e2, e3.imp fun _ _ g => g.mono hH⟩
  | rows t K xs => obtain ⟨flat, h1, h2⟩ := h; exact ⟨flat, h1, fun j x hx => (h2 j x hx).mono hH⟩
  | mrow t K xs => obtain ⟨flat, h1, h2⟩ := h; exact ⟨flat, h1, fun j x hx => (h2 j x hx).mono hH⟩
  | frz K xs => exact ⟨reps_mono (fun _ _ h => Rep.mono hH h) hH h.1, h.2⟩
  | dead => trivial
theorem BoxR.ren {f : Nat → Nat} {bx : Box} {v : Value} (h : BoxR H w v bx) : BoxR H w v (bx.ren f) := by
  cases bx with
  | var cs =>
    obtain ⟨b, c, el, e1, e2, e3⟩ := h
    refine ⟨b, c, el, e1, e2, e3.map fun a u g => ?_⟩
    cases a <;> first | exact g | trivial | exact g.elim
  | _ => exact h
theorem ownsRow_len {w w' : World} {t t' : TypeId} {z z' n n' : Nat} {v : Value} {f f' : List Value} (h : w.ownsRow 0 t z v n f) (g : w'.ownsRow 0 t' z' v n' f') : n = n' := by
  rcases h.2 with ⟨e, hn⟩ | ⟨_, _, _, e, _⟩ <;> rcases g.2 with ⟨e2, gn⟩ | ⟨_, _, _, e2, _⟩ <;> rw [e] at e2 <;> simp_all
theorem ren_live {f : Nat → Nat} {bx : Box} : (bx.ren f).live = bx.live := by cases bx <;> rfl
theorem ren_kind {f : Nat → Nat} {st2 est : List Box} {k : Nat} {b : Box} (h1 : est[k]? = some b) (h2 : st2[f k]? = some (b.ren f)) : kindAt st2 (f k) = kindAt est k ∧ varAt st2 (f k) = varAt est k := by
  unfold kindAt varAt
  rw [h1, h2]
  cases b <;> exact ⟨rfl, rfl⟩

/-- What the call's border is known to be. -/
structure Border (H : HP) (φ : Phi) (st : List Box) (w : World) (nv : Nat) (back gone bors : List Nat) (H1 : HP) (est : List Box) : Prop where
  sr : SR H φ st w
  entry : Entry st nv (back ++ gone) est
  nd : (back ++ gone).Nodup
  bor : ∀ i ∈ bors, ∃ (t : TypeId) (K : Kd), ∃ xs : List (Kd.T K), st[i]? = some (Box.rows t K xs)
  apart : ∀ i ∈ bors, i ∉ back ++ gone
  le : H.le H1
  lent : ∀ b, (∀ i ∈ bors, blk (φ i) ≠ some b) → H1 b = H b
  nvb : nv ≤ back.length

open Classical in
/-- The callee's end, seen by its caller. -/
theorem Border.back {nv : Nat} {back gone bors : List Nat} {H1 H' : HP} {φ' : Phi} {est est' : List Box} (B : Border H φ st w nv back gone bors H1 est)
    (hs' : SR H' φ' est' w') (hle : H1.le H') (f : Fr nv (back ++ gone).length H1 (fun k => φ ((back ++ gone).getD k 0)) w H' φ' est' w') (hlen : back.length ≤ est'.length)
    (hkd : ∀ (k i : Nat), k < nv → back[k]? = some i → (∀ cs : List AV, st[i]? = some (Box.var cs) → ∃ cs' : List AV, est'[k]? = some (Box.var cs')) ∧ (∀ (t : TypeId) (K : Kd) (xs : List K.T), st[i]? = some (Box.rows t K xs) ∨ st[i]? = some (Box.mrow t K xs) → ∃ xs' : List (Kd.T K), est'[k]? = some (Box.mrow t K xs')))
    (hflat : bors = [] ∨ est'.all Box.flat = true) :
    ∃ H2 φ2, Step H φ st w H2 φ2 (graft st nv back gone est') w' ∧ (∀ (i : Nat) (bi : Box), st[i]? = some bi → bi.live = true → i ∉ back → i ∉ gone → ∀ b, blk (φ i) = some b → w'.heap[b]? = w.heap[b]?) ∧ KeepsBut φ st φ2 (graft st nv back gone est') (back.drop nv ++ gone) ∧
      (∀ a v, (bors = [] ∨ a.flatV = true) → VB H' φ' est' a v → VB H2 φ2 (graft st nv back gone est') (a.renV (renN back st.length)) v) := by
  have hs := B.sr
  have hndb : back.Nodup := (List.nodup_append.1 B.nd).1
  have hdis : ∀ i ∈ back, i ∉ gone := fun i h1 h2 => (List.nodup_append.1 B.nd).2.2 i h1 i h2 rfl
  have hand : ∀ (k i : Nat), (back ++ gone)[k]? = some i → ∃ b, st[i]? = some b ∧ b.live = true ∧ (nv ≤ k → holdAt st i = false) := by
    intro k i hk
    obtain ⟨eb, heb⟩ := B.entry.at hk
    obtain ⟨i', hi', hc⟩ := B.entry.get k eb heb
    rw [hk] at hi'
    cases hi'
    rcases hc with ⟨h1, cs, ecs, h2, _⟩ | ⟨h1, t, e, xs, h2, _⟩ | ⟨h1, t, e, xs, h2 | h2, _⟩
    · exact ⟨_, h2, rfl, fun h => by omega⟩
    · exact ⟨_, h2, rfl, fun _ => by simp only [holdAt, h2]; rfl⟩
    · exact ⟨_, h2, rfl, fun h => by omega⟩
    · exact ⟨_, h2, rfl, fun h => by omega⟩
  have hlt : ∀ i ∈ back, i < st.length := fun i hi => by
    obtain ⟨k, hk, rfl⟩ := List.getElem_of_mem hi
    obtain ⟨b, hb, _⟩ := hand k back[k] (by rw [List.getElem?_append_left hk]; simp)
    exact (List.getElem?_eq_some_iff.1 hb).1
  have hgt : ∀ i ∈ gone, i < st.length := fun i hi => by
    obtain ⟨k, hk⟩ := List.mem_iff_getElem?.1 (List.mem_append_right back hi)
    obtain ⟨b, hb, _⟩ := hand k i hk
    exact (List.getElem?_eq_some_iff.1 hb).1
  have G := graft_ok (nv := nv) hndb hdis hlt hlen
  generalize hst2 : graft st nv back gone est' = st2 at G ⊢
  let ren := renN back st.length
  have inj : ∀ {k k'}, ren k = ren k' → k = k' := fun h => renN_inj (st := st) hndb hlt h
  have renB : ∀ k (h : k < back.length), ren k = back[k] := fun k h => by simp [ren, renN, h, List.getD]
  have renO : ∀ k, back.length ≤ k → ren k = st.length + (k - back.length) := fun k h => by simp only [ren, renN]; rw [if_neg (by omega)]
  have ofC : ∀ (k : Nat) (b : Box), est'[k]? = some b → ∃ b' : Box, st2[ren k]? = some (b'.ren ren) ∧ b'.live = b.live ∧ (∀ {H : HP} {w : World} {v : Value}, BoxR H w v b → BoxR H w v b') ∧ (∀ cs, b' = .var cs → b = .var cs) ∧
      kindAt st2 (ren k) = kindAt est' k ∧ varAt st2 (ren k) = varAt est' k := by
    intro k b hb
    obtain ⟨b', g, hc⟩ := G.ofCallee k b hb
    rcases hc with rfl | ⟨t, K, xs, _, rfl, rfl, _⟩
    · have := ren_kind (f := ren) hb g
      exact ⟨b', g, rfl, fun h => h, ⟨fun _ h => h, this.1, this.2⟩⟩
    · refine ⟨.rows t K xs, g, rfl, fun {H w v} h => h, ⟨fun _ h => (by cases h), ?_, ?_⟩⟩
      · simp only [kindAt, hb, show st2[ren k]? = _ from g, Box.ren]
      · simp only [varAt, hb, show st2[ren k]? = _ from g, Box.ren]
  let Lent : Nat → Prop := fun b => ∃ i ∈ bors, blk (φ i) = some b
  let H2 : HP := fun b => if Lent b then none else H' b
  let φ2 : Phi := fun i => match idxN back i with
    | some k => φ' k
    | none => if i < st.length then φ i else φ' (back.length + (i - st.length))
  have φren : ∀ k, φ2 (ren k) = φ' k := by
    intro k
    by_cases h : k < back.length
    · have : idxN back (ren k) = some k := by rw [renB k h]; exact idxN_of hndb (by simp)
      simp only [φ2, this]
    · have e := renO k (by omega)
      have : idxN back (ren k) = none := by
        cases hq : idxN back (ren k) with
        | none => rfl
        | some q => have := hlt _ (List.mem_of_getElem? (idxN_some hq)); omega
      simp only [φ2, this]
      rw [if_neg (by omega), e]
      congr 1
      omega
  have φoth : ∀ i, i ∉ back → i < st.length → φ2 i = φ i := by
    intro i h1 h2
    have : idxN back i = none := by
      cases hq : idxN back i with
      | none => rfl
      | some q => exact absurd (List.mem_of_getElem? (idxN_some hq)) h1
    simp only [φ2, this]
    rw [if_pos h2]
  have nlent : ∀ b, ¬ Lent b → H2 b = H' b := fun b h => by simp only [H2]; rw [if_neg h]
  have lentN : ∀ b, Lent b → H2 b = none := fun b h => by simp only [H2]; rw [if_pos h]
  have lentH : ∀ b, Lent b → H b = none := by
    rintro b ⟨i, hi, hb⟩
    obtain ⟨t, K, xs, hx⟩ := B.bor i hi
    exact hs.out i _ hx rfl b hb
  have lentL : ∀ b, Lent b → b < w.heap.size := by
    rintro b ⟨i, hi, hb⟩
    obtain ⟨t, K, xs, hx⟩ := B.bor i hi
    exact (hs.box i _ hx).blk_lt rfl hb
  have hle2 : H.le H2 := by
    intro b o hb
    have h1 : ¬ Lent b := fun h => by rw [lentH b h] at hb; cases hb
    rw [nlent b h1]
    exact hle b o (B.le b o hb)
  -- a live box that is not handed over: nothing of it is touched
  have aside : ∀ i bi, st[i]? = some bi → bi.live = true → i ∉ back → i ∉ gone → ∀ b, blk (φ i) = some b → b < w.heap.size ∧ (∀ k, k < (back ++ gone).length → blk (φ ((back ++ gone).getD k 0)) ≠ some b) := by
    intro i bi hi hl h1 h2 b hb
    refine ⟨(hs.box i bi hi).blk_lt hl hb, fun k hk e => ?_⟩
    have hk2 : (back ++ gone)[k]? = some (back ++ gone)[k] := by simp
    rw [getD_of hk2] at e
    obtain ⟨b2, g1, g2, _⟩ := hand k _ hk2
    have hne : (back ++ gone)[k] ≠ i := fun e2 => by
      have : i ∈ back ++ gone := e2 ▸ List.getElem_mem hk
      rcases List.mem_append.1 this with h | h
      · exact h1 h
      · exact h2 h
    exact hs.sep _ i b2 bi g1 hi g2 hl hne b e hb
  have memo : ∀ i bi, st[i]? = some bi → bi.live = true → i ∉ back → i ∉ gone → ∀ b, blk (φ i) = some b → w'.heap[b]? = w.heap[b]? := by
    intro i bi hi hl h1 h2 b hb
    obtain ⟨g1, g2⟩ := aside i bi hi hl h1 h2 b hb
    exact f.old b g1 g2
  have H2old : ∀ b, b < w.heap.size → (∀ k, k < (back ++ gone).length → blk (φ ((back ++ gone).getD k 0)) ≠ some b) → H2 b = H b := by
    intro b h1 h2
    by_cases hl : Lent b
    · rw [lentN b hl, lentH b hl]
    · rw [nlent b hl, f.frz b h1 h2, B.lent b fun i hi e => hl ⟨i, hi, e⟩]
  have calleeBox : ∀ k b, est'[k]? = some b → BoxR H2 w' (φ' k) b := by
    intro k b hk
    have h1 := hs'.box k b hk
    rcases hflat with h | h
    · have : H2 = H' := by
        funext b
        exact nlent b fun ⟨i, hi, _⟩ => by rw [h] at hi; cases hi
      rw [this]
      exact h1
    · exact h1.flat (List.all_eq_true.1 h b (List.mem_of_getElem? hk))
  have otherBox : ∀ (i : Nat) (b : Box), i ∉ back → i ∉ gone → st[i]? = some b → BoxR H2 w' (φ i) (b.kill (back.drop nv ++ gone)) := by
    intro i b h1 h2 hi
    have h3 := (hs.kill (back.drop nv ++ gone)).box i (b.kill (back.drop nv ++ gone)) (by rw [List.getElem?_map, hi]; rfl)
    have h4 := memo i b hi
    refine BoxR.mono hle2 ?_
    cases b with
    | var cs =>
      obtain ⟨b0, c, el, e1, e2, e3⟩ := h3
      exact ⟨b0, c, el, e1, by rw [h4 rfl h1 h2 b0 (by rw [e1]; rfl)]; exact e2, e3⟩
    | rows t K xs =>
      obtain ⟨flat, ⟨g1, g2⟩, g3⟩ := h3
      refine ⟨flat, ⟨g1, ?_⟩, g3⟩
      rcases g2 with g2 | ⟨g, cap, cur, e1, e2, e3, e4⟩
      · exact .inl g2
      · exact .inr ⟨g, cap, cur, e1, e2, by rw [h4 rfl h1 h2 g (by rw [e1]; rfl)]; exact e3, e4⟩
    | mrow t K xs =>
      obtain ⟨flat, ⟨g1, g2⟩, g3⟩ := h3
      refine ⟨flat, ⟨g1, ?_⟩, g3⟩
      rcases g2 with g2 | ⟨g, cap, cur, e1, e2, e3, e4⟩
      · exact .inl g2
      · exact .inr ⟨g, cap, cur, e1, e2, by rw [h4 rfl h1 h2 g (by rw [e1]; rfl)]; exact e3, e4⟩
    | frz K xs => exact h3
    | dead => trivial
  have killLive : ∀ {b : Box}, (b.kill (back.drop nv ++ gone)).live = b.live := fun {b} => by cases b <;> rfl
  have hvarB : ∀ (k i : Nat), k < nv → back[k]? = some i → φ2 i = φ i ∧ kindAt st2 i = kindAt st i ∧ varAt st2 i = varAt st i ∧ holdAt st2 i = holdAt st i := by
    intro k i hkn hbk
    have hk : k < back.length := (List.getElem?_eq_some_iff.1 hbk).1
    have hk2 : (back ++ gone)[k]? = some i := by rw [List.getElem?_append_left hk]; exact hbk
    obtain ⟨b, hb, hl, _⟩ := hand k _ hk2
    have e1 : φ2 (ren k) = φ' k := φren k
    have eik : ren k = i := by rw [renB k hk]; exact (List.getElem?_eq_some_iff.1 hbk).2
    rw [eik] at e1
    have e2 := f.same k hkn
    simp only [getD_of hk2] at e2
    obtain ⟨c1, c2⟩ := hkd k i hkn hbk
    have len : ∀ (t : TypeId) (K : Kd) (xs xs' : List (Kd.T K)), (BoxR H w (φ i) (.rows t K xs) ∨ BoxR H w (φ i) (.mrow t K xs)) → est'[k]? = some (Box.mrow t K xs') → xs'.length = xs.length := by
      intro t K xs xs' h hq
      obtain ⟨_, o2, _⟩ := hs'.box k _ hq
      rw [e2] at o2
      rcases h with ⟨_, o1, _⟩ | ⟨_, o1, _⟩
      · exact ownsRow_len o2 o1
      · exact ownsRow_len o2 o1
    refine ⟨e1.trans e2, ?_⟩
    cases b with
    | var cs =>
      obtain ⟨cs', hq⟩ := c1 cs hb
      have g := G.ret k i _ _ hq hbk hb
      simp only [kindAt, varAt, holdAt, g, hb, backB, Box.ren, Box.hold, and_self]
    | rows t K xs =>
      obtain ⟨xs', hq⟩ := c2 t K xs (.inl hb)
      have g := G.ret k i _ _ hq hbk hb
      simp only [kindAt, varAt, holdAt, g, hb, backB, Box.ren, Box.hold, and_self, len t K xs xs' (.inl (hs.box i _ hb)) hq]
    | mrow t K xs =>
      obtain ⟨xs', hq⟩ := c2 t K xs (.inr hb)
      have g := G.ret k i _ _ hq hbk hb
      simp only [kindAt, varAt, holdAt, g, hb, backB, Box.ren, Box.hold, and_self, len t K xs xs' (.inr (hs.box i _ hb)) hq]
    | frz K xs => cases hl
    | dead => cases hl
  have hvarO : ∀ i, i ∉ back → i ∉ gone → i < st.length → φ2 i = φ i ∧ kindAt st2 i = kindAt st i ∧ varAt st2 i = varAt st i ∧ holdAt st2 i = holdAt st i := by
    intro i h1 h2 h3
    have hib : st[i]? = some st[i] := by simp
    refine ⟨φoth i h1 h3, ?_, ?_, ?_⟩
    rotate_right
    · rw [← holdAt_map (cellsOnly_kill (back.drop nv ++ gone)) st i]
      unfold holdAt
      rw [G.other i _ h1 h2 hib, List.getElem?_map, hib]; rfl
    · rw [← kindAt_map (cellsOnly_kill (back.drop nv ++ gone)) st i]
      unfold kindAt
      rw [G.other i _ h1 h2 hib, List.getElem?_map, hib]; rfl
    · rw [← varAt_map (cellsOnly_kill (back.drop nv ++ gone)) st i]
      unfold varAt
      rw [G.other i _ h1 h2 hib, List.getElem?_map, hib]; rfl
  have hsr : SR H2 φ2 st2 w' := by
    refine ⟨fun b o hb => ?_, fun i b hi => ?_, fun i j bi bj hi hj li lj hij b hbi hbj => ?_, fun i bi hi li b hb => ?_, fun i cs hi o q hq => ?_⟩
    · by_cases hl : Lent b
      · rw [lentN b hl] at hb; cases hb
      · rw [nlent b hl] at hb
        exact hs'.hp b o hb
    · rcases G.cases i b hi with ⟨k, hk, rfl⟩ | ⟨h1, h2, h3⟩ | ⟨_, rfl⟩
      · obtain ⟨b', g, _, gb, _⟩ := ofC k est'[k] (by simp)
        rw [hi] at g
        cases g
        rw [show φ2 (renN back st.length k) = φ' k from φren k]
        exact (gb (calleeBox k _ (by simp))).ren
      · have hib : st[i]? = some st[i] := by simp
        have g := G.other i _ h2 h3 hib
        rw [hi] at g
        cases g
        rw [φoth i h2 h1]
        exact otherBox i _ h2 h3 hib
      · trivial
    · -- sep
      have key : ∀ k i bi, k < est'.length → st2[ren k]? = some bi → bi.live = true → i < st.length → i ∉ back → i ∉ gone → ∀ b', st[i]? = some b' → b'.live = true → ∀ b, blk (φ' k) = some b → blk (φ i) ≠ some b := by
        intro k i bi hk hbk hl h1 h2 h3 b' hb' lb' b hb e
        obtain ⟨g1, g2⟩ := aside i b' hb' lb' h2 h3 b e
        obtain ⟨b2, g, gl, _⟩ := ofC k est'[k] (by simp)
        rw [hbk] at g
        cases g
        rcases f.new k est'[k] (by simp) (by rw [ren_live, gl] at hl; exact hl) b hb with h | ⟨j, hj, h⟩
        · omega
        · exact g2 j hj h
      rcases G.cases i bi hi with ⟨k, hk, rfl⟩ | ⟨h1, h2, h3⟩ | ⟨_, rfl⟩
      · rw [show φ2 (renN back st.length k) = φ' k from φren k] at hbi
        rcases G.cases j bj hj with ⟨k', hk', rfl⟩ | ⟨g1, g2, g3⟩ | ⟨_, rfl⟩
        · rw [show φ2 (renN back st.length k') = φ' k' from φren k'] at hbj
          obtain ⟨_, e1, l1, _⟩ := ofC k est'[k] (by simp)
          obtain ⟨_, e2, l2, _⟩ := ofC k' est'[k'] (by simp)
          rw [hi] at e1
          rw [hj] at e2
          cases e1
          cases e2
          rw [ren_live] at li lj
          rw [l1] at li
          rw [l2] at lj
          exact hs'.sep k k' _ _ (by simp) (by simp) li lj (fun e => hij (by rw [e])) b hbi hbj
        · rw [φoth j g2 g1] at hbj
          have hjb : st[j]? = some st[j] := by simp
          have g := G.other j _ g2 g3 hjb
          rw [hj] at g
          cases g
          exact key k j bi hk hi li g1 g2 g3 _ hjb (killLive ▸ lj) b hbi hbj
        · cases lj
      · rw [φoth i h2 h1] at hbi
        have hib : st[i]? = some st[i] := by simp
        have g := G.other i _ h2 h3 hib
        rw [hi] at g
        cases g
        rcases G.cases j bj hj with ⟨k', hk', rfl⟩ | ⟨g1, g2, g3⟩ | ⟨_, rfl⟩
        · rw [show φ2 (renN back st.length k') = φ' k' from φren k'] at hbj
          exact key k' i bj hk' hj lj h1 h2 h3 _ hib (killLive ▸ li) b hbj hbi
        · rw [φoth j g2 g1] at hbj
          have hjb : st[j]? = some st[j] := by simp
          have g := G.other j _ g2 g3 hjb
          rw [hj] at g
          cases g
          exact hs.sep i j _ _ hib hjb (killLive ▸ li) (killLive ▸ lj) hij b hbi hbj
        · cases lj
      · cases li
    · rcases G.cases i bi hi with ⟨k, hk, rfl⟩ | ⟨h1, h2, h3⟩ | ⟨_, rfl⟩
      · rw [show φ2 (renN back st.length k) = φ' k from φren k] at hb
        obtain ⟨_, e1, l1, _⟩ := ofC k est'[k] (by simp)
        rw [hi] at e1
        cases e1
        rw [ren_live, l1] at li
        by_cases hl : Lent b
        · exact lentN b hl
        · rw [nlent b hl]
          exact hs'.out k _ (by simp) li b hb
      · rw [φoth i h2 h1] at hb
        have hib : st[i]? = some st[i] := by simp
        have g := G.other i _ h2 h3 hib
        rw [hi] at g
        cases g
        obtain ⟨g1, g2⟩ := aside i _ hib (killLive ▸ li) h2 h3 b hb
        rw [H2old b g1 g2]
        exact hs.out i _ hib (killLive ▸ li) b hb
      · cases li
    · rcases G.cases i _ hi with ⟨k, hk, rfl⟩ | ⟨h1, h2, h3⟩ | ⟨_, e⟩
      · obtain ⟨bk', e1, _, _, lv, _⟩ := ofC k est'[k] (by simp)
        rw [hi] at e1
        have hek : est'[k]? = some est'[k] := by simp
        generalize est'[k] = bk at e1 hek lv
        cases bk' with
        | var cs0 =>
          simp only [Box.ren, Option.some.injEq, Box.var.injEq] at e1
          subst e1
          have lv := lv cs0 rfl
          subst lv
          rw [List.getElem?_map] at hq
          cases hc : cs0[o]? with
          | none => rw [hc] at hq; cases hq
          | some c =>
            rw [hc] at hq
            cases c <;> simp only [Option.map_some, AV.ren, Option.some.injEq] at hq <;> try cases hq
            rename_i q0
            obtain ⟨d1, b0, d2, d3⟩ := hs'.cell k cs0 hek o q0 hc
            have hq0 : ∃ bq, est'[q0]? = some bq := ⟨est'[q0]'(kindAt_lt d1), by simp [kindAt_lt d1]⟩
            obtain ⟨bq, hbq⟩ := hq0
            refine ⟨?_, b0, ?_, ?_⟩
            · obtain ⟨_, _, _, _, _, kk, _⟩ := ofC q0 bq hbq
              rw [kk]; exact d1
            · rw [show φ2 (renN back st.length k) = φ' k from φren k]; exact d2
            · rw [show φ2 (renN back st.length q0) = φ' q0 from φren q0]; exact d3
        | _ => cases e1
      · have hib : st[i]? = some st[i] := by simp
        have g := G.other i _ h2 h3 hib
        rw [hi] at g
        have hkl : (st.map (Box.kill (back.drop nv ++ gone)))[i]? = some (.var cs) := by rw [List.getElem?_map, hib, Option.map_some]; exact g.symm
        have hn := hasN_false.1 (kill_none hkl hq)
        obtain ⟨d1, b0, d2, d3⟩ := (hs.kill (back.drop nv ++ gone)).cell i cs hkl o q hq
        rw [kindAt_map (cellsOnly_kill _)] at d1
        have hql := kindAt_lt d1
        have hq2 : q ∉ gone := fun h => hn (List.mem_append_right _ h)
        have hsame : φ2 q = φ q ∧ kindAt st2 q = kindAt st q := by
          by_cases hq1 : q ∈ back
          · obtain ⟨k, hk, e⟩ := List.getElem_of_mem hq1
            have hkn : k < nv := by
              rcases Nat.lt_or_ge k nv with h | h
              · exact h
              · have : q ∈ back.drop nv := by
                  rw [← e]
                  exact List.mem_iff_getElem?.2 ⟨k - nv, by rw [List.getElem?_drop, show nv + (k - nv) = k by omega]; simp⟩
                exact absurd (List.mem_append_left _ this) hn
            obtain ⟨c1, c2, _⟩ := hvarB k q hkn (by simp [hk, e])
            exact ⟨c1, c2⟩
          · obtain ⟨c1, c2, _⟩ := hvarO q hq1 hq2 hql
            exact ⟨c1, c2⟩
        refine ⟨by rw [hsame.2]; exact d1, b0, by rw [φoth i h2 h1]; exact d2, ?_⟩
        rw [hsame.1]
        have hlive : (st[i]).live = true := by
          have e : st[i].kill (back.drop nv ++ gone) = .var cs := (Option.some.inj g).symm
          have : (st[i].kill (back.drop nv ++ gone)).live = true := by rw [e]; rfl
          rw [killLive] at this
          exact this
        have := memo i _ hib hlive h2 h3 b0 (by rw [d2]; rfl)
        simp only [World.cell?] at d3 ⊢
        rw [this]
        exact d3
      · cases e
  have goneRow : ∀ i ∈ gone, holdAt st i = false := by
    intro i hi
    obtain ⟨k, hk, e⟩ := List.getElem_of_mem hi
    obtain ⟨_, _, _, v2⟩ := hand (back.length + k) i (by rw [List.getElem?_append_right (by omega)]; simp [hk, e])
    exact v2 (by have := B.nvb; omega)
  have hkb : KeepsBut φ st φ2 st2 (back.drop nv ++ gone) := by
    refine ⟨fun i hn hd => ?_, fun i hv => ?_⟩
    · rw [hasN_append, Bool.or_eq_false_iff] at hn
      have hg := hasN_false.1 hn.2
      have hlt2 : i < st.length := by rcases hd with h | h; exact kindAt_lt h; exact varAt_lt h
      by_cases hb : i ∈ back
      · obtain ⟨k, hk, e⟩ := List.getElem_of_mem hb
        have hk2 : (back ++ gone)[k]? = some i := by rw [List.getElem?_append_left hk]; simp [hk, e]
        have hkn : k < nv := by
          rcases Nat.lt_or_ge k nv with h | h
          · exact h
          · have : i ∈ back.drop nv := by
              rw [← e]
              exact List.mem_iff_getElem?.2 ⟨k - nv, by rw [List.getElem?_drop, show nv + (k - nv) = k by omega]; simp⟩
            exact absurd this (hasN_false.1 hn.1)
        obtain ⟨c1, c2, c3, _⟩ := hvarB k i hkn (by simp [hk, e])
        exact ⟨c1, c2, c3⟩
      · obtain ⟨c1, c2, c3, _⟩ := hvarO i hb hg hlt2
        exact ⟨c1, c2, c3⟩
    · have hng : i ∉ gone := fun h => by rw [goneRow i h] at hv; cases hv
      by_cases hb : i ∈ back
      · obtain ⟨k, hk, e⟩ := List.getElem_of_mem hb
        have hk2 : (back ++ gone)[k]? = some i := by rw [List.getElem?_append_left hk]; simp [hk, e]
        obtain ⟨_, _, _, v2⟩ := hand k _ hk2
        have hkn : k < nv := by
          rcases Nat.lt_or_ge k nv with h | h
          · exact h
          · rw [v2 h] at hv; cases hv
        obtain ⟨c1, _, c3, c4⟩ := hvarB k i hkn (by simp [hk, e])
        exact ⟨c1, c4.trans hv, c3⟩
      · obtain ⟨c1, _, c3, c4⟩ := hvarO i hb hng (holdAt_lt hv)
        exact ⟨c1, c4.trans hv, c3⟩
  refine ⟨H2, φ2, ⟨hle2, hsr, fun mv m0 H0 φ0 w0 g => ?_⟩, memo, hkb, fun a v hfl hv => ?_⟩
  · -- the caller's own frame
    have hh : ∀ b, b < w0.heap.size → (∀ j, j < m0 → blk (φ0 j) ≠ some b) → ∀ k, k < (back ++ gone).length → blk (φ ((back ++ gone).getD k 0)) ≠ some b := by
      intro b h1 h2 k hk e
      have hk2 : (back ++ gone)[k]? = some (back ++ gone)[k] := by simp
      rw [getD_of hk2] at e
      obtain ⟨bx, hb, hl, _⟩ := hand k _ hk2
      rcases g.new _ bx hb hl b e with h | ⟨j, hj, h⟩
      · omega
      · exact h2 j hj h
    refine ⟨f.os.trans g.os, f.tape.trans g.tape, f.output.trans g.output, Nat.le_trans g.size f.size, fun b h1 h2 => ?_, fun j hj => ?_, fun i bi hi li b hb => ?_, fun j hj => (hkb.2 j (g.vars j hj)).2.1, fun b h1 h2 => ?_⟩
    · rw [f.old b (Nat.lt_of_lt_of_le h1 g.size) (hh b h1 h2)]
      exact g.old b h1 h2
    · exact (hkb.2 j (g.vars j hj)).1.trans (g.same j hj)
    · rcases G.cases i bi hi with ⟨k, hk, rfl⟩ | ⟨h1, h2, h3⟩ | ⟨_, rfl⟩
      · rw [show φ2 (renN back st.length k) = φ' k from φren k] at hb
        obtain ⟨_, e1, l1, _⟩ := ofC k est'[k] (by simp)
        rw [hi] at e1
        cases e1
        rw [ren_live, l1] at li
        rcases f.new k _ (by simp) li b hb with h | ⟨j, hj, h⟩
        · exact .inl (Nat.le_trans g.size h)
        · have hk2 : (back ++ gone)[j]? = some (back ++ gone)[j] := by simp
          rw [getD_of hk2] at h
          obtain ⟨bx, hbx, hl, _⟩ := hand j _ hk2
          exact g.new _ bx hbx hl b h
      · rw [φoth i h2 h1] at hb
        have hib : st[i]? = some st[i] := by simp
        have e := G.other i _ h2 h3 hib
        rw [hi] at e
        cases e
        exact g.new i _ hib (killLive ▸ li) b hb
      · cases li
    · rw [H2old b (Nat.lt_of_lt_of_le h1 g.size) (hh b h1 h2)]
      exact g.frz b h1 h2
  · have hv2 : VB H2 φ' est' a v := by
      rcases hfl with h | h
      · have : H2 = H' := by
          funext b
          exact nlent b fun ⟨i, hi, _⟩ => by rw [h] at hi; cases hi
        rw [this]
        exact hv
      · exact hv.flat h
    have one : ∀ a v, VC H2 φ' est' a v → VC H2 φ2 st2 (a.ren ren) v := by
      intro a v hv
      cases a with
      | row k =>
        obtain ⟨e, hk⟩ := hv
        have hb : est'[k]? = some (est'[k]'(kindAt_lt hk)) := by simp
        refine ⟨by rw [φren k]; exact e, ?_⟩
        obtain ⟨_, _, _, _, _, kk, _⟩ := ofC k _ hb
        rw [kk]
        exact hk
      | ptr k o =>
        obtain ⟨hk, b0, e1, e2⟩ := hv
        have hb : est'[k]? = some (est'[k]'(varAt_lt hk)) := by simp
        refine ⟨?_, b0, by rw [φren k]; exact e1, e2⟩
        obtain ⟨_, _, _, _, _, _, kk⟩ := ofC k _ hb
        rw [kk]
        exact hk
      | eptr k i o =>
        obtain ⟨b0, n, cap, K, hk, h2, e1, e2⟩ := hv
        have hb : est'[k]? = some (est'[k]'(kindAt_lt (by simp [hk]))) := by simp
        refine ⟨b0, n, cap, K, ?_, h2, by rw [φren k]; exact e1, e2⟩
        obtain ⟨_, _, _, _, _, kk, _⟩ := ofC k _ hb
        rw [kk]
        exact hk
      | _ => exact hv
    rcases hv2.cases with ⟨cs, arr, rfl, e, h⟩ | h
    · exact ⟨arr, e, h.map one⟩
    · have : a.renV ren = a.ren ren := by cases a <;> first | rfl | exact h.elim
      rw [this]
      exact VB.of_VC (one a v h)

end Go.Proofs.Ytnbfkndicldppaa.Core
