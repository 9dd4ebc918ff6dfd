/- New memory and appends. -/
import Derived.Test.YtnbfkndicldppaaStore
import Derived.Laws.OwnMore
import Derived.Great.BuildSlice
namespace Go.Proofs.Ytnbfkndicldppaa.Core
open Go

variable {H : HP} {φ : Phi} {st : List Box} {w : World} {P : Program}

theorem run_append_none0 (base : Nat) (t ty e : TypeId) (i : TypeInfo) (size : Nat) (ht : P.underlying t = some (.slice e)) (hi : P.info? e = some i)
    (v : Value) (n c : Nat) (xs : List Value) (hown : w.ownsRow base e size v n xs) : (Builtin.append_ #[t, t] ty #[v, .slice none 0 c]).run P w = .ok v w := by
  rcases hown.2 with ⟨rfl, rfl⟩ | ⟨g, cap, cur, rfl, _, _, hnc, _⟩
  · simp [Builtin.append_, run_underlying ht, sizeOf, typeInfo, hi, Builtin.lenOf, Builtin.firstCells]
  · simp [Builtin.append_, run_underlying ht, sizeOf, typeInfo, hi, Builtin.lenOf, Builtin.firstCells, hnc, storeCells]

/-- A zero's cells, read off; what is left. -/
def zrest : Kd → List Value → Option (List Value)
  | .int k, .int k' n :: r => if k = k' ∧ n = 0 then some r else none
  | .bool, .bool b :: r => if b = false then some r else none
  | .str, .string s :: r => if s = ByteArray.empty then some r else none
  | .slice _, .slice none 0 0 :: r => some r
  | .pair a b, cs => (zrest a cs).bind (zrest b)
  | _, _ => none

theorem zrest_ok : ∀ (K : Kd) (cs r : List Value), zrest K cs = some r → ∃ c, cs = c ++ r ∧ Rep H K K.zero c := by
  intro K
  induction K with
  | int k =>
    intro cs r h
    cases cs with
    | nil => simp [zrest] at h
    | cons v cs =>
      cases v <;> simp [zrest] at h
      obtain ⟨⟨rfl, rfl⟩, rfl⟩ := h
      exact ⟨[_], rfl, rfl⟩
  | bool =>
    intro cs r h
    cases cs with
    | nil => simp [zrest] at h
    | cons v cs =>
      cases v <;> simp [zrest] at h
      obtain ⟨rfl, rfl⟩ := h
      exact ⟨[_], rfl, rfl⟩
  | str =>
    intro cs r h
    cases cs with
    | nil => simp [zrest] at h
    | cons v cs =>
      cases v <;> simp [zrest] at h
      obtain ⟨rfl, rfl⟩ := h
      exact ⟨[_], rfl, rfl⟩
  | slice e ih =>
    intro cs r h
    cases cs with
    | nil => simp [zrest] at h
    | cons v cs =>
      cases v with
      | slice a n c =>
        unfold zrest at h
        split at h
        all_goals first | cases h | skip
        all_goals (try rename_i e1 e2)
        all_goals (try cases e1)
        all_goals (try cases e2)
        all_goals first | exact ⟨[_], rfl, ⟨_, rfl, reps_nil⟩⟩ | skip
        all_goals simp_all
      | _ => simp [zrest] at h
  | pair a b iha ihb =>
    intro cs r h
    simp only [zrest] at h
    cases h1 : zrest a cs with
    | none => rw [h1] at h; cases h
    | some r1 =>
      rw [h1] at h
      simp only [Option.bind_some] at h
      obtain ⟨c1, e1, g1⟩ := iha _ _ h1
      obtain ⟨c2, e2, g2⟩ := ihb _ _ h
      exact ⟨c1 ++ c2, by rw [e1, e2, List.append_assoc], ⟨c1, c2, rfl, g1, g2⟩⟩
  | own t e ih => intro cs r h; simp [zrest] at h
  | ref K ih => intro cs r h; simp [zrest] at h
  | «fun» f => intro cs r h; simp [zrest] at h
  | clo f K ih => intro cs r h; simp [zrest] at h

/-- An element type of a kind: as many cells, at most 2048 bytes, its zero. -/
def elB (P : Program) (e : TypeId) (K : Kd) : Bool :=
  match P.info? e with
  | some i => i.size == K.sz && decide (i.bytes ≤ 2048) && (match i.zero.map fun z => zrest K z.cells.toList with | some (some []) => true | _ => false)
  | none => false

theorem elB_spec {e : TypeId} {K : Kd} (h : elB P e K = true) : ∃ i z, P.info? e = some i ∧ i.zero = some z ∧ i.size = K.sz ∧ i.bytes ≤ 2048 ∧ z.cells.size = K.sz ∧ ∀ H, Rep H K K.zero z.cells.toList := by
  unfold elB at h
  cases hi : P.info? e with
  | none => rw [hi] at h; cases h
  | some i =>
    rw [hi] at h
    simp only [Bool.and_eq_true, beq_iff_eq, decide_eq_true_eq] at h
    obtain ⟨⟨h1, h2⟩, h3⟩ := h
    cases hz : i.zero with
    | none => rw [hz] at h3; cases h3
    | some z =>
      rw [hz] at h3
      simp only [Option.map_some] at h3
      have hq : zrest K z.cells.toList = some [] := by
        split at h3
        · rename_i e; simpa using e
        · cases h3
      have hr : ∀ H, Rep H K K.zero z.cells.toList := fun H => by
        obtain ⟨c, e1, e2⟩ := zrest_ok (H := H) K _ _ hq
        rw [List.append_nil] at e1
        rw [e1]
        exact e2
      refine ⟨i, z, rfl, hz, h1, h2, ?_, hr⟩
      have := (hr fun _ => none).length
      simpa using this

theorem rowRep_append {K : Kd} {xs ys : List K.T} {f g : List Value} (hf : rowRep H K xs f) (hl : f.length = xs.length * K.sz) (hg : rowRep H K ys g) : rowRep H K (xs ++ ys) (f ++ g) := by
  intro j x hx
  rcases Nat.lt_or_ge j xs.length with hj | hj
  · rw [List.getElem?_append_left hj] at hx
    have := hf j x hx
    have hle : (j + 1) * K.sz ≤ xs.length * K.sz := Nat.mul_le_mul_right _ hj
    rw [Nat.succ_mul] at hle
    have e : ((f ++ g).drop (j * K.sz)).take K.sz = (f.drop (j * K.sz)).take K.sz := by
      rw [List.drop_append_of_le_length (by omega), List.take_append_of_le_length (by simp; omega)]
    rw [e]
    exact this
  · rw [List.getElem?_append_right hj] at hx
    have := hg _ x hx
    have e : ((f ++ g).drop (j * K.sz)).take K.sz = (g.drop ((j - xs.length) * K.sz)).take K.sz := by
      have hle : xs.length * K.sz ≤ j * K.sz := Nat.mul_le_mul_right _ hj
      rw [List.drop_append, List.drop_eq_nil_of_le (by omega), List.nil_append, hl, Nat.sub_mul]
    rw [e]
    exact this

theorem oneCell_of_rep : ∀ {K : Kd} {x : K.T} {cs : List Value}, Rep H K x cs → ∀ v ∈ cs, v.oneCell' = true := fun h => (VFs.of_rep h).oneCell

theorem rowRep_oneCell {K : Kd} {xs : List K.T} {f : List Value} (hf : rowRep H K xs f) (hl : f.length = xs.length * K.sz) : ∀ v ∈ f, v.oneCell' = true := by
  intro v hv
  obtain ⟨k, hk, rfl⟩ := List.getElem_of_mem hv
  have hsz := Kd.sz_pos K
  have hj : k / K.sz < xs.length := (Nat.div_lt_iff_lt_mul hsz).2 (by omega)
  have h := hf (k / K.sz) (xs[k / K.sz]) (by simp)
  refine oneCell_of_rep h f[k] ?_
  have hm := Nat.mod_lt k hsz
  have hdm := Nat.div_add_mod k K.sz
  rw [Nat.mul_comm] at hdm
  refine List.mem_iff_getElem?.2 ⟨k % K.sz, ?_⟩
  rw [List.getElem?_take, if_pos hm, List.getElem?_drop, hdm]
  simp [hk]

/-- An append to a live row that no variable refers to. -/
theorem append_step0 {id : Nat} {e t ty : TypeId} {K : Kd} {xs ys : List K.T} {bv : Value} {flat2 : List Value} {sl : Option Addr} {cap2 : Nat}
    (hs : SR H φ st w) (hid : st[id]? = some (.rows e K xs)) (ht : P.underlying t = some (.slice e)) (he : elB P e K = true)
    (e2 : bv = .slice sl ys.length cap2) (hl2 : flat2.length = ys.length * K.sz) (hr2 : rowRep H K ys flat2)
    (hc2 : sl = none ∨ ys = [] ∨ ∃ b off, sl = some ⟨b, off, none⟩ ∧ ∀ j u, flat2[j]? = some u → w.cell? ⟨b, off + j, none⟩ = some u) (hn2 : sl = none → ys = [])
    (hlim : xs.length + ys.length ≤ 68719476736) (hnone : ∀ (k : Nat) (cs : List AV), st[k]? = some (Box.var cs) → ∀ (o : Nat), cs[o]? ≠ some (AV.row id)) :
    ∃ v' w', (Builtin.append_ #[t, t] ty #[φ id, bv]).run P w = .ok v' w' ∧
      Step H φ st w H (fun i => if i = id then v' else φ i) (st.set id (.rows e K (xs ++ ys))) w' ∧ w.grownBy w' (blk (φ id)) := by
  obtain ⟨i, z, hi, hz, h1, h2, h3, _⟩ := elB_spec he
  obtain ⟨flat, ho, hr⟩ := hs.box id _ hid
  have hsz := Kd.sz_pos K
  have hb : (xs.length + ys.length) * i.bytes ≤ 140737488355328 := by
    calc (xs.length + ys.length) * i.bytes ≤ 68719476736 * 2048 := Nat.mul_le_mul hlim h2
      _ = 140737488355328 := by decide
  have hml : xs.length + ys.length ≤ maxLen := by simp only [maxLen]; omega
  have fin : ∀ v' w', w'.ownsRow 0 e K.sz v' (xs.length + ys.length) (flat ++ flat2) → w.grownBy w' (φ id).ownBlock → (∀ b, blk v' = some b → blk (φ id) = some b ∨ w.heap.size ≤ b) →
      Step H φ st w H (fun i => if i = id then v' else φ i) (st.set id (.rows e K (xs ++ ys))) w' ∧ w.grownBy w' (blk (φ id)) := by
    intro v' w' ho' hg' hn'
    have hbl : blk (φ id) = (φ id).ownBlock := by
      rcases ho.2 with ⟨e3, _⟩ | ⟨g, cap, cur, e3, _⟩ <;> rw [e3] <;> rfl
    refine ⟨?_, by rw [hbl]; exact hg'⟩
    refine Step.update hs hid rfl (by rw [hbl]; exact hg') ⟨flat ++ flat2, by rw [List.length_append]; exact ho', rowRep_append hr ho.1 hr2⟩ hn' (.inr (by simp only [holdAt, hid]; rfl)) (fun k cs hk o hq => absurd hq (hnone k cs hk o)) (fun cs hcs => by cases hcs)
  cases sl with
  | none =>
    obtain rfl := hn2 rfl
    have hf2 : flat2 = [] := List.length_eq_zero_iff.1 (by simpa using hl2)
    subst hf2
    subst e2
    refine ⟨φ id, w, run_append_none0 (P := P) (w := w) 0 t ty e i K.sz ht hi (φ id) xs.length cap2 flat ho, fin _ _ (by simpa using ho) ?_ (fun b hb => .inl hb)⟩
    exact ⟨rfl, rfl, rfl, Nat.le_refl _, fun _ _ _ => rfl⟩
  | some a =>
    subst e2
    have hnews : ∀ j u, flat2[j]? = some u → w.cell? (a.add j) = some u := by
      rcases hc2 with h | h | ⟨b, off, h, g⟩
      · cases h
      · subst h
        have hf2 : flat2 = [] := List.length_eq_zero_iff.1 (by simpa using hl2)
        subst hf2
        intro j u hu; simp at hu
      · cases h
        intro j u hu
        rw [Addr.add_mid]
        exact g j u hu
    obtain ⟨v', w', hrun, ho', hg', _⟩ := run_append_own (P := P) w 0 t ty e i z K.sz i.bytes ht hi hz h1 rfl h3 hsz (φ id) xs.length flat ho a ys.length cap2 flat2 hl2 hnews
      (rowRep_oneCell hr2 hl2) hml hb (Nat.zero_le _)
    refine ⟨v', w', hrun, fin v' w' ho' hg' ?_⟩
    have h1' := rowRep_oneCell hr2 hl2
    rcases ho.2 with ⟨e3, hn⟩ | ⟨g, cap, cur, e3, _, hg, hnc, hcm, hcs, htake⟩
    · -- a nil row: what comes of it is new, or nil
      obtain ⟨v2, w2, hrun2, ho2, _, _⟩ := run_append_own (P := P) w w.heap.size t ty e i z K.sz i.bytes ht hi hz h1 rfl h3 hsz (φ id) xs.length flat
        ⟨ho.1, .inl ⟨e3, hn⟩⟩ a ys.length cap2 flat2 hl2 hnews h1' hml hb (Nat.le_refl _)
      have e4 := hrun.symm.trans hrun2
      simp only [Result.ok.injEq] at e4
      obtain ⟨rfl, rfl⟩ := e4
      intro b hb'
      right
      rcases ho2.2 with ⟨e5, _⟩ | ⟨g', cap', cur', e5, hbase, _⟩
      · rw [e5] at hb'; cases hb'
      · rw [e5] at hb'
        simp only [blk, Option.some.injEq] at hb'
        omega
    · by_cases hroom : xs.length + ys.length ≤ cap
      · have hfit : xs.length * i.size + flat2.length ≤ cur.size := by rw [hl2, hcs, h1, ← Nat.add_mul]; exact Nat.mul_le_mul_right _ hroom
        have hrun2 := run_append_room (P := P) w t ty e i ht hi g xs.length cap cur hg a ys.length cap2 flat2 (by rw [h1]; exact hl2) hnews h1' hroom hfit
        rw [← e3] at hrun2
        have e4 := hrun.symm.trans hrun2
        simp only [Result.ok.injEq] at e4
        obtain ⟨rfl, _⟩ := e4
        intro b hb'
        left
        rw [e3]
        exact hb'
      · have holds : ∀ j u, flat[j]? = some u → w.cell? ((⟨g, 0, none⟩ : Addr).add j) = some u := ho.cells (g := g) (by rw [e3]; rfl)
        have hrun2 := run_append_grow (P := P) w t ty e i z ht hi hz ⟨g, 0, none⟩ xs.length cap flat (by rw [h1]; exact ho.1) holds a ys.length cap2 flat2 (by rw [h1]; exact hl2) hnews
          (by omega) (by omega) (growslice_fits (by omega) hb)
        rw [← e3] at hrun2
        have e4 := hrun.symm.trans hrun2
        simp only [Result.ok.injEq] at e4
        obtain ⟨rfl, _⟩ := e4
        intro b hb'
        right
        simp only [blk, Option.some.injEq] at hb'
        omega

/-- An append to a live row. -/
theorem append_step {id : Nat} {e t ty : TypeId} {K : Kd} {xs ys : List K.T} {bv : Value} {flat2 : List Value} {sl : Option Addr} {cap2 : Nat}
    (hs : SR H φ st w) (hid : st[id]? = some (.rows e K xs)) (ht : P.underlying t = some (.slice e)) (he : elB P e K = true)
    (e2 : bv = .slice sl ys.length cap2) (hl2 : flat2.length = ys.length * K.sz) (hr2 : rowRep H K ys flat2)
    (hc2 : sl = none ∨ ys = [] ∨ ∃ b off, sl = some ⟨b, off, none⟩ ∧ ∀ j u, flat2[j]? = some u → w.cell? ⟨b, off + j, none⟩ = some u) (hn2 : sl = none → ys = [])
    (hlim : xs.length + ys.length ≤ 68719476736) :
    ∃ v' w', (Builtin.append_ #[t, t] ty #[φ id, bv]).run P w = .ok v' w' ∧
      Step H φ st w H (fun i => if i = id then v' else φ i) ((st.map (Box.kill [id])).set id (.rows e K (xs ++ ys))) w' ∧
      KeepsBut φ st (fun i => if i = id then v' else φ i) ((st.map (Box.kill [id])).set id (.rows e K (xs ++ ys))) [id] ∧ w.grownBy w' (blk (φ id)) := by
  have hid' : (st.map (Box.kill [id]))[id]? = some (.rows e K xs) := by rw [List.getElem?_map, hid]; rfl
  obtain ⟨v', w', h1, h2, h3⟩ := append_step0 (P := P) (ty := ty) (hs.kill [id]) hid' ht he e2 hl2 hr2 hc2 hn2 hlim fun k cs hk o hq => by
    have := kill_none hk hq
    simp [hasN] at this
  have go : ∀ j, j ≠ id → ((st.map (Box.kill [id])).set id (.rows e K (xs ++ ys)))[j]? = (st.map (Box.kill [id]))[j]? := fun j hj => by rw [List.getElem?_set, if_neg (Ne.symm hj)]
  have hvn : holdAt st id = false := by simp only [holdAt, hid]; rfl
  refine ⟨v', w', h1, (Step.kill hs [id]).trans h2, ⟨fun j hn _ => ?_, fun j hv => ?_⟩, h3⟩
  · have hj : j ≠ id := fun e => by subst e; simp [hasN] at hn
    refine ⟨by simp [hj], ?_, ?_⟩
    · rw [← kindAt_map (cellsOnly_kill [id]) st j]; simp only [kindAt, go j hj]
    · rw [← varAt_map (cellsOnly_kill [id]) st j]; simp only [varAt, go j hj]
  · have hj : j ≠ id := fun e => by subst e; rw [hvn] at hv; cases hv
    have t1 : holdAt ((st.map (Box.kill [id])).set id (.rows e K (xs ++ ys))) j = holdAt (st.map (Box.kill [id])) j := by simp only [holdAt, go j hj]
    have t2 : varAt ((st.map (Box.kill [id])).set id (.rows e K (xs ++ ys))) j = varAt (st.map (Box.kill [id])) j := by simp only [varAt, go j hj]
    exact ⟨by simp [hj], by rw [t1, holdAt_map (cellsOnly_kill [id])]; exact hv, by rw [t2, varAt_map (cellsOnly_kill [id])]⟩

/-- A new variable. -/
theorem newVar_step (hs : SR H φ st w) {t : TypeId} {v : Value} {cs : List AV} (hv : All2 (Told H φ st) cs v.cells.toList) :
    (newVar t v).run P w = .ok ⟨w.heap.size, 0, none⟩ (w.alloc (.cells v.cells t)) ∧
      Step H φ st w H (fun i => if i = st.length then .pointer (some ⟨w.heap.size, 0, none⟩) else φ i) (st ++ [.var cs]) (w.alloc (.cells v.cells t)) := by
  refine ⟨by simp [newVar, newRow], Step.push hs (World.grownBy_alloc w _ none) ⟨w.heap.size, v.cells, t, rfl, heap_alloc_new w _, hv.imp fun _ _ h => h.1⟩ (fun _ b hb => ?_) (fun cs' e o i ho => ?_)⟩
  · simp only [blk, Option.some.injEq] at hb
    omega
  · cases e
    obtain ⟨u, hu, ht⟩ := hv.get o _ ho
    obtain ⟨h1, h2⟩ := ht.2 i rfl
    refine ⟨h1, _, rfl, ?_⟩
    simp only [World.cell?, heap_alloc_new]
    rw [← h2]
    simpa using hu

/-- Closed cells whose rows are empty, and their values. -/
def ZC (H : HP) (a : AV) (v : Value) : Prop := (∃ t K, a = .new t K [] ∧ v = .slice none 0 0) ∨ VF H a v

theorem openC_VF {k : Nat} {a : AV} {r : List AV} {v : Value} (h : VF H a v) : openC k (a :: r) = a :: openC k r ∧ openB (a :: r) = openB r ∧ newCount (a :: r) = newCount r := by
  cases a <;> first | exact ⟨rfl, rfl, rfl⟩ | exact h.elim

theorem pushRows : ∀ {cs : List AV} {vs : List Value} {st : List Box} {φ : Phi}, All2 (ZC H) cs vs → SR H φ st w →
    ∃ φ', Step H φ st w H φ' (st ++ openB cs) w ∧ Keeps φ st φ' (st ++ openB cs) none ∧ All2 (Told H φ' (st ++ openB cs)) (openC st.length cs) vs ∧ (st ++ openB cs).length = st.length + newCount cs
  | [], vs, st, φ, h, hs => by
    cases h
    simp only [openB, List.append_nil, openC]
    exact ⟨φ, Step.refl hs, Keeps.refl _ _ _, rfl, rfl⟩
  | a :: cs, vs, st, φ, ⟨v, r, e, h, hr⟩, hs => by
    subst e
    rcases h with ⟨t, K, rfl, rfl⟩ | h
    · have hst : Step H φ st w H (fun i => if i = st.length then .slice none 0 0 else φ i) (st ++ [.rows t K []]) w :=
        Step.push hs ⟨rfl, rfl, rfl, Nat.le_refl _, fun _ _ _ => rfl⟩ ⟨[], ⟨by simp, .inl ⟨rfl, rfl⟩⟩, fun j x hx => by simp at hx⟩ (fun _ b hb => by simp [blk] at hb) (fun cs e => by cases e)
      obtain ⟨φ', g1, g2, g3, g4⟩ := pushRows hr hst.sr
      have e1 : st ++ openB (.new t K [] :: cs) = (st ++ [.rows t K []]) ++ openB cs := by simp [openB]
      have e2 : openC st.length (.new t K [] :: cs) = .row st.length :: openC (st ++ [Box.rows t K []]).length cs := by simp [openC]
      rw [e1, e2]
      refine ⟨φ', hst.trans g1, (keeps_append φ st _ _).trans g2, ⟨_, _, rfl, ⟨trivial, fun i e => ?_⟩, g3⟩, ?_⟩
      · cases e
        obtain ⟨k1, k2, _⟩ := g2 st.length (by simp) (.inl (by simp [kindAt]))
        refine ⟨by rw [k2]; simp [kindAt], by rw [k1]; simp⟩
      · rw [g4]; simp [newCount, AV.isNew]; omega
    · obtain ⟨o1, o2, o3⟩ := openC_VF (k := st.length) (r := cs) h
      rw [o1, o2, o3]
      obtain ⟨φ', g1, g2, g3, g4⟩ := pushRows hr hs
      exact ⟨φ', g1, g2, ⟨_, _, rfl, Told.of_VF h, g3⟩, g4⟩

/-- A new row. -/
theorem newRow_step (hs : SR H φ st w) {w' : World} {e : TypeId} {K : Kd} {xs : List K.T} {v : Value} {flat : List Value} (hg : w.grownBy w' none)
    (ho : w'.ownsRow w.heap.size e K.sz v xs.length flat) (hr : rowRep H K xs flat) :
    Step H φ st w H (fun i => if i = st.length then v else φ i) (st ++ [.rows e K xs]) w' := by
  refine Step.push hs hg ⟨flat, ⟨ho.1, ?_⟩, hr⟩ (fun _ b hb => ?_) (fun cs e => by cases e)
  · rcases ho.2 with h | ⟨g, cap, cur, e1, _, r⟩
    · exact .inl h
    · exact .inr ⟨g, cap, cur, e1, Nat.zero_le _, r⟩
  · rcases ho.2 with ⟨e1, _⟩ | ⟨g, cap, cur, e1, h1, _⟩
    · rw [e1] at hb; cases hb
    · rw [e1] at hb
      simp only [blk, Option.some.injEq] at hb
      omega

end Go.Proofs.Ytnbfkndicldppaa.Core
