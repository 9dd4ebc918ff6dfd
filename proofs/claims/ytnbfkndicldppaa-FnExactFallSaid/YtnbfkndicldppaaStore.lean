/- Stores, appends and new memory: the interpreter's own against the model's. -/
import Derived.Test.YtnbfkndicldppaaStep
import Derived.Laws.AppendOwnNone
namespace Go.Proofs.Ytnbfkndicldppaa.Core
open Go

variable {H : HP} {φ : Phi} {st : List Box} {w : World} {P : Program}

theorem putCells_eq : ∀ (as cs : List AV) (o : Nat), o + as.length ≤ cs.length → putCells cs o as = cs.take o ++ as ++ cs.drop (o + as.length)
  | [], cs, o, _ => by simp [putCells]
  | a :: as, cs, o, h => by
    simp only [List.length_cons] at h
    simp only [putCells]
    rw [putCells_eq as (cs.set o a) (o + 1) (by simp; omega)]
    have ho : o < cs.length := by omega
    have e1 : (cs.set o a).take (o + 1) = cs.take o ++ [a] := by
      apply List.ext_getElem?
      intro i
      rcases Nat.lt_trichotomy i o with e | e | e
      · simp [List.getElem?_take, List.getElem?_append, e, Nat.lt_succ_of_lt e, List.getElem?_set, Nat.ne_of_gt e, show i < min o cs.length by omega]
      · subst e; simp [List.getElem?_take, List.getElem?_append, List.getElem?_set, ho, show ¬ i < min i cs.length by omega, show i - min i cs.length = 0 by omega]
      · rw [List.getElem?_eq_none (by simp; omega), List.getElem?_eq_none (by simp; omega)]
    have e2 : (cs.set o a).drop (o + 1 + as.length) = cs.drop (o + (as.length + 1)) := by
      apply List.ext_getElem?
      intro i
      simp only [List.getElem?_drop, List.getElem?_set]
      rw [if_neg (by omega)]
      congr 1
      omega
    rw [e1, e2]
    simp

theorem VFs.splice {as cs : List AV} {vs us : List Value} {o : Nat} (h : VFs H cs us) (g : VFs H as vs) (ho : o + as.length ≤ cs.length) :
    VFs H (putCells cs o as) (us.take o ++ vs ++ us.drop (o + vs.length)) := by
  rw [putCells_eq as cs o ho, g.length]
  exact ((h.take o).append g).append (h.drop _)

theorem splice_get {α : Type} (l vs : List α) (o k : Nat) (h : o + vs.length ≤ l.length) :
    (l.take o ++ vs ++ l.drop (o + vs.length))[k]? = if k < o then l[k]? else if k < o + vs.length then vs[k - o]? else l[k]? := by
  rcases Nat.lt_or_ge k o with h1 | h1
  · rw [if_pos h1, List.append_assoc, List.getElem?_append_left (by simp; omega), List.getElem?_take, if_pos h1]
  · rw [if_neg (by omega), List.append_assoc, List.getElem?_append_right (by simp; omega)]
    simp only [List.length_take, Nat.min_eq_left (show o ≤ l.length by omega)]
    rcases Nat.lt_or_ge k (o + vs.length) with h2 | h2
    · rw [if_pos h2, List.getElem?_append_left (by omega)]
    · rw [if_neg (by omega), List.getElem?_append_right (by omega), List.getElem?_drop]
      congr 1
      omega

theorem splice_length {α : Type} (l vs : List α) (o : Nat) (h : o + vs.length ≤ l.length) : (l.take o ++ vs ++ l.drop (o + vs.length)).length = l.length := by
  simp; omega

theorem enc_length : ∀ (K : Kd) (x : K.T), (K.enc x).length = K.sz
  | .int _, _ => rfl
  | .bool, _ => rfl
  | .str, _ => rfl
  | .slice _, _ => rfl
  | .pair a b, x => by simp [Kd.enc, Kd.sz, enc_length a, enc_length b]
  | .own _ _, _ => rfl
  | .ref _, _ => rfl
  | .fun _, _ => rfl
  | .clo _ _, _ => rfl

theorem grownBy_setRow (w : World) (b : Nat) (cs : Array Value) : w.grownBy (w.setRow b cs) (some b) where
  os := rfl
  tape := rfl
  output := rfl
  size := by simp
  block k _ hne := setRow_other w b k cs (fun e => hne (by rw [e]))

theorem storeVar_row {b o : Nat} {t el : TypeId} {v : Value} {cur : Array Value} (hg : w.heap[b]? = some (.cells cur el (0, 0))) (hsz : szB P t v.cells.size = true)
    (hl : o + v.cells.size ≤ cur.size) (h1 : ∀ u ∈ v.cells.toList, u.oneCell' = true) :
    (Instr.storeAt t (.pointer (some ⟨b, o, none⟩)) v).run P w =
      .ok () (w.setRow b (cur.toList.take o ++ v.cells.toList ++ cur.toList.drop (o + v.cells.toList.length)).toArray) := by
  have := run_storeCells_at P b o el v.cells.toList 0 cur w hg (by simpa using hl) h1
  have hs := szB_spec hsz
  cases hq : P.info? t with
  | none => simp [hq] at hs
  | some i =>
    have hs : i.size = v.cells.size := by simpa [hq] using hs
    simp only [Nat.add_zero] at this
    simp [Instr.storeAt, Instr.sureAddr, storeVar, sizeOf, typeInfo, hq, hs, this]

theorem row_slice (hs : SR H φ st w) {id : Nat} (h : (kindAt st id).isSome = true) : ∃ a n c, φ id = .slice a n c := by
  unfold kindAt at h
  split at h
  · rename_i t K xs hb
    obtain ⟨flat, ho, _⟩ := hs.box id _ hb
    rcases ho.2 with ⟨e, _⟩ | ⟨g, cap, cur, e, _⟩ <;> rw [e] <;> exact ⟨_, _, _, rfl⟩
  · rename_i K xs hb
    obtain ⟨⟨a, cap, e, _⟩, _⟩ := hs.box id _ hb
    rw [e]; exact ⟨_, _, _, rfl⟩
  · rename_i t K xs hb
    obtain ⟨flat, ho, _⟩ := hs.box id _ hb
    rcases ho.2 with ⟨e, _⟩ | ⟨g, cap, cur, e, _⟩ <;> rw [e] <;> exact ⟨_, _, _, rfl⟩
  · cases h

theorem good_one {st : List Box} (hs : SR H φ st w) {a : AV} {v : Value} (hg : a.good = true) (h : VC H φ st a v) : v.oneCell' = true ∧ v.cells = #[v] := by
  cases a with
  | row id =>
    obtain ⟨e, hk⟩ := h
    obtain ⟨a, n, c, e2⟩ := row_slice hs hk
    rw [e, e2]
    exact ⟨rfl, rfl⟩
  | int k n => exact ⟨VF.oneCell (H := H) (a := .int k n) h, VF.cells (H := H) (a := .int k n) h⟩
  | bool b => exact ⟨VF.oneCell (H := H) (a := .bool b) h, VF.cells (H := H) (a := .bool b) h⟩
  | str s => exact ⟨VF.oneCell (H := H) (a := .str s) h, VF.cells (H := H) (a := .str s) h⟩
  | nil => exact ⟨VF.oneCell (H := H) (a := .nil) h, VF.cells (H := H) (a := .nil) h⟩
  | lst K xs => exact ⟨VF.oneCell (H := H) (a := .lst K xs) h, VF.cells (H := H) (a := .lst K xs) h⟩
  | fn f caps => exact ⟨VF.oneCell (H := H) (a := .fn f caps) h, VF.cells (H := H) (a := .fn f caps) h⟩
  | clo f K x => exact ⟨VF.oneCell (H := H) (a := .clo f K x) h, VF.cells (H := H) (a := .clo f K x) h⟩
  | _ => cases hg

theorem kill1_good {ids : List Nat} {a : AV} (h : (a.kill1 ids).good = true) : a.good = true := by
  cases a with
  | row i => rfl
  | eptr i j o => simp only [AV.kill1] at h; split at h <;> cases h
  | _ => first | exact h | cases h

theorem keep_good {s : St} {v : AV} {x : AV × St} (h : s.keep v = some x) : v.good = true := by
  cases v with
  | fn f caps => cases caps <;> first | rfl | (simp [St.keep] at h)
  | _ => first | rfl | (simp [St.keep] at h)
theorem intoRow_good {s : St} {i : Nat} {v : AV} {x : AV × St × List Nat} (h : s.intoRow i v = some x) : v.good = true := by
  cases v <;> first | rfl | (simp [St.intoRow] at h)
theorem into_good {s : St} {own : Bool} {c v : AV} {x : AV × St × List Nat} (h : s.into own c v = some x) : v.good = true := by
  unfold St.into at h
  split at h
  · exact intoRow_good h
  · exact intoRow_good h
  · split at h
    · split at h
      · rfl
      · split at h
        · rename_i hs; cases v <;> first | rfl | exact hs
        · cases h
    · cases hk : s.keep v with
      | none => rw [hk] at h; cases h
      | some y => exact keep_good hk
theorem intoAll_good : ∀ {cs vs : List AV} {s : St} {own : Bool} {x : List AV × St × List Nat}, s.intoAll own cs vs = some x → cs.length = vs.length ∧ x.1.length = vs.length ∧ ∀ v ∈ vs, v.good = true
  | [], [], s, own, x, h => by cases h; simp
  | [], _ :: _, s, own, x, h => by simp [St.intoAll] at h
  | _ :: _, [], s, own, x, h => by simp [St.intoAll] at h
  | c :: cs, v :: vs, s, own, x, h => by
    simp only [St.intoAll] at h
    cases h1 : s.into own c v with
    | none => rw [h1] at h; cases h
    | some y =>
      rw [h1] at h
      simp only [Option.bind_some] at h
      cases h2 : y.2.1.intoAll own cs (vs.map (AV.kill1 y.2.2)) with
      | none => rw [h2] at h; cases h
      | some z =>
        rw [h2] at h
        simp only [Option.bind_some] at h
        split at h
        · cases h
        · cases h
          obtain ⟨l1, l2, l3⟩ := intoAll_good h2
          simp only [List.length_map] at l1 l2
          refine ⟨by simp [l1], by simp [l2], fun u hu => ?_⟩
          rcases List.mem_cons.1 hu with rfl | hu
          · exact into_good h1
          · exact kill1_good (l3 _ (List.mem_map_of_mem hu))

theorem KeepsBut.of_keeps {φ φ' : Phi} {st st' : List Box} (h : Keeps φ st φ' st' none) : KeepsBut φ st φ' st' [] :=
  ⟨fun id _ hd => let ⟨a, b, c, _⟩ := h id (by simp) hd; ⟨a, b, c⟩, fun id hv => h.hold id hv⟩
theorem hasN_append (a b : List Nat) (i : Nat) : hasN (a ++ b) i = (hasN a i || hasN b i) := by
  induction a with
  | nil => simp [hasN]
  | cons x r ih => simp only [List.cons_append, hasN]; split <;> simp [ih]
theorem KeepsBut.trans {φ φ' φ'' : Phi} {st st' st'' : List Box} {a b : List Nat} (h : KeepsBut φ st φ' st' a) (g : KeepsBut φ' st' φ'' st'' b) : KeepsBut φ st φ'' st'' (a ++ b) := by
  refine ⟨fun id hn hd => ?_, fun id hv => ?_⟩
  · rw [hasN_append, Bool.or_eq_false_iff] at hn
    obtain ⟨h1, h2, h3⟩ := h.1 id hn.1 hd
    obtain ⟨g1, g2, g3⟩ := g.1 id hn.2 (by rw [h2, h3]; exact hd)
    exact ⟨g1.trans h1, g2.trans h2, g3.trans h3⟩
  · obtain ⟨h1, h2, h3⟩ := h.2 id hv
    obtain ⟨g1, g2, g3⟩ := g.2 id h2
    exact ⟨g1.trans h1, g2, g3.trans h3⟩
theorem VC.kill_mono {H' : HP} {φ' : Phi} {st st' : List Box} {ids : List Nat} (hH : H.le H') (hk : KeepsBut φ st φ' st' ids) {a : AV} {v : Value} (h : VC H φ st a v) : VC H' φ' st' (a.kill1 ids) v :=
  (h.mono hH (Keeps.refl φ st none)).kill hk
theorem hasN_nil (i : Nat) : hasN [] i = false := rfl
/-- A row that comes to its place. -/
theorem intoRow_step {s s' : St} {i : Nat} {v a : AV} {ids : List Nat} {u : Value} (hs : SR H φ s.st w) (hv : VC H φ s.st v u) (h : s.intoRow i v = some (a, s', ids)) :
    ∃ φ', Step H φ s.st w H φ' s'.st w ∧ KeepsBut φ s.st φ' s'.st ids ∧ a = .row i ∧ (kindAt s'.st i).isSome = true ∧ u = φ' i ∧
      (∀ tmps, FrR H φ s.st s.fr tmps → FrR H φ' s'.st s'.fr tmps) := by
  have rowNot : ∀ {t : TypeId} {K : Kd} {xs : List K.T} {k : Nat}, s.st[k]? = some (.rows t K xs) → holdAt s.st k = false := fun {t K xs k} e => by simp only [holdAt, e]; rfl
  cases v with
  | row k =>
    simp only [St.intoRow] at h
    split at h
    · rename_i e
      cases h
      subst e
      exact ⟨φ, Step.refl hs, .of_keeps (Keeps.refl _ _ _), rfl, hv.2, hv.1, fun _ h => h⟩
    · rename_i hne
      split at h
      · rename_i t K xs hk
        split at h
        · rename_i hi
          cases h
          have hki : k ≠ i := hne
          have li : i < s.st.length := by
            rcases Nat.lt_or_ge i s.st.length with h | h
            · exact h
            · rw [List.getElem?_eq_none h] at hi; cases hi
          have hnv : holdAt s.st i = false := by
            unfold holdAt
            cases hb : s.st[i]? with
            | none => rfl
            | some b => rw [hb] at hi; cases b <;> first | rfl | cases hi
          have lk : k < s.st.length := (List.getElem?_eq_some_iff.1 hk).1
          let st2 := ((s.st.map (Box.kill [i, k])).set i (.rows t K xs)).set k .dead
          let φ2 : Phi := fun j => if j = i then φ k else φ j
          let μ : Nat → Nat := fun j => if j = i then k else j
          have gi : st2[i]? = some (.rows t K xs) := by
            simp only [st2]; rw [List.getElem?_set, if_neg hki, List.getElem?_set]; simp [li]
          have gk : st2[k]? = some .dead := by
            simp only [st2]; rw [List.getElem?_set]; simp [lk]
          have go : ∀ j, j ≠ i → j ≠ k → st2[j]? = (s.st.map (Box.kill [i, k]))[j]? := fun j h1 h2 => by
            simp only [st2]; rw [List.getElem?_set, if_neg (Ne.symm h2), List.getElem?_set, if_neg (Ne.symm h1)]
          have hsk := hs.kill [i, k]
          have hl : ∀ j b2, st2[j]? = some b2 → b2.live = true → blk (φ2 j) = none ∨ ∃ b, s.st[μ j]? = some b ∧ b.live = true ∧ φ2 j = φ (μ j) := by
            intro j b2 hj hlv
            right
            by_cases e1 : j = i
            · subst e1
              exact ⟨_, by simpa [μ] using hk, rfl, by simp [φ2, μ]⟩
            · by_cases e2 : j = k
              · subst e2; rw [gk] at hj; cases hj; cases hlv
              · rw [go j e1 e2, List.getElem?_map] at hj
                cases hb : s.st[j]? with
                | none => rw [hb] at hj; cases hj
                | some b0 =>
                  rw [hb] at hj
                  cases hj
                  exact ⟨b0, by simpa [μ, e1] using hb, by cases b0 <;> exact hlv, by simp [φ2, μ, e1]⟩
          have hsr : SR H φ2 st2 w := by
            refine Step.pick hs μ (fun j b2 hj => ?_) hl (fun j j' b2 b2' hj hj' l1 l2 _ _ e => ?_) (fun j cs hj o q hq => ?_)
            · by_cases e1 : j = i
              · subst e1
                rw [gi] at hj
                cases hj
                simpa [φ2] using hs.box k _ hk
              · by_cases e2 : j = k
                · subst e2; rw [gk] at hj; cases hj; trivial
                · rw [go j e1 e2] at hj
                  simpa [φ2, e1] using hsk.box j b2 hj
            · have nk : ∀ j b2, st2[j]? = some b2 → b2.live = true → j ≠ k := fun j b2 hj l e => by subst e; rw [gk] at hj; cases hj; cases l
              have n1 := nk j b2 hj l1
              have n2 := nk j' b2' hj' l2
              simp only [μ] at e
              by_cases e1 : j = i <;> by_cases e2 : j' = i
              · rw [e1, e2]
              · rw [if_pos e1, if_neg e2] at e; exact absurd e.symm n2
              · rw [if_neg e1, if_pos e2] at e; exact absurd e n1
              · rw [if_neg e1, if_neg e2] at e; exact e
            · have e1 : j ≠ i := fun e => by subst e; rw [gi] at hj; cases hj
              have e2 : j ≠ k := fun e => by subst e; rw [gk] at hj; cases hj
              rw [go j e1 e2] at hj
              have hn := kill_none hj hq
              obtain ⟨c1, b, c2, c3⟩ := hsk.cell j cs hj o q hq
              have q1 : q ≠ i := fun e => by subst e; simp [hasN] at hn
              have q2 : q ≠ k := fun e => by subst e; simp [hasN] at hn
              refine ⟨?_, b, by simpa [φ2, e1] using c2, by simpa [φ2, q1] using c3⟩
              unfold kindAt at c1 ⊢
              rw [go q q1 q2]
              exact c1
          have hkb : KeepsBut φ s.st φ2 st2 [i, k] := by
            refine ⟨fun j hn _ => ?_, fun j hvj => ?_⟩
            · have q1 : j ≠ i := fun e => by subst e; simp [hasN] at hn
              have q2 : j ≠ k := fun e => by subst e; simp [hasN] at hn
              refine ⟨by simp [φ2, q1], ?_, ?_⟩
              · have : kindAt st2 j = kindAt (s.st.map (Box.kill [i, k])) j := by unfold kindAt; rw [go j q1 q2]
                rw [this, kindAt_map (cellsOnly_kill _)]
              · have : varAt st2 j = varAt (s.st.map (Box.kill [i, k])) j := by unfold varAt; rw [go j q1 q2]
                rw [this, varAt_map (cellsOnly_kill _)]
            · have q1 : j ≠ i := fun e => by subst e; rw [hnv] at hvj; cases hvj
              have q2 : j ≠ k := fun e => by subst e; rw [rowNot hk] at hvj; cases hvj
              have t1 : holdAt st2 j = holdAt (s.st.map (Box.kill [i, k])) j := by unfold holdAt; rw [go j q1 q2]
              have t2 : varAt st2 j = varAt (s.st.map (Box.kill [i, k])) j := by unfold varAt; rw [go j q1 q2]
              exact ⟨by simp [φ2, q1], by rw [t1, holdAt_map (cellsOnly_kill _)]; exact hvj, by rw [t2, varAt_map (cellsOnly_kill _)]⟩
          refine ⟨φ2, Step.ghost hs μ hsr hl (fun j h => ⟨(hkb.2 j h).1, (hkb.2 j h).2.1⟩), hkb, rfl, by unfold kindAt; rw [gi]; rfl, by simp only [φ2, if_true]; exact hv.1, fun tmps hf => hf.kill hkb⟩
        · cases h
      · cases h
  | nil =>
    simp only [St.intoRow] at h
    split at h
    · rename_i t K xs hi
      cases h
      have li : i < s.st.length := (List.getElem?_eq_some_iff.1 hi).1
      let st2 := (s.st.map (Box.kill [i])).set i (.rows t K [])
      let φ2 : Phi := fun j => if j = i then .slice none 0 0 else φ j
      have gi : st2[i]? = some (.rows t K []) := by simp only [st2]; rw [List.getElem?_set]; simp [li]
      have go : ∀ j, j ≠ i → st2[j]? = (s.st.map (Box.kill [i]))[j]? := fun j h1 => by simp only [st2]; rw [List.getElem?_set, if_neg (Ne.symm h1)]
      have hsk := hs.kill [i]
      have hl : ∀ j b2, st2[j]? = some b2 → b2.live = true → blk (φ2 j) = none ∨ ∃ b, s.st[j]? = some b ∧ b.live = true ∧ φ2 j = φ j := by
        intro j b2 hj hlv
        by_cases e1 : j = i
        · subst e1; left; simp [φ2, blk]
        · right
          rw [go j e1, List.getElem?_map] at hj
          cases hb : s.st[j]? with
          | none => rw [hb] at hj; cases hj
          | some b0 =>
            rw [hb] at hj
            cases hj
            exact ⟨b0, rfl, by cases b0 <;> exact hlv, by simp [φ2, e1]⟩
      have hsr : SR H φ2 st2 w := by
        refine Step.pick hs id (fun j b2 hj => ?_) hl (fun j j' b2 b2' hj hj' l1 l2 _ _ e => e) (fun j cs hj o q hq => ?_)
        · by_cases e1 : j = i
          · subst e1
            rw [gi] at hj
            cases hj
            refine ⟨[], ⟨by simp, .inl ⟨by simp [φ2], rfl⟩⟩, fun j x hx => by simp at hx⟩
          · rw [go j e1] at hj
            simpa [φ2, e1] using hsk.box j b2 hj
        · have e1 : j ≠ i := fun e => by subst e; rw [gi] at hj; cases hj
          rw [go j e1] at hj
          have hn := kill_none hj hq
          obtain ⟨c1, b, c2, c3⟩ := hsk.cell j cs hj o q hq
          have q1 : q ≠ i := fun e => by subst e; simp [hasN] at hn
          refine ⟨?_, b, by simpa [φ2, e1] using c2, by simpa [φ2, q1] using c3⟩
          unfold kindAt at c1 ⊢
          rw [go q q1]
          exact c1
      have hkb : KeepsBut φ s.st φ2 st2 [i] := by
        refine ⟨fun j hn _ => ?_, fun j hvj => ?_⟩
        · have q1 : j ≠ i := fun e => by subst e; simp [hasN] at hn
          refine ⟨by simp [φ2, q1], ?_, ?_⟩
          · have : kindAt st2 j = kindAt (s.st.map (Box.kill [i])) j := by unfold kindAt; rw [go j q1]
            rw [this, kindAt_map (cellsOnly_kill _)]
          · have : varAt st2 j = varAt (s.st.map (Box.kill [i])) j := by unfold varAt; rw [go j q1]
            rw [this, varAt_map (cellsOnly_kill _)]
        · have q1 : j ≠ i := fun e => by subst e; rw [rowNot hi] at hvj; cases hvj
          have t1 : holdAt st2 j = holdAt (s.st.map (Box.kill [i])) j := by unfold holdAt; rw [go j q1]
          have t2 : varAt st2 j = varAt (s.st.map (Box.kill [i])) j := by unfold varAt; rw [go j q1]
          exact ⟨by simp [φ2, q1], by rw [t1, holdAt_map (cellsOnly_kill _)]; exact hvj, by rw [t2, varAt_map (cellsOnly_kill _)]⟩
      refine ⟨φ2, Step.ghost hs id hsr hl (fun j h => ⟨(hkb.2 j h).1, (hkb.2 j h).2.1⟩), hkb, rfl, by unfold kindAt; rw [gi]; rfl, by simp only [φ2, if_true]; exact hv, fun tmps hf => hf.kill hkb⟩
    · cases h
  | _ => simp [St.intoRow] at h

/-- What a cell's value is told as. -/
def Told (H : HP) (φ : Phi) (st : List Box) (a : AV) (u : Value) : Prop := VW H a u ∧ ∀ i, a = .row i → (kindAt st i).isSome = true ∧ u = φ i

theorem Told.of_VF {a : AV} {u : Value} (h : VF H a u) : Told H φ st a u := ⟨VW.of_VF h, fun i e => by subst e; exact h.elim⟩
theorem Told.mono {H' : HP} {φ' : Phi} {st' : List Box} {ids : List Nat} (hH : H.le H') (hk : KeepsBut φ st φ' st' ids) {a : AV} {u : Value} (h : Told H φ st a u) (hn : a.rowIn ids = false) : Told H' φ' st' a u :=
  ⟨h.1.mono hH, fun i e => by
    subst e
    obtain ⟨h1, h2⟩ := h.2 i rfl
    obtain ⟨k1, k2, _⟩ := hk.1 i hn (.inl h1)
    exact ⟨by rw [k2]; exact h1, h2.trans k1.symm⟩⟩

theorem into_step {s s' : St} {own : Bool} {c v a : AV} {ids : List Nat} {u : Value} (hs : SR H φ s.st w) (hv : VC H φ s.st v u) (h : s.into own c v = some (a, s', ids)) :
    ∃ H' φ', Step H φ s.st w H' φ' s'.st w ∧ KeepsBut φ s.st φ' s'.st ids ∧ Told H' φ' s'.st a u ∧ (∀ tmps, FrR H φ s.st s.fr tmps → FrR H' φ' s'.st s'.fr tmps) := by
  have row : ∀ i, s.intoRow i v = some (a, s', ids) → ∃ H' φ', Step H φ s.st w H' φ' s'.st w ∧ KeepsBut φ s.st φ' s'.st ids ∧ Told H' φ' s'.st a u ∧ (∀ tmps, FrR H φ s.st s.fr tmps → FrR H' φ' s'.st s'.fr tmps) := by
    intro i h
    obtain ⟨φ', h1, h2, rfl, h4, h5, h6⟩ := intoRow_step hs hv h
    exact ⟨H, φ', h1, h2, ⟨trivial, fun j e => by cases e; exact ⟨h4, h5⟩⟩, h6⟩
  unfold St.into at h
  split at h
  · exact row _ h
  · exact row _ h
  · split at h
    · split at h
      · cases h
        exact ⟨H, φ, Step.refl hs, .of_keeps (Keeps.refl _ _ _), ⟨trivial, fun j e => by cases e; exact ⟨hv.2, hv.1⟩⟩, fun _ h => h⟩
      · split at h
        · rename_i hsol
          cases h
          exact ⟨H, φ, Step.refl hs, .of_keeps (Keeps.refl _ _ _), Told.of_VF (hv.solid hsol), fun _ h => h⟩
        · cases h
    · cases hk : s.keep v with
      | none => rw [hk] at h; cases h
      | some x =>
        obtain ⟨a', s1⟩ := x
        rw [hk] at h
        cases h
        obtain ⟨H1, g1, k1, f1, e1, _⟩ := keep_step hs hv hk
        exact ⟨H1, φ, g1, .of_keeps k1, Told.of_VF f1, fun tmps hf => by rw [e1]; exact hf.mono g1.le k1⟩

theorem intoAll_step : ∀ {cs vs as : List AV} {s s' : St} {own : Bool} {ids : List Nat} {us : List Value} {H : HP} {φ : Phi}, SR H φ s.st w → All2 (VC H φ s.st) vs us → s.intoAll own cs vs = some (as, s', ids) →
    ∃ H' φ', Step H φ s.st w H' φ' s'.st w ∧ KeepsBut φ s.st φ' s'.st ids ∧ All2 (Told H' φ' s'.st) as us ∧ (∀ tmps, FrR H φ s.st s.fr tmps → FrR H' φ' s'.st s'.fr tmps)
  | [], [], as, s, s', own, ids, us, H, φ, hs, hv, h => by
    cases h
    cases hv
    exact ⟨H, φ, Step.refl hs, .of_keeps (Keeps.refl _ _ _), rfl, fun _ h => h⟩
  | [], _ :: _, as, s, s', own, ids, us, H, φ, hs, hv, h => by simp [St.intoAll] at h
  | _ :: _, [], as, s, s', own, ids, us, H, φ, hs, hv, h => by simp [St.intoAll] at h
  | c :: cs, v :: vs, as, s, s', own, ids, us, H, φ, hs, hv, h => by
    obtain ⟨u, r, rfl, hu, hr⟩ := hv
    simp only [St.intoAll] at h
    cases h1 : s.into own c v with
    | none => rw [h1] at h; cases h
    | some y =>
      obtain ⟨a1, s1, i1⟩ := y
      rw [h1] at h
      simp only [Option.bind_some] at h
      cases h2 : s1.intoAll own cs (vs.map (AV.kill1 i1)) with
      | none => rw [h2] at h; cases h
      | some z =>
        obtain ⟨a2, s2, i2⟩ := z
        rw [h2] at h
        simp only [Option.bind_some] at h
        split at h
        · cases h
        · rename_i hn
          cases h
          obtain ⟨H1, φ1, g1, k1, t1, f1⟩ := into_step hs hu h1
          obtain ⟨H2, φ2, g2, k2, t2, f2⟩ := intoAll_step g1.sr (hr.map fun _ _ h => h.kill_mono g1.le k1) h2
          exact ⟨H2, φ2, g1.trans g2, k1.trans k2, ⟨u, r, rfl, t1.mono g2.le k2 (by simpa using hn), t2⟩, fun tmps hf => f2 tmps (f1 tmps hf)⟩

theorem All2.splice {R : AV → Value → Prop} {as cs : List AV} {vs us : List Value} {o : Nat} (h : All2 R cs us) (g : All2 R as vs) (ho : o + as.length ≤ cs.length) :
    All2 R (putCells cs o as) (us.take o ++ vs ++ us.drop (o + vs.length)) := by
  rw [putCells_eq as cs o ho, g.length]
  exact ((h.take o).append g).append (h.drop _)

theorem keep_back {s s' : St} {a a' : AV} (h : s.keep a = some (a', s')) {i : Nat} {b : Box} (hi : s'.st[i]? = some b) (hl : b.live = true) : s.st[i]? = some b := by
  cases a with
  | row id =>
    simp only [St.keep] at h
    split at h
    · cases h
      simp only [List.getElem?_set] at hi
      split at hi
      · split at hi
        · cases hi; cases hl
        · cases hi
      · exact hi
    · cases h; exact hi
    · cases h
  | fn f caps => cases caps <;> first | (cases h; exact hi) | cases h
  | _ => first | (cases h; exact hi) | cases h
theorem keepAll_back : ∀ {as as' : List AV} {s s' : St}, s.keepAll as = some (as', s') → True ∧ ∀ {i : Nat} {b : Box}, s'.st[i]? = some b → b.live = true → s.st[i]? = some b
  | [], as', s, s', h => by cases h; exact ⟨trivial, fun hi _ => hi⟩
  | a :: as, as', s, s', h => by
    simp only [St.keepAll] at h
    cases hk : s.keep a with
    | none => rw [hk] at h; cases h
    | some x =>
      rw [hk] at h
      simp only [Option.bind_some] at h
      cases hq : x.2.keepAll as with
      | none => rw [hq] at h; cases h
      | some y =>
        rw [hq] at h
        cases h
        exact ⟨trivial, fun hi hl => keep_back hk ((keepAll_back hq).2 hi hl) hl⟩

theorem storeAt_step {s s' : St} {own : Bool} {p : AV} {pv : Value} {as : List AV} {v : Value} {t : TypeId} {tmps : Array Value} (hs : SR H φ s.st w) (hf : FrR H φ s.st s.fr tmps) (hp : VC H φ s.st p pv)
    (hv : All2 (VC H φ s.st) as v.cells.toList) (h : s.storeAt own p as = some s') (hsz : szB P t as.length = true) :
    ∃ H' φ' w', (Instr.storeAt t pv v).run P w = .ok () w' ∧ Step H φ s.st w H' φ' s'.st w' ∧ FrR H' φ' s'.st s'.fr tmps ∧
      ∀ (i : Nat) (bx : Box), s.st[i]? = some bx → bx.live = true → (∀ id, ((∃ off, p = .ptr id off) ∨ ∃ j off, p = .eptr id j off) → i ≠ id) → ∀ b, blk (φ i) = some b → w'.heap[b]? = w.heap[b]? := by
  have aside : ∀ {id i : Nat} {bi bx : Box} {b : Nat} {cs : Array Value}, s.st[id]? = some bi → bi.live = true → blk (φ id) = some b → s.st[i]? = some bx → bx.live = true → i ≠ id → ∀ b', blk (φ i) = some b' → (w.setRow b cs).heap[b']? = w.heap[b']? := by
    intro id i bi bx b cs h1 h2 h3 h4 h5 h6 b' h7
    exact (grownBy_setRow w b cs).block b' ((hs.box i bx h4).blk_lt h5 h7) (fun e => by cases e; exact hs.sep i id bx bi h4 h1 h5 h2 h6 _ h7 h3)
  have hlen : v.cells.size = as.length := by simpa using hv.length
  cases p with
  | ptr id off =>
    obtain ⟨hva, b, e1, e2⟩ := hp
    simp only [St.storeAt] at h
    cases hb : s.st[id]? with
    | none => rw [hb] at h; cases h
    | some bx =>
      rw [hb] at h
      cases bx with
      | var cs =>
        simp only at h
        split at h
        · rename_i hle
          cases hq : s.intoAll own ((cs.drop off).take as.length) as with
          | none => rw [hq] at h; cases h
          | some y =>
            obtain ⟨as1, s1, ids⟩ := y
            rw [hq] at h
            simp only [Option.bind_some] at h
            split at h
            · rename_i cs' hb'
              cases h
              obtain ⟨l1, l2, l3⟩ := intoAll_good hq
              obtain ⟨H1, φ1, g1, k1, t1, f1⟩ := intoAll_step hs hv hq
              obtain ⟨hφ, _, hva1⟩ := k1.2 id (varAt_hold hva)
              have hva1 := hva1.trans hva
              have hs1 := g1.sr
              obtain ⟨b', c, el, e3, hh, hc⟩ := hs1.box id _ hb'
              rw [hφ, e1] at e3
              cases e3
              have hcl : c.size = cs'.length := by simpa using hc.length
              have hcl0 : cs'.length = cs.length := by
                obtain ⟨b2, c2, el2, e4, hh2, hc2⟩ := hs.box id _ hb
                rw [e1] at e4
                cases e4
                rw [hh] at hh2
                cases hh2
                have := hc.length.symm.trans hc2.length
                exact this
              have hlt : id < s1.st.length := (List.getElem?_eq_some_iff.1 hb').1
              have hone : ∀ u ∈ v.cells.toList, u.oneCell' = true := fun u hu => by
                obtain ⟨j, hj, rfl⟩ := List.getElem_of_mem hu
                obtain ⟨a, ha, hva⟩ := hv.mem j _ (List.getElem?_eq_getElem hj)
                exact (good_one hs (l3 a (List.mem_of_getElem? ha)) hva).1
              have hrun := storeVar_row (P := P) (t := t) (v := v) hh (by rw [hlen]; exact hsz) (o := off) (by omega) hone
              have hl2 : as1.length = as.length := l2
              have hle' : off + as1.length ≤ cs'.length := by omega
              have hkn : kindAt s1.st id = none := by simp only [kindAt, hb']
              have hfit : off + v.cells.toList.length ≤ c.toList.length := by simp only [Array.length_toList]; omega
              have hw' : (w.setRow b (c.toList.take off ++ v.cells.toList ++ c.toList.drop (off + v.cells.toList.length)).toArray).heap[b]? = some (.cells (c.toList.take off ++ v.cells.toList ++ c.toList.drop (off + v.cells.toList.length)).toArray el (0, 0)) := setRow_heap w b _ _ el (0, 0) hh
              have hst := Step.update (w' := w.setRow b (c.toList.take off ++ v.cells.toList ++ c.toList.drop (off + v.cells.toList.length)).toArray) (v' := φ1 id) (bx' := .var (putCells cs' off as1)) hs1 hb' rfl
                (by rw [hφ, e1]; exact grownBy_setRow w b _)
                ⟨b, _, el, hφ.trans e1, hw', by simp only; exact hc.splice (t1.imp fun _ _ h => h.1) hle'⟩
                (fun b hb => .inl hb) (.inl ⟨rfl, rfl⟩)
                (fun k ck hk o ho => by have := (hs1.cell k ck hk o id ho).1; rw [hkn] at this; cases this)
                (fun ck hck o i ho => by
                  cases hck
                  have hne : ∀ {q}, (kindAt s1.st q).isSome = true → q ≠ id := fun {q} g e => by subst e; rw [hkn] at g; cases g
                  have hcell : ∀ u, (c.toList.take off ++ v.cells.toList ++ c.toList.drop (off + v.cells.toList.length))[o]? = some u →
                      (w.setRow b (c.toList.take off ++ v.cells.toList ++ c.toList.drop (off + v.cells.toList.length)).toArray).cell? ⟨b, o, none⟩ = some u := fun u hu => by
                    simp only [World.cell?, hw']
                    simpa using hu
                  rw [putCells_eq as1 cs' off hle', splice_get _ _ _ _ hle'] at ho
                  have hvl : v.cells.toList.length = as1.length := by simp only [Array.length_toList]; omega
                  by_cases h1 : o < off
                  · rw [if_pos h1] at ho
                    obtain ⟨c1, b3, c2, c3⟩ := hs1.cell id cs' hb' o i ho
                    rw [hφ, e1] at c2
                    cases c2
                    refine ⟨hne c1, c1, b, hφ.trans e1, hcell _ ?_⟩
                    rw [splice_get _ _ _ _ hfit, if_pos h1]
                    simpa [World.cell?, hh] using c3
                  · rw [if_neg h1] at ho
                    by_cases h2 : o < off + as1.length
                    · rw [if_pos h2] at ho
                      obtain ⟨u, hu, htold⟩ := t1.get _ _ ho
                      obtain ⟨c1, c2⟩ := htold.2 i rfl
                      refine ⟨hne c1, c1, b, hφ.trans e1, hcell _ ?_⟩
                      rw [splice_get _ _ _ _ hfit, if_neg h1, if_pos (by omega), hu, c2]
                    · rw [if_neg h2] at ho
                      obtain ⟨c1, b3, c2, c3⟩ := hs1.cell id cs' hb' o i ho
                      rw [hφ, e1] at c2
                      cases c2
                      refine ⟨hne c1, c1, b, hφ.trans e1, hcell _ ?_⟩
                      rw [splice_get _ _ _ _ hfit, if_neg h1, if_neg (by omega)]
                      simpa [World.cell?, hh] using c3)
              refine ⟨H1, _, _, by rw [e2]; exact hrun, g1.trans hst, ?_, fun i bx hi hl hn b' hb' => aside hb rfl (by rw [e1]; rfl) hi hl (hn id (.inl ⟨off, rfl⟩)) b' hb'⟩
              refine (f1 tmps hf).mono (HP.le_refl _) (keeps_set ?_ ?_ ?_ rfl)
              · have e4 : (s1.st.set id (Box.var (putCells cs' off as1)))[id]? = some (.var (putCells cs' off as1)) := by rw [List.getElem?_set]; simp [hlt]
                simp only [kindAt, e4, hb']
              · have e4 : (s1.st.set id (Box.var (putCells cs' off as1)))[id]? = some (.var (putCells cs' off as1)) := by rw [List.getElem?_set]; simp [hlt]
                simp only [varAt, e4, hb']
              · have e4 : (s1.st.set id (Box.var (putCells cs' off as1)))[id]? = some (.var (putCells cs' off as1)) := by rw [List.getElem?_set]; simp [hlt]
                simp only [holdAt, e4, hb']; rfl
            · cases h
        · cases h
      | _ => cases h
  | eptr id i off =>
    simp only [St.storeAt] at h
    cases hq : s.keepAll as with
    | none => rw [hq] at h; cases h
    | some z =>
    obtain ⟨as1, s1⟩ := z
    rw [hq] at h
    simp only [Option.bind_some] at h
    obtain ⟨H1, g1, k1, hv, fe, _⟩ := keepAll_step hs hv hq
    have hp := VC.mono g1.le k1 (a := .eptr id i off) hp
    have hf : FrR H1 φ s1.st s1.fr tmps := by rw [fe]; exact hf.mono g1.le k1
    have hs0 := hs
    have hs := g1.sr
    have hlen : v.cells.size = as1.length := by simpa using hv.length
    have hsz : szB P t as1.length = true := by rw [← hlen, show v.cells.size = as.length by assumption]; exact hsz
    obtain ⟨b, n, cap, K, hk, hi, e1, e2⟩ := hp
    cases hb : s1.st[id]? with
    | none => rw [hb] at h; cases h
    | some bx =>
      rw [hb] at h
      cases bx with
      | rows t0 K' xs =>
        simp only at h
        split at h
        case isFalse => cases h
        rename_i hoff
        simp only [kindAt, hb, Option.some.injEq, Prod.mk.injEq] at hk
        obtain ⟨rfl, rfl⟩ := hk
        obtain ⟨flat, ho, hr⟩ := hs.box id _ hb
        have hlt : id < s1.st.length := (List.getElem?_eq_some_iff.1 hb).1
        cases hd : K'.dec (putCells (K'.enc (xs.getD i K'.zero)) off as1) with
        | none => rw [hd] at h; cases h
        | some y =>
          obtain ⟨x', r'⟩ := y
          rw [hd] at h
          simp only [Option.bind_some, Option.some.injEq] at h
          subst h
          rcases ho.2 with ⟨e3, hn⟩ | ⟨g, cap', cur, e3, _, hg, hc, hm, hcs, ht⟩
          · rw [e1] at e3; cases e3
          rw [e1] at e3
          simp only [Value.slice.injEq, Option.some.injEq, Addr.mk.injEq] at e3
          obtain ⟨⟨rfl, _⟩, _, rfl⟩ := e3
          have hle1 : (i + 1) * K'.sz ≤ xs.length * K'.sz := Nat.mul_le_mul_right _ hi
          have hle2 : xs.length * K'.sz ≤ cap * K'.sz := Nat.mul_le_mul_right _ hc
          rw [Nat.succ_mul] at hle1
          have hvl : v.cells.toList.length = as1.length := by simpa using hlen
          have hfit : i * K'.sz + off + v.cells.toList.length ≤ cur.toList.length := by simp only [Array.length_toList]; omega
          have hfit2 : i * K'.sz + off + v.cells.toList.length ≤ flat.length := by rw [ho.1]; omega
          have hrun := storeVar_row (P := P) (t := t) (v := v) hg (by rw [hlen]; exact hsz) (o := i * K'.sz + off) (by simp only [Array.length_toList] at hfit; rw [hlen]; omega) hv.oneCell
          let flat' := flat.take (i * K'.sz + off) ++ v.cells.toList ++ flat.drop (i * K'.sz + off + v.cells.toList.length)
          have hown' : (w.setRow b (cur.toList.take (i * K'.sz + off) ++ v.cells.toList ++ cur.toList.drop (i * K'.sz + off + v.cells.toList.length)).toArray).ownsRow 0 t0 K'.sz (φ id) (xs.set i x').length flat' := by
            refine ⟨?_, .inr ⟨b, cap, _, ?_, Nat.zero_le _, setRow_heap w b _ _ t0 (0, 0) hg, by simpa using hc, hm, ?_, ?_⟩⟩
            · simp only [flat']
              rw [splice_length _ _ _ hfit2]
              simpa using ho.1
            · rw [e1]; simp
            · simp only [List.size_toArray]
              rw [splice_length _ _ _ hfit]
              simpa using hcs
            · simp only [List.length_set]
              apply List.ext_getElem?
              intro k
              simp only [flat']
              rw [List.getElem?_take, splice_get _ _ _ _ hfit, splice_get _ _ _ _ hfit2, ← ht]
              simp only [List.getElem?_take]
              by_cases hk1 : k < xs.length * K'.sz
              · simp [hk1]
              · rw [if_neg hk1]
                simp only [hk1, if_false]
                rw [if_neg (by omega), if_neg (by omega)]
          have hrep' : rowRep H1 K' (xs.set i x') flat' := by
            intro j x hx
            by_cases hji : j = i
            · subst hji
              rw [List.getElem?_set] at hx
              simp only [hi, if_true, Option.some.injEq] at hx
              subst hx
              have hold : xs[j]? = some (xs.getD j K'.zero) := by simp [List.getD, hi]
              have hseg := hr j _ hold
              have henc := VFs.of_rep hseg
              have hsp := henc.splice hv (by rw [enc_length]; exact hoff)
              obtain ⟨c1, c2, f1, f2, f3⟩ := rep_of_dec K' hsp hd
              have hl1 := f2.length
              have hl2 : (((flat.drop (j * K'.sz)).take K'.sz).take off ++ v.cells.toList ++ ((flat.drop (j * K'.sz)).take K'.sz).drop (off + v.cells.toList.length)).length = K'.sz := by
                have := hseg.length
                rw [splice_length _ _ _ (by rw [this, hvl]; exact hoff)]
                exact this
              have hc2 : c2 = [] := by
                have := congrArg List.length f1
                rw [hl2, List.length_append, hl1] at this
                exact List.length_eq_zero_iff.1 (by omega)
              subst hc2
              rw [List.append_nil] at f1
              have hfinal : ((flat'.drop (j * K'.sz)).take K'.sz) = c1 := by
                rw [← f1]
                apply List.ext_getElem?
                intro k
                have hsl := hseg.length
                rw [splice_get _ _ _ _ (by rw [hsl, hvl]; exact hoff)]
                simp only [List.getElem?_take, List.getElem?_drop, flat']
                rw [splice_get _ _ _ _ hfit2]
                by_cases hk : k < K'.sz
                · simp only [hk, if_true]
                  by_cases h1 : k < off
                  · rw [if_pos (by omega), if_pos h1]
                  · rw [if_neg (by omega), if_neg h1]
                    by_cases h2 : k < off + v.cells.toList.length
                    · rw [if_pos (by omega), if_pos h2]
                      congr 1
                      omega
                    · rw [if_neg (by omega), if_neg h2]
                · simp only [hk, if_false]
                  rw [if_neg (by omega), if_neg (by omega)]
              rw [hfinal]
              exact f2
            · rw [List.getElem?_set, if_neg (Ne.symm hji)] at hx
              have hseg := hr j x hx
              have hj : j < xs.length := (List.getElem?_eq_some_iff.1 hx).1
              have hfinal : ((flat'.drop (j * K'.sz)).take K'.sz) = ((flat.drop (j * K'.sz)).take K'.sz) := by
                apply List.ext_getElem?
                intro k
                simp only [List.getElem?_take, List.getElem?_drop, flat']
                rw [splice_get _ _ _ _ hfit2]
                by_cases hk : k < K'.sz
                · simp only [hk, if_true]
                  rcases Nat.lt_or_gt_of_ne hji with hlt' | hgt'
                  · have : (j + 1) * K'.sz ≤ i * K'.sz := Nat.mul_le_mul_right _ hlt'
                    rw [Nat.succ_mul] at this
                    rw [if_pos (by omega)]
                  · have : (i + 1) * K'.sz ≤ j * K'.sz := Nat.mul_le_mul_right _ hgt'
                    rw [Nat.succ_mul] at this
                    rw [if_neg (by omega), if_neg (by omega)]
                · simp only [hk, if_false]
              rw [hfinal]
              exact hseg
          have e4 : (s1.st.set id (Box.rows t0 K' (xs.set i x')))[id]? = some (.rows t0 K' (xs.set i x')) := by rw [List.getElem?_set]; simp [hlt]
          refine ⟨H1, fun i => if i = id then φ id else φ i, _, by rw [e2]; exact hrun, g1.trans (Step.update hs hb rfl ?_ ⟨flat', hown', hrep'⟩ (fun b hb => .inl hb) (.inr (by simp only [holdAt, hb]; rfl)) ?_ ?_), ?_, ?_⟩
          rotate_right
          · intro i' bx' hi' hl' hn' b' hb'
            obtain ⟨_, hbr⟩ := keepAll_back hq
            exact aside (hbr hb rfl) rfl (by rw [e1]; rfl) hi' hl' (hn' id (.inr ⟨i, off, rfl⟩)) b' hb'
          · rw [e1]; exact grownBy_setRow w b _
          · exact fun k cs _ o _ => ⟨rfl, by simp only [kindAt, e4]; rfl⟩
          · exact fun cs hcs => by cases hcs
          · refine hf.mono (HP.le_refl _) (keeps_set ?_ ?_ ?_ rfl)
            · simp only [kindAt, e4, hb, List.length_set]
            · simp only [varAt, e4, hb]
            · simp only [holdAt, e4, hb]; rfl
      | mrow t0 K' xs =>
        simp only at h
        split at h
        case isFalse => cases h
        rename_i hoff
        simp only [kindAt, hb, Option.some.injEq, Prod.mk.injEq] at hk
        obtain ⟨rfl, rfl⟩ := hk
        obtain ⟨flat, ho, hr⟩ := hs.box id _ hb
        have hlt : id < s1.st.length := (List.getElem?_eq_some_iff.1 hb).1
        cases hd : K'.dec (putCells (K'.enc (xs.getD i K'.zero)) off as1) with
        | none => rw [hd] at h; cases h
        | some y =>
          obtain ⟨x', r'⟩ := y
          rw [hd] at h
          simp only [Option.bind_some, Option.some.injEq] at h
          subst h
          rcases ho.2 with ⟨e3, hn⟩ | ⟨g, cap', cur, e3, _, hg, hc, hm, hcs, ht⟩
          · rw [e1] at e3; cases e3
          rw [e1] at e3
          simp only [Value.slice.injEq, Option.some.injEq, Addr.mk.injEq] at e3
          obtain ⟨⟨rfl, _⟩, _, rfl⟩ := e3
          have hle1 : (i + 1) * K'.sz ≤ xs.length * K'.sz := Nat.mul_le_mul_right _ hi
          have hle2 : xs.length * K'.sz ≤ cap * K'.sz := Nat.mul_le_mul_right _ hc
          rw [Nat.succ_mul] at hle1
          have hvl : v.cells.toList.length = as1.length := by simpa using hlen
          have hfit : i * K'.sz + off + v.cells.toList.length ≤ cur.toList.length := by simp only [Array.length_toList]; omega
          have hfit2 : i * K'.sz + off + v.cells.toList.length ≤ flat.length := by rw [ho.1]; omega
          have hrun := storeVar_row (P := P) (t := t) (v := v) hg (by rw [hlen]; exact hsz) (o := i * K'.sz + off) (by simp only [Array.length_toList] at hfit; rw [hlen]; omega) hv.oneCell
          let flat' := flat.take (i * K'.sz + off) ++ v.cells.toList ++ flat.drop (i * K'.sz + off + v.cells.toList.length)
          have hown' : (w.setRow b (cur.toList.take (i * K'.sz + off) ++ v.cells.toList ++ cur.toList.drop (i * K'.sz + off + v.cells.toList.length)).toArray).ownsRow 0 t0 K'.sz (φ id) (xs.set i x').length flat' := by
            refine ⟨?_, .inr ⟨b, cap, _, ?_, Nat.zero_le _, setRow_heap w b _ _ t0 (0, 0) hg, by simpa using hc, hm, ?_, ?_⟩⟩
            · simp only [flat']
              rw [splice_length _ _ _ hfit2]
              simpa using ho.1
            · rw [e1]; simp
            · simp only [List.size_toArray]
              rw [splice_length _ _ _ hfit]
              simpa using hcs
            · simp only [List.length_set]
              apply List.ext_getElem?
              intro k
              simp only [flat']
              rw [List.getElem?_take, splice_get _ _ _ _ hfit, splice_get _ _ _ _ hfit2, ← ht]
              simp only [List.getElem?_take]
              by_cases hk1 : k < xs.length * K'.sz
              · simp [hk1]
              · rw [if_neg hk1]
                simp only [hk1, if_false]
                rw [if_neg (by omega), if_neg (by omega)]
          have hrep' : rowRep H1 K' (xs.set i x') flat' := by
            intro j x hx
            by_cases hji : j = i
            · subst hji
              rw [List.getElem?_set] at hx
              simp only [hi, if_true, Option.some.injEq] at hx
              subst hx
              have hold : xs[j]? = some (xs.getD j K'.zero) := by simp [List.getD, hi]
              have hseg := hr j _ hold
              have henc := VFs.of_rep hseg
              have hsp := henc.splice hv (by rw [enc_length]; exact hoff)
              obtain ⟨c1, c2, f1, f2, f3⟩ := rep_of_dec K' hsp hd
              have hl1 := f2.length
              have hl2 : (((flat.drop (j * K'.sz)).take K'.sz).take off ++ v.cells.toList ++ ((flat.drop (j * K'.sz)).take K'.sz).drop (off + v.cells.toList.length)).length = K'.sz := by
                have := hseg.length
                rw [splice_length _ _ _ (by rw [this, hvl]; exact hoff)]
                exact this
              have hc2 : c2 = [] := by
                have := congrArg List.length f1
                rw [hl2, List.length_append, hl1] at this
                exact List.length_eq_zero_iff.1 (by omega)
              subst hc2
              rw [List.append_nil] at f1
              have hfinal : ((flat'.drop (j * K'.sz)).take K'.sz) = c1 := by
                rw [← f1]
                apply List.ext_getElem?
                intro k
                have hsl := hseg.length
                rw [splice_get _ _ _ _ (by rw [hsl, hvl]; exact hoff)]
                simp only [List.getElem?_take, List.getElem?_drop, flat']
                rw [splice_get _ _ _ _ hfit2]
                by_cases hk : k < K'.sz
                · simp only [hk, if_true]
                  by_cases h1 : k < off
                  · rw [if_pos (by omega), if_pos h1]
                  · rw [if_neg (by omega), if_neg h1]
                    by_cases h2 : k < off + v.cells.toList.length
                    · rw [if_pos (by omega), if_pos h2]
                      congr 1
                      omega
                    · rw [if_neg (by omega), if_neg h2]
                · simp only [hk, if_false]
                  rw [if_neg (by omega), if_neg (by omega)]
              rw [hfinal]
              exact f2
            · rw [List.getElem?_set, if_neg (Ne.symm hji)] at hx
              have hseg := hr j x hx
              have hj : j < xs.length := (List.getElem?_eq_some_iff.1 hx).1
              have hfinal : ((flat'.drop (j * K'.sz)).take K'.sz) = ((flat.drop (j * K'.sz)).take K'.sz) := by
                apply List.ext_getElem?
                intro k
                simp only [List.getElem?_take, List.getElem?_drop, flat']
                rw [splice_get _ _ _ _ hfit2]
                by_cases hk : k < K'.sz
                · simp only [hk, if_true]
                  rcases Nat.lt_or_gt_of_ne hji with hlt' | hgt'
                  · have : (j + 1) * K'.sz ≤ i * K'.sz := Nat.mul_le_mul_right _ hlt'
                    rw [Nat.succ_mul] at this
                    rw [if_pos (by omega)]
                  · have : (i + 1) * K'.sz ≤ j * K'.sz := Nat.mul_le_mul_right _ hgt'
                    rw [Nat.succ_mul] at this
                    rw [if_neg (by omega), if_neg (by omega)]
                · simp only [hk, if_false]
              rw [hfinal]
              exact hseg
          have e4 : (s1.st.set id (Box.mrow t0 K' (xs.set i x')))[id]? = some (.mrow t0 K' (xs.set i x')) := by rw [List.getElem?_set]; simp [hlt]
          refine ⟨H1, fun i => if i = id then φ id else φ i, _, by rw [e2]; exact hrun, g1.trans (Step.update hs hb rfl ?_ ⟨flat', hown', hrep'⟩ (fun b hb => .inl hb) (.inl ⟨rfl, rfl⟩) ?_ ?_), ?_, ?_⟩
          rotate_right
          · intro i' bx' hi' hl' hn' b' hb'
            obtain ⟨_, hbr⟩ := keepAll_back hq
            exact aside (hbr hb rfl) rfl (by rw [e1]; rfl) hi' hl' (hn' id (.inr ⟨i, off, rfl⟩)) b' hb'
          · rw [e1]; exact grownBy_setRow w b _
          · exact fun k cs _ o _ => ⟨rfl, by simp only [kindAt, e4]; rfl⟩
          · exact fun cs hcs => by cases hcs
          · refine hf.mono (HP.le_refl _) (keeps_set ?_ ?_ ?_ rfl)
            · simp only [kindAt, e4, hb, List.length_set]
            · simp only [varAt, e4, hb]
            · simp only [holdAt, e4, hb]; rfl
      | _ => cases h
  | _ => cases h

end Go.Proofs.Ytnbfkndicldppaa.Core
