/- Closed cells opened into boxes, and a callee's store laid back into its caller's: facts on lists. -/
import Derived.Test.YtnbfkndicldppaaOp7
namespace Go.Proofs.Ytnbfkndicldppaa.Core
open Go

theorem av_cells (K : Kd) (x : K.T) : (K.av x).cells = K.enc x := by cases K <;> rfl

def AV.nilFree : AV → Bool
  | .nil => false
  | .ref cs => cs.all fun c => c.solid && (match c with | .nil => false | _ => true)
  | _ => true

/-- Cells without nil are what their kind writes. -/
theorem dec_enc : ∀ (K : Kd) (cs r : List AV) (x : K.T), cs.all AV.nilFree = true → K.dec cs = some (x, r) → cs = K.enc x ++ r := by
  intro K
  induction K with
  | int k =>
    intro cs r x hn h
    cases cs with
    | nil => simp [Kd.dec] at h
    | cons a cs =>
      cases a <;> simp [Kd.dec] at h
      obtain ⟨rfl, rfl, rfl⟩ := h
      rfl
  | bool =>
    intro cs r x hn h
    cases cs with
    | nil => simp [Kd.dec] at h
    | cons a cs =>
      cases a <;> simp [Kd.dec] at h
      obtain ⟨rfl, rfl⟩ := h
      rfl
  | str =>
    intro cs r x hn h
    cases cs with
    | nil => simp [Kd.dec] at h
    | cons a cs =>
      cases a <;> simp [Kd.dec] at h
      obtain ⟨rfl, rfl⟩ := h
      rfl
  | slice e ih =>
    intro cs r x hn h
    cases cs with
    | nil => simp [Kd.dec] at h
    | cons a cs =>
      cases a with
      | nil => simp [AV.nilFree] at hn
      | lst K xs =>
        simp only [Kd.dec] at h
        split at h
        · rename_i hk
          subst hk
          cases h
          rfl
        · cases h
      | _ => simp [Kd.dec] at h
  | pair a b iha ihb =>
    intro cs r x hn h
    simp only [Kd.dec] at h
    cases h1 : a.dec cs with
    | none => simp [h1] at h
    | some p =>
      simp only [h1, Option.bind_some] at h
      cases h2 : b.dec p.2 with
      | none => simp [h2] at h
      | some q =>
        simp only [h2, Option.bind_some, Option.some.injEq, Prod.mk.injEq] at h
        obtain ⟨rfl, rfl⟩ := h
        have e1 := iha cs p.2 p.1 hn h1
        have hn2 : p.2.all AV.nilFree = true := by
          rw [e1, List.all_append, Bool.and_eq_true] at hn
          exact hn.2
        have e2 := ihb p.2 q.2 q.1 hn2 h2
        simp only [Kd.enc, List.append_assoc]
        rw [← e2]
        exact e1
  | own t e ih =>
    intro cs r x hn h
    cases cs with
    | nil => simp [Kd.dec] at h
    | cons a cs =>
      cases a with
      | new t' e' xs =>
        simp only [Kd.dec] at h
        split at h
        · rename_i ht
          split at h
          · rename_i hk
            subst ht hk
            cases h
            rfl
          · cases h
        · cases h
      | _ => simp [Kd.dec] at h
  | ref K ih =>
    intro cs r x hn h
    cases cs with
    | nil => simp [Kd.dec] at h
    | cons a cs =>
      cases a with
      | ref cs' =>
        simp only [Kd.dec] at h
        cases h1 : K.dec cs' with
        | none => rw [h1] at h; cases h
        | some p =>
          rw [h1] at h
          simp only [Option.bind_some] at h
          split at h
          · rename_i hp
            cases h
            simp only [List.all_cons, Bool.and_eq_true, AV.nilFree] at hn
            have := ih cs' [] p.1 (List.all_eq_true.2 fun c hc => by
              have := List.all_eq_true.1 hn.1 c hc
              simp only [Bool.and_eq_true] at this
              cases c <;> first | rfl | exact this.2 | cases this.1) (by rw [h1]; cases p; simp_all)
            rw [List.append_nil] at this
            rw [this]
            rfl
          · cases h
      | _ => simp [Kd.dec] at h
  | «fun» f =>
    intro cs r x hn h
    cases cs with
    | nil => simp [Kd.dec] at h
    | cons a cs =>
      cases a with
      | fn f' caps =>
        cases caps with
        | nil =>
          simp only [Kd.dec] at h
          split at h
          · rename_i e
            subst e
            cases h
            rfl
          · cases h
        | cons _ _ => simp [Kd.dec] at h
      | _ => simp [Kd.dec] at h
  | clo f K ih =>
    intro cs r x hn h
    cases cs with
    | nil => simp [Kd.dec] at h
    | cons a cs =>
      cases a with
      | clo f' K' y =>
        simp only [Kd.dec] at h
        split at h
        · rename_i e
          subst e
          split at h
          · rename_i hk
            subst hk
            cases h
            rfl
          · cases h
        · cases h
      | _ => simp [Kd.dec] at h

/-- How many closed cells a kind has. -/
def Kd.news : Kd → Nat
  | .pair a b => a.news + b.news
  | .own _ _ => 1
  | .ref _ => 1
  | _ => 0
theorem newCount_append : ∀ (a b : List AV), newCount (a ++ b) = newCount a + newCount b
  | [], b => by simp [newCount]
  | x :: a, b => by simp only [List.cons_append, newCount, newCount_append a b]; split <;> omega
theorem newCount_enc : ∀ (K : Kd) (x : K.T), newCount (K.enc x) = K.news
  | .int _, _ => rfl
  | .bool, _ => rfl
  | .str, _ => rfl
  | .slice _, _ => rfl
  | .pair a b, x => by simp [Kd.enc, newCount_append, newCount_enc a, newCount_enc b, Kd.news]
  | .own _ _, _ => rfl
  | .ref _, _ => rfl
  | .fun _, _ => rfl
  | .clo _ _, _ => rfl

theorem openB_length : ∀ cs : List AV, (openB cs).length = newCount cs
  | [] => rfl
  | a :: r => by
    have := openB_length r
    cases a <;> simp [openB, newCount, AV.isNew, this]
theorem openB_append : ∀ (a b : List AV), openB (a ++ b) = openB a ++ openB b
  | [], b => rfl
  | x :: a, b => by
    have := openB_append a b
    cases x <;> simp [openB, this]
theorem openC_length : ∀ (cs : List AV) (k : Nat), (openC k cs).length = cs.length
  | [], _ => rfl
  | a :: r, k => by
    cases a <;> simp [openC, openC_length r]
theorem openC_append : ∀ (a b : List AV) (k : Nat), openC k (a ++ b) = openC k a ++ openC (k + newCount a) b
  | [], b, k => by simp [openC, newCount]
  | x :: a, b, k => by
    cases x <;> simp [openC, newCount, AV.isNew, openC_append a b, Nat.add_assoc, Nat.add_comm 1]

/-- All boxes that values bring along: their cells end to end. -/
def cellsOf (vs : List AV) : List AV := vs.flatMap AV.cells
theorem newBoxes_eq : ∀ vs : List AV, newBoxes vs = openB (cellsOf vs)
  | [] => rfl
  | v :: r => by simp [newBoxes, cellsOf, openB_append, newBoxes_eq r]
/-- The same of boxes that are handed over. -/
def cellsOO (vs : List AV) : List AV := vs.flatMap AV.cellsO
theorem newBoxesO_eq : ∀ vs : List AV, newBoxesO vs = openB (cellsOO vs)
  | [] => rfl
  | v :: r => by simp [newBoxesO, cellsOO, openB_append, newBoxesO_eq r]
theorem openVars_get : ∀ (vs : List AV) (k j : Nat) (v : AV), vs[j]? = some v → (openVars k vs)[j]? = some (boxO (k + newCount (cellsOO (vs.take j))) v)
  | [], k, j, v, h => by simp at h
  | u :: r, k, 0, v, h => by simp at h; subst h; simp [openVars, cellsOO, newCount]
  | u :: r, k, j + 1, v, h => by
    simp only [openVars, List.getElem?_cons_succ]
    rw [openVars_get r _ j v (by simpa using h)]
    simp [cellsOO, newCount_append, Nat.add_assoc]
theorem openVars_length : ∀ (vs : List AV) (k : Nat), (openVars k vs).length = vs.length
  | [], _ => rfl
  | v :: r, k => by simp [openVars, openVars_length r]
theorem exitSt_eq (outs vs : List AV) : exitSt outs vs = openVars outs.length outs ++ openB (cellsOO outs ++ cellsOf vs) := by
  simp [exitSt, newBoxes_eq, newBoxesO_eq, openB_append]
theorem handed_eq (outs : List AV) : handed outs = outs.length + newCount (cellsOO outs) := by simp [handed, newBoxesO_eq, openB_length]
theorem exitSt_length (outs vs : List AV) : (exitSt outs vs).length = outs.length + newCount (cellsOO outs) + newCount (cellsOf vs) := by
  simp [exitSt_eq, openVars_length, openB_length, newCount_append, Nat.add_assoc]

theorem isOwn_ok {K : Kd} (h : K.isOwn = true) : ∃ t e, K = .own t e := by cases K <;> first | exact ⟨_, _, rfl⟩ | cases h
/-- What stands for a variable, and what for a row that is lent for writing. -/
theorem av_cellsO {K : Kd} (x : K.T) (h : K.isOwn = false) : (K.av x).cellsO = K.enc x ∧ ∀ k, boxO k (K.av x) = .var (openC k (K.enc x)) := by
  cases K <;> first | exact ⟨rfl, fun _ => rfl⟩ | cases h
theorem own_cellsO {t : TypeId} {e : Kd} (x : (Kd.own t e).T) : ((Kd.own t e).av x).cellsO = [] ∧ ∀ k, boxO k ((Kd.own t e).av x) = .mrow t e x := ⟨rfl, fun _ => rfl⟩

/-- A place in opened cells that refers to a box. -/
theorem openC_row : ∀ (cs : List AV) (k o q : Nat), (∀ c ∈ cs, ∀ i, c ≠ .row i) → (openC k cs)[o]? = some (.row q) → ∃ m t e xs, q = k + m ∧ (openB cs)[m]? = some (.rows t e xs) ∧ m < newCount cs
  | [], k, o, q, _, h => by simp [openC] at h
  | a :: r, k, o, q, hn, h => by
    have ih := openC_row r
    have hn' : ∀ c ∈ r, ∀ i, c ≠ .row i := fun c hc => hn c (by simp [hc])
    cases a with
    | new t e xs =>
      simp only [openC] at h
      cases o with
      | zero => simp at h; subst h; exact ⟨0, t, e, xs, rfl, rfl, by simp [newCount, AV.isNew]⟩
      | succ o =>
        obtain ⟨m, t', e', xs', h1, h2, h3⟩ := ih (k + 1) o q hn' (by simpa using h)
        exact ⟨m + 1, t', e', xs', by omega, by simpa [openB] using h2, by simp [newCount, AV.isNew]; omega⟩
    | ref cs =>
      simp only [openC] at h
      cases o with
      | zero => simp at h
      | succ o =>
        obtain ⟨m, t', e', xs', h1, h2, h3⟩ := ih (k + 1) o q hn' (by simpa using h)
        exact ⟨m + 1, t', e', xs', by omega, by simpa [openB] using h2, by simp [newCount, AV.isNew]; omega⟩
    | row i => exact absurd rfl (hn (.row i) (by simp) i)
    | _ =>
      simp only [openC] at h
      cases o with
      | zero => simp at h
      | succ o =>
        obtain ⟨m, t', e', xs', h1, h2, h3⟩ := ih k o q hn' (by simpa using h)
        exact ⟨m, t', e', xs', h1, by simpa [openB] using h2, by simpa [newCount, AV.isNew] using h3⟩

theorem hasN_true {l : List Nat} {i : Nat} : hasN l i = true ↔ i ∈ l := by
  induction l with
  | nil => simp [hasN]
  | cons a r ih =>
    simp only [hasN]
    split
    · rename_i e; subst e; simp
    · rename_i e; rw [ih]; simp [Ne.symm e]
theorem hasN_false {l : List Nat} {i : Nat} : hasN l i = false ↔ i ∉ l := by
  rw [← hasN_true]; simp
theorem nodupN_ok : ∀ {l : List Nat}, nodupN l = true → l.Nodup
  | [], _ => List.nodup_nil
  | a :: r, h => by
    simp only [nodupN, Bool.and_eq_true, Bool.not_eq_true'] at h
    exact List.nodup_cons.2 ⟨hasN_false.1 h.1, nodupN_ok h.2⟩
theorem apartN_ok : ∀ {a b : List Nat}, apartN a b = true → ∀ i ∈ a, i ∉ b
  | [], b, _, i, hi => by cases hi
  | x :: a, b, h, i, hi => by
    simp only [apartN, Bool.and_eq_true, Bool.not_eq_true'] at h
    rcases List.mem_cons.1 hi with rfl | hi
    · exact hasN_false.1 h.1
    · exact apartN_ok h.2 i hi
theorem liveRows_ok {st : List Box} : ∀ {l : List Nat}, liveRows st l = true → ∀ i ∈ l, ∃ (t : TypeId) (K : Kd), ∃ xs : List (Kd.T K), st[i]? = some (Box.rows t K xs)
  | [], _, i, hi => by cases hi
  | x :: l, h, i, hi => by
    simp only [liveRows, Bool.and_eq_true] at h
    rcases List.mem_cons.1 hi with rfl | hi
    · have := h.1
      split at this
      · rename_i t K xs e; exact ⟨t, K, xs, e⟩
      · cases this
    · exact liveRows_ok h.2 i hi

theorem idxN_some : ∀ {l : List Nat} {i k : Nat}, idxN l i = some k → l[k]? = some i
  | [], i, k, h => by simp [idxN] at h
  | a :: r, i, k, h => by
    simp only [idxN] at h
    split at h
    · rename_i e; cases h; simp [e]
    · cases hq : idxN r i with
      | none => rw [hq] at h; cases h
      | some q => rw [hq] at h; cases h; simpa using idxN_some hq
theorem idxN_none : ∀ {l : List Nat} {i : Nat}, idxN l i = none → i ∉ l
  | [], i, h => by simp
  | a :: r, i, h => by
    simp only [idxN] at h
    split at h
    · cases h
    · rename_i e
      cases hq : idxN r i with
      | none => have := idxN_none hq; simp [Ne.symm e, this]
      | some q => rw [hq] at h; cases h
theorem idxN_of {l : List Nat} (hd : l.Nodup) {i k : Nat} (h : l[k]? = some i) : idxN l i = some k := by
  cases hq : idxN l i with
  | none => exact absurd (List.mem_of_getElem? h) (idxN_none hq)
  | some q =>
    have h2 := idxN_some hq
    have hk := (List.getElem?_eq_some_iff.1 h).1
    have := (List.getElem?_inj hk hd).1 (h.trans h2.symm)
    rw [this]

theorem graftAt_get {back gone : List Nat} {nv n : Nat} {est : List Box} : ∀ (st : List Box) (i0 i : Nat), (graftAt back gone nv n est i0 st)[i]? = (st[i]?).map fun b =>
    if hasN gone (i0 + i) = true then .dead else match idxN back (i0 + i) with
      | some k => (backB b (est.getD k .dead)).ren (renN back n)
      | none => b.kill (back.drop nv ++ gone)
  | [], i0, i => by simp [graftAt]
  | b :: st, i0, 0 => by simp only [graftAt, List.getElem?_cons_zero, Option.map_some, Nat.add_zero]; rfl
  | b :: st, i0, i + 1 => by
    simp only [graftAt, List.getElem?_cons_succ]
    rw [graftAt_get st (i0 + 1) i]
    rw [show i0 + 1 + i = i0 + (i + 1) by omega]
theorem graftAt_length {back gone : List Nat} {nv n : Nat} {est : List Box} : ∀ (st : List Box) (i0 : Nat), (graftAt back gone nv n est i0 st).length = st.length
  | [], _ => rfl
  | b :: st, i0 => by simp [graftAt, graftAt_length st]

structure Grafted (st : List Box) (nv : Nat) (back gone : List Nat) (est st2 : List Box) : Prop where
  ofCallee : ∀ (k : Nat) (b : Box), est[k]? = some b → ∃ b', st2[renN back st.length k]? = some (b'.ren (renN back st.length)) ∧ (b' = b ∨ ∃ (t : TypeId) (K : Kd), ∃ xs : List (Kd.T K), k < back.length ∧ b = .mrow t K xs ∧ b' = .rows t K xs ∧ ∃ (i : Nat) (t' : TypeId) (K' : Kd), ∃ xs' : List (Kd.T K'), back[k]? = some i ∧ st[i]? = some (Box.rows t' K' xs'))
  ret : ∀ (k i : Nat) (b b0 : Box), est[k]? = some b → back[k]? = some i → st[i]? = some b0 → st2[i]? = some ((backB b0 b).ren (renN back st.length))
  other : ∀ (i : Nat) (b : Box), i ∉ back → i ∉ gone → st[i]? = some b → st2[i]? = some (b.kill (back.drop nv ++ gone))
  dead : ∀ i : Nat, i ∈ gone → i < st.length → st2[i]? = some .dead
  cases : ∀ (i : Nat) (b : Box), st2[i]? = some b → (∃ k, k < est.length ∧ i = renN back st.length k) ∨ (i < st.length ∧ i ∉ back ∧ i ∉ gone) ∨ (i ∈ gone ∧ b = .dead)

theorem graft_ok {st : List Box} {nv : Nat} {back gone : List Nat} {est : List Box} (hd : back.Nodup) (hg : ∀ i ∈ back, i ∉ gone) (hb : ∀ i ∈ back, i < st.length) (hl : back.length ≤ est.length) :
    Grafted st nv back gone est (graft st nv back gone est) := by
  have hlen := graftAt_length (back := back) (gone := gone) (nv := nv) (n := st.length) (est := est) st 0
  have hback : ∀ (k i : Nat) (b b0 : Box), est[k]? = some b → back[k]? = some i → st[i]? = some b0 → (graft st nv back gone est)[i]? = some ((backB b0 b).ren (renN back st.length)) := by
    intro k i b b0 hk hbk hi
    have hlt := (List.getElem?_eq_some_iff.1 hi).1
    unfold graft
    rw [List.getElem?_append_left (by omega), graftAt_get, hi, Option.map_some, Nat.zero_add]
    have h1 : hasN gone i = false := hasN_false.2 (hg _ (List.mem_of_getElem? hbk))
    have h2 : idxN back i = some k := idxN_of hd hbk
    simp only [h1, Bool.false_eq_true, if_false, h2]
    simp [List.getD, hk]
  refine ⟨fun k b hk => ?_, hback, fun i b h1 h2 hi => ?_, fun i h1 hi => ?_, fun i b hi => ?_⟩
  · by_cases hkm : k < back.length
    · have e : back.getD k 0 = back[k] := by simp [List.getD, hkm]
      have hlt := hb back[k] (by simp)
      have hren : renN back st.length k = back[k] := by unfold renN; rw [if_pos hkm, e]
      rw [hren]
      refine ⟨_, hback k back[k] b st[back[k]] hk (by simp) (by simp), ?_⟩
      have hst : st[back[k]]? = some st[back[k]] := by simp
      generalize st[back[k]] = b0 at hst ⊢
      cases b0 with
      | rows t' K' xs' =>
        cases b with
        | mrow t K xs => exact .inr ⟨t, K, xs, hkm, rfl, rfl, back[k], t', K', xs', by simp, hst⟩
        | _ => exact .inl rfl
      | _ => exact .inl rfl
    · refine ⟨b, ?_, .inl rfl⟩
      unfold graft renN
      rw [if_neg hkm, List.getElem?_append_right (by omega), hlen, List.getElem?_map, List.getElem?_drop]
      rw [show back.length + (st.length + (k - back.length) - st.length) = k by omega, hk]
      rfl
  · have hlt := (List.getElem?_eq_some_iff.1 hi).1
    unfold graft
    rw [List.getElem?_append_left (by omega), graftAt_get, hi, Option.map_some, Nat.zero_add, hasN_false.2 h2]
    have : idxN back i = none := by
      cases hq : idxN back i with
      | none => rfl
      | some q => exact absurd (List.mem_of_getElem? (idxN_some hq)) h1
    simp [this]
  · unfold graft
    rw [List.getElem?_append_left (by omega), graftAt_get, List.getElem?_eq_getElem hi, Option.map_some, Nat.zero_add, hasN_true.2 h1]
    rfl
  · have hlt := (List.getElem?_eq_some_iff.1 hi).1
    have htot : (graft st nv back gone est).length = st.length + (est.length - back.length) := by simp [graft, hlen]
    rcases Nat.lt_or_ge i st.length with h | h
    · by_cases h1 : i ∈ gone
      · right; right
        refine ⟨h1, ?_⟩
        unfold graft at hi
        rw [List.getElem?_append_left (by omega), graftAt_get, List.getElem?_eq_getElem h, Option.map_some, Nat.zero_add, hasN_true.2 h1] at hi
        simpa using hi.symm
      · by_cases h2 : i ∈ back
        · left
          obtain ⟨k, hk, rfl⟩ := List.getElem_of_mem h2
          exact ⟨k, by omega, by simp [renN, hk, List.getD]⟩
        · exact .inr (.inl ⟨h, h2, h1⟩)
    · left
      refine ⟨back.length + (i - st.length), by omega, ?_⟩
      unfold renN
      rw [if_neg (by omega)]
      omega

theorem renN_inj {st : List Box} {back : List Nat} (hd : back.Nodup) (hb : ∀ i ∈ back, i < st.length) {k k' : Nat} (h : renN back st.length k = renN back st.length k') : k = k' := by
  unfold renN at h
  by_cases h1 : k < back.length <;> by_cases h2 : k' < back.length
  · rw [if_pos h1, if_pos h2] at h
    have e1 : back.getD k 0 = back[k] := by simp [List.getD, h1]
    have e2 : back.getD k' 0 = back[k'] := by simp [List.getD, h2]
    rw [e1, e2] at h
    exact (List.getElem?_inj h1 hd).1 (by simp [h1, h2, h])
  · rw [if_pos h1, if_neg h2] at h
    have e1 : back.getD k 0 = back[k] := by simp [List.getD, h1]
    have := hb back[k] (by simp)
    omega
  · rw [if_neg h1, if_pos h2] at h
    have e1 : back.getD k' 0 = back[k'] := by simp [List.getD, h2]
    have := hb back[k'] (by simp)
    omega
  · rw [if_neg h1, if_neg h2] at h
    omega

/-- What closing a box's cells comes to: the caller's cells are the opened ones, renamed. -/
structure CloseFacts (st : List Box) (cs cl : List AV) (ids : List Nat) : Prop where
  len : cl.length = cs.length
  cnt : newCount cl = ids.length
  nf : cl.all AV.nilFree = true
  nr : ∀ c ∈ cl, ∀ i, c ≠ .row i
  boxes : ∀ (m : Nat) (b : Box), (openB cl)[m]? = some b → ∃ (i : Nat) (t : TypeId) (e : Kd), ∃ xs : List (Kd.T e), ids[m]? = some i ∧ st[i]? = some (Box.rows t e xs) ∧ b = Box.rows t e xs
  cells : ∀ (k o : Nat) (a : AV), (openC k cl)[o]? = some a → ∃ c, cs[o]? = some c ∧ ((∃ m i : Nat, a = AV.row (k + m) ∧ ids[m]? = some i ∧ c = AV.row i) ∨ (a.solid = true ∧ c.solid = true ∧ ∀ (H : HP) (u : Value), VF H c u → VF H a u))

theorem CloseFacts.plain {st : List Box} {cs cl : List AV} {ids : List Nat} {a v : AV} (hc : CloseFacts st cs cl ids) (hn : a.nilFree = true) (hs : a.solid = true) (hvs : v.solid = true) (hv : ∀ H u, VF H v u → VF H a u) :
    CloseFacts st (v :: cs) (a :: cl) ids := by
  have o1 : ∀ k, openC k (a :: cl) = a :: openC k cl := fun k => by cases a <;> first | rfl | cases hs
  have o2 : openB (a :: cl) = openB cl := by cases a <;> first | rfl | cases hs
  have o3 : newCount (a :: cl) = newCount cl := by cases a <;> first | rfl | cases hs
  refine ⟨by simp [hc.len], by rw [o3]; exact hc.cnt, by simp [hn, hc.nf], fun c hm i => ?_, fun m b hb => by rw [o2] at hb; exact hc.boxes m b hb, fun k o b hb => ?_⟩
  · rcases List.mem_cons.1 hm with rfl | hm
    · intro e; subst e; cases hs
    · exact hc.nr c hm i
  · rw [o1] at hb
    cases o with
    | zero =>
      simp at hb
      subst hb
      exact ⟨v, rfl, .inr ⟨hs, hvs, hv⟩⟩
    | succ o => simpa using hc.cells k o b (by simpa using hb)

theorem norm_ok {k : Kd} {v a : AV} (h : v.norm k = some a) : a.nilFree = true ∧ a.solid = true ∧ v.solid = true ∧ ∀ H u, VF H v u → VF H a u := by
  unfold AV.norm at h
  split at h
  · split at h
    · cases h
      exact ⟨rfl, rfl, rfl, fun H u hu => by simp only [VF] at hu ⊢; subst hu; exact reps_nil⟩
    · cases h
  · rename_i hnn
    split at h
    · rename_i hs
      cases h
      refine ⟨?_, hs, hs, fun _ _ h => h⟩
      cases v <;> first | exact absurd rfl hnn | rfl | cases hs
    · cases h

theorem CloseFacts.row {st : List Box} {cs cl : List AV} {ids : List Nat} {i : Nat} {t : TypeId} {e : Kd} {xs : List e.T} (hc : CloseFacts st cs cl ids) (hi : st[i]? = some (.rows t e xs)) :
    CloseFacts st (.row i :: cs) (.new t e xs :: cl) (i :: ids) := by
  refine ⟨by simp [hc.len], by simp [newCount, AV.isNew, hc.cnt], by simp [AV.nilFree, hc.nf], fun c hm j => ?_, fun m b hb => ?_, fun k o a ha => ?_⟩
  · rcases List.mem_cons.1 hm with rfl | hm
    · simp
    · exact hc.nr c hm j
  · simp only [openB] at hb
    cases m with
    | zero => simp at hb; subst hb; exact ⟨i, t, e, xs, rfl, hi, rfl⟩
    | succ m => simpa using hc.boxes m b (by simpa using hb)
  · simp only [openC] at ha
    cases o with
    | zero => simp at ha; subst ha; exact ⟨.row i, rfl, .inl ⟨0, i, rfl, rfl, rfl⟩⟩
    | succ o =>
      obtain ⟨c, c1, c2⟩ := hc.cells (k + 1) o a (by simpa using ha)
      refine ⟨c, by simpa using c1, ?_⟩
      rcases c2 with ⟨m, j, e1, e2, e3⟩ | c2
      · exact .inl ⟨m + 1, j, by rw [e1]; congr 1; omega, by simpa using e2, e3⟩
      · exact .inr c2

theorem closeC_ok {st : List Box} : ∀ {ks : List Kd} {cs cl : List AV} {ids : List Nat}, closeC st ks cs = some (cl, ids) → CloseFacts st cs cl ids
  | [], [], cl, ids, h => by
    cases h
    exact ⟨rfl, rfl, rfl, by simp, fun m b h => by simp [openB] at h, fun k o a h => by simp [openC] at h⟩
  | [], _ :: _, cl, ids, h => by simp [closeC] at h
  | _ :: _, [], cl, ids, h => by simp [closeC] at h
  | k0 :: ks, v :: vs, cl, ids, h => by
    have norm : ((v.norm k0).bind fun a => (closeC st ks vs).bind fun y => some (a :: y.1, y.2)) = some (cl, ids) → CloseFacts st (v :: vs) cl ids := by
      intro h
      cases hq : v.norm k0 with
      | none => rw [hq] at h; cases h
      | some a =>
        rw [hq] at h
        simp only [Option.bind_some] at h
        cases hc : closeC st ks vs with
        | none => rw [hc] at h; cases h
        | some y =>
          rw [hc] at h
          cases h
          obtain ⟨n1, n2, n3, n4⟩ := norm_ok hq
          exact (closeC_ok hc).plain n1 n2 n3 n4
    cases v with
    | row i =>
      simp only [closeC] at h
      split at h
      · split at h
        · rename_i t e xs hi
          cases hc : closeC st ks vs with
          | none => rw [hc] at h; cases h
          | some y =>
            rw [hc] at h
            cases h
            exact (closeC_ok hc).row hi
        · cases h
      · cases h
    | _ => exact norm h

end Go.Proofs.Ytnbfkndicldppaa.Core
