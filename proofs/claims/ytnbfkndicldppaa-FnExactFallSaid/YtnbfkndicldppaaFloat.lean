/- Operations that bring new memory forth may come up ahead of their turn: the memory waits, unknown to all boxes, until its turn comes. -/
import Derived.Test.YtnbfkndicldppaaOps
namespace Go.Proofs.Ytnbfkndicldppaa.Core
open Go

variable {P : Program}

/-- In every world the operation brings forth this object, and nothing else. -/
def Born (P : Program) (o : Oper) (act : Act) (obj : Obj) : Prop := ∀ w : World, (execOp act.eval o).run P w = .ok (.value (bornV o.op w.heap.size)) (w.alloc obj)

/-- A block that no box knows. -/
structure Lone (H : HP) (φ : Phi) (st : List Box) (w : World) (b : Nat) (obj : Obj) : Prop where
  held : w.heap[b]? = some obj
  out : H b = none
  sep : ∀ j bx, st[j]? = some bx → bx.live = true → blk (φ j) ≠ some b

theorem Lone.lt {H : HP} {φ : Phi} {st : List Box} {w : World} {b : Nat} {obj : Obj} (h : Lone H φ st w b obj) : b < w.heap.size := (Array.getElem?_eq_some_iff.1 h.held).1

theorem Lone.step {H H' : HP} {φ φ' : Phi} {st st' : List Box} {w w' : World} {b : Nat} {obj : Obj} (h : Lone H φ st w b obj) (g : Step H φ st w H' φ' st' w') : Lone H' φ' st' w' b obj := by
  let φ0 : Phi := fun j => match st[j]? with
    | some bx => if bx.live = true then φ j else .slice none 0 0
    | none => .slice none 0 0
  have self : Fr 0 st.length H φ0 w H φ st w := ⟨rfl, rfl, rfl, Nat.le_refl _, fun _ _ _ => rfl, fun j hj => absurd hj (Nat.not_lt_zero _), fun i bi hi hl b hb => .inr ⟨i, (List.getElem?_eq_some_iff.1 hi).1, by simp only [φ0, hi, hl, if_true]; exact hb⟩, fun j hj => absurd hj (Nat.not_lt_zero _), fun _ _ _ => rfl⟩
  have f := g.fr 0 st.length H φ0 w self
  have hne : ∀ j, j < st.length → blk (φ0 j) ≠ some b := by
    intro j hj
    simp only [φ0]
    cases hi : st[j]? with
    | none => simp [blk]
    | some bx =>
      simp only
      split
      · rename_i hl; exact h.sep j bx hi hl
      · simp [blk]
  refine ⟨(f.old b h.lt hne).trans h.held, (f.frz b h.lt hne).trans h.out, fun j bx hj hl e => ?_⟩
  rcases f.new j bx hj hl b e with h1 | ⟨k, hk, e2⟩
  · have := h.lt; omega
  · exact hne k hk e2

theorem Step.size {H H' : HP} {φ φ' : Phi} {st st' : List Box} {w w' : World} (g : Step H φ st w H' φ' st' w') : w.heap.size ≤ w'.heap.size :=
  (g.fr 0 st.length H φ w ⟨rfl, rfl, rfl, Nat.le_refl _, fun _ _ _ => rfl, fun j hj => absurd hj (Nat.not_lt_zero _), fun i bi hi hl b hb => .inr ⟨i, (List.getElem?_eq_some_iff.1 hi).1, hb⟩, fun j hj => absurd hj (Nat.not_lt_zero _), fun _ _ _ => rfl⟩).size

theorem Lone.alloc {H : HP} {φ : Phi} {st : List Box} {w : World} (hs : SR H φ st w) (obj : Obj) : Lone H φ st (w.alloc obj) w.heap.size obj :=
  ⟨heap_alloc_new w obj, (hs.fresh (Nat.le_refl _)).1, (hs.fresh (Nat.le_refl _)).2⟩

theorem alloc_inj {w : World} {a b : Obj} (h : w.alloc a = w.alloc b) : a = b := by
  have h1 := heap_alloc_new w a
  rw [h, heap_alloc_new w b] at h1
  exact (Option.some.inj h1).symm

/-- A box of memory that came forth since the base. -/
theorem Step.adopt {Hb H : HP} {φb φ : Phi} {stb st : List Box} {wb w : World} (hB : Step Hb φb stb wb H φ st w) {v : Value} {bx : Box} (hs : SR H (fun i => if i = st.length then v else φ i) (st ++ [bx]) w)
    (hb : bx.live = true → ∀ b, blk v = some b → wb.heap.size ≤ b) : Step Hb φb stb wb H (fun i => if i = st.length then v else φ i) (st ++ [bx]) w where
  le := hB.le
  sr := hs
  fr mv m0 H0 φ0 w0 f := by
    have g := hB.fr mv m0 H0 φ0 w0 f
    refine ⟨g.os, g.tape, g.output, g.size, g.old, fun j hj => ?_, fun i bi hbi hl b hb' => ?_, fun j hj => ?_, g.frz⟩
    · have := holdAt_lt (g.vars j hj)
      rw [if_neg (by omega)]
      exact g.same j hj
    · rcases Nat.lt_trichotomy i st.length with e | e | e
      · rw [List.getElem?_append_left e] at hbi
        simp only [Nat.ne_of_lt e, if_false] at hb'
        exact g.new i bi hbi hl b hb'
      · subst e
        simp at hbi
        subst hbi
        simp only [if_true] at hb'
        exact .inl (Nat.le_trans f.size (hb hl b hb'))
      · rw [List.getElem?_eq_none (by simp; omega)] at hbi; cases hbi
    · have := g.vars j hj
      have hl := holdAt_lt this
      unfold holdAt at this ⊢
      rw [List.getElem?_append_left hl]
      exact this

/-- Memory that came forth since the base is never written again. -/
theorem Step.adoptH {Hb H : HP} {φb φ : Phi} {stb st : List Box} {wb w : World} (hB : Step Hb φb stb wb H φ st w) {b : Nat} {obj : Obj} (hl : Lone H φ st w b obj) (hb : wb.heap.size ≤ b) :
    ∃ H', Step Hb φb stb wb H' φ st w ∧ H' b = some obj ∧ H.le H' ∧ ∀ b', b' ≠ b → H' b' = H b' := by
  have h := hB.sr
  let H' : HP := fun b' => if b' = b then some obj else H b'
  have hle : H.le H' := by
    intro b' o' hb'
    have : b' ≠ b := fun e => by rw [e, hl.out] at hb'; cases hb'
    simp only [H', this, if_false]
    exact hb'
  refine ⟨H', ⟨HP.le_trans hB.le hle, ⟨fun b' o' hb' => ?_, fun id bx hid => ?_, h.sep, fun i bi hi hlv b' hb' => ?_, h.cell⟩, fun mv m0 H0 φ0 w0 f => ?_⟩, by simp [H'], hle, fun b' hne => by simp [H', hne]⟩
  · by_cases e : b' = b
    · subst e
      simp only [H', if_true] at hb'
      rw [← hb']
      exact hl.held
    · simp only [H', e, if_false] at hb'
      exact h.hp b' o' hb'
  · have := h.box id bx hid
    cases bx with
    | var cs => obtain ⟨b, c, el, e1, e2, e3⟩ := this; exact ⟨b, c, el, e1, e2, e3.imp fun _ _ h => h.mono hle⟩
    | rows t' K' xs' => obtain ⟨flat', o', r'⟩ := this; exact ⟨flat', o', fun j x hx => (r' j x hx).mono hle⟩
    | mrow t' K' xs' => obtain ⟨flat', o', r'⟩ := this; exact ⟨flat', o', fun j x hx => (r' j x hx).mono hle⟩
    | frz K' xs' => obtain ⟨r', a'⟩ := this; exact ⟨reps_mono (fun _ _ h => Rep.mono hle h) hle r', a'⟩
    | dead => trivial
  · have : b' ≠ b := fun e => by subst e; exact hl.sep i bi hi hlv hb'
    simp only [H', this, if_false]
    exact h.out i bi hi hlv b' hb'
  · have g := hB.fr mv m0 H0 φ0 w0 f
    refine { g with frz := fun b' hb' hn => ?_ }
    have := f.size
    have : b' ≠ b := by omega
    simp only [H', this, if_false]
    exact g.frz b' hb' hn

theorem keepAll_solid {s : St} : ∀ {cs : List AV}, cs.all AV.solid = true → s.keepAll cs = some (cs, s)
  | [], _ => rfl
  | c :: cs, h => by
    simp only [List.all_cons, Bool.and_eq_true] at h
    have h1 : s.keep c = some (c, s) := by
      have := h.1
      cases c with
      | fn f caps => cases caps <;> first | rfl | cases this
      | _ => first | rfl | (simp [AV.solid] at this)
    simp [St.keepAll, h1, keepAll_solid h.2]
theorem keepAlls_firm {s : St} : ∀ {as : List AV}, as.all AV.firm = true → s.keepAlls as = some (as.map AV.cells, s)
  | [], _ => rfl
  | a :: as, h => by
    simp only [List.all_cons, Bool.and_eq_true] at h
    have h1 : a.cells.all AV.solid = true := by
      have := h.1
      cases a with
      | agg cs => exact this
      | _ => simp only [AV.cells, List.all_cons, List.all_nil, Bool.and_true]; exact this
    simp [St.keepAlls, keepAll_solid h1, keepAlls_firm h.2]

theorem float_cases {ao : AOp} (h : ao.isFloat = true) : (∃ d cs, ao = .alloc d cs) ∨ (∃ d e K qs, ao = .brow d e K qs) ∨ (∃ d K qs, ao = .blst d K qs) := by
  cases ao <;> first | (simp [AOp.isFloat] at h; done) | exact .inl ⟨_, _, rfl⟩ | exact .inr (.inl ⟨_, _, _, _, rfl⟩) | exact .inr (.inr ⟨_, _, _, rfl⟩)

theorem born_bs {H : HP} {φ : Phi} {s : St} {act : Act} {w : World} {n : Nat} {o : Oper} {d : Nat} {K : Kd} {qs : List Opd} {e : TypeId} (h : bsB P n o d K qs e = true) (hs : SR H φ s.st w) (hf : FrR H φ s.st s.fr act.tmps)
    (hk : ((qs.map s.opd).all AV.firm && (K.ofs ((qs.map s.opd).map AV.cells)).isSome) = true) : ∃ obj, Born P o act obj := by
  simp only [Bool.and_eq_true] at hk
  obtain ⟨_, _, _, vs, e2, _, hb, hrun⟩ := bs_run h hf
  obtain ⟨H1, g1, k1, f1, _, _⟩ := keepAlls_step hs e2 (keepAlls_firm hk.1)
  obtain ⟨xs, hx⟩ := Option.isSome_iff_exists.1 hk.2
  obtain ⟨_, _, s1'⟩ := ofs_ok K f1 hx
  exact ⟨_, fun w => by rw [hb]; exact hrun s1' w⟩

theorem born_ok {H : HP} {φ : Phi} {s : St} {act : Act} {w : World} {n : Nat} {o : Oper} {ao : AOp} (h : opB P n o ao = true) (hfl : ao.isFloat = true) (hk : ao.floatOk s = true) (hs : SR H φ s.st w) (hf : FrR H φ s.st s.fr act.tmps) :
    ∃ obj, Born P o act obj := by
  rcases float_cases hfl with ⟨d, cs, rfl⟩ | ⟨d, e, K, qs, rfl⟩ | ⟨d, K, qs, rfl⟩
  · simp only [opB, allocB, Bool.and_eq_true] at h
    have h2 := h.2
    split at h2
    · rename_i t ho
      obtain ⟨i, z, hi, hz, _⟩ := zeroC_ok h2
      exact ⟨.cells z.cells t, fun w => by simp [execOp, ho, Instr.alloc, zeroValue, typeInfo, hi, hz, newVar, newRow, bornV]⟩
    · cases h2
  · exact born_bs h hs hf hk
  · simp only [opB] at h
    split at h
    · exact born_bs h hs hf hk
    · cases h

theorem FrR.cons {H : HP} {φ : Phi} {st : List Box} {fr : List (Nat × AV)} {tmps : Array Value} (h : FrR H φ st fr tmps) {d : Nat} {a : AV} (ha : VA H φ st a (tmps.getD d undef)) : FrR H φ st ((d, a) :: fr) tmps := by
  intro t
  simp only [getT]
  split
  · rename_i e; subst e; exact ha
  · exact h t

/-- Its turn has come: the memory that waits is told to the boxes. -/
theorem adopt_ok {Hb H : HP} {φb φ : Phi} {stb : List Box} {wb w : World} {s : St} {act : Act} {n : Nat} {o : Oper} {ao : AOp} {cal : Cal} (h : opB P n o ao = true) (hfl : ao.isFloat = true) (hk0 : ao.floatOk s = true)
    (hB : Step Hb φb stb wb H φ s.st w) (hf : FrR H φ s.st s.fr act.tmps) {ρ : Type} {kn : St → Option ρ} {r : ρ} (hk : opK cal kn s ao = some r) {obj : Obj} (hborn : Born P o act obj) {b : Nat}
    (hd : ∀ d, o.dst = some d → act.tmps.getD d undef = bornV o.op b) (hl : Lone H φ s.st w b obj) (hbb : wb.heap.size ≤ b) :
    ∃ s' H' φ', kn s' = some r ∧ Step Hb φb stb wb H' φ' s'.st w ∧ FrR H' φ' s'.st s'.fr act.tmps ∧ ∀ b' obj', b' ≠ b → Lone H φ s.st w b' obj' → Lone H' φ' s'.st w b' obj' := by
  have hs := hB.sr
  rcases float_cases hfl with ⟨d, cs, rfl⟩ | ⟨d, e, K, qs, rfl⟩ | ⟨d, K, qs, rfl⟩
  · simp only [opB, allocB, Bool.and_eq_true] at h
    obtain ⟨hdd, _⟩ := dstB_ok h.1
    have h2 := h.2
    split at h2
    · rename_i t ho
      obtain ⟨i, z, hi, hz, hv⟩ := zeroC_ok h2
      have hobj : obj = .cells z.cells t := by
        have e1 := hborn w
        have e2 : (execOp act.eval o).run P w = .ok (.value (.pointer (some ⟨w.heap.size, 0, none⟩))) (w.alloc (.cells z.cells t)) := by simp [execOp, ho, Instr.alloc, zeroValue, typeInfo, hi, hz, newVar, newRow]
        rw [e2] at e1
        exact alloc_inj (Result.ok.inj e1).2.symm
      subst hobj
      obtain ⟨φ1, g1, k1, told, len⟩ := pushRows (hv H) hs
      have hl1 := hl.step g1
      have hd1 : act.tmps.getD d undef = .pointer (some ⟨b, 0, none⟩) := by rw [hd d hdd, ho]; rfl
      have hsr := g1.sr.push (v := .pointer (some ⟨b, 0, none⟩)) (bx := .var (openC s.st.length cs)) ⟨b, z.cells, t, rfl, hl1.held, told.imp fun _ _ h => h.1⟩
        (fun _ b' hb' => by
          simp only [blk, Option.some.injEq] at hb'
          subst hb'
          exact ⟨hl1.out, hl1.sep⟩)
        (fun cs' e o' i' ho' => by
          cases e
          obtain ⟨u, hu, ht⟩ := told.get o' _ ho'
          obtain ⟨q1, q2⟩ := ht.2 i' rfl
          refine ⟨q1, _, rfl, ?_⟩
          simp only [World.cell?, hl1.held]
          rw [← q2]
          simpa using hu)
      have hst := (hB.trans g1).adopt hsr (fun _ b' hb' => by
        simp only [blk, Option.some.injEq] at hb'
        omega)
      simp only [opK] at hk
      refine ⟨_, H, _, hk, hst, ?_, ?_⟩
      · refine FrR.cons ((hf.mono (HP.le_refl H) k1).mono (HP.le_refl H) (keeps_append φ1 (s.st ++ openB cs) _ _)) ?_
        rw [hd1]
        refine ⟨by rw [← len]; exact varAt_new _ _, b, by simp [len], rfl⟩
      · intro b' obj' hne hq
        have hq1 := hq.step g1
        refine ⟨hq1.held, hq1.out, fun j bx hj hlv e => ?_⟩
        rcases Nat.lt_trichotomy j (s.st ++ openB cs).length with e1 | e1 | e1
        · rw [List.getElem?_append_left e1] at hj
          simp only [Nat.ne_of_lt e1, if_false] at e
          exact hq1.sep j bx hj hlv e
        · rw [if_pos e1] at e
          simp only [blk, Option.some.injEq] at e
          omega
        · rw [List.getElem?_eq_none (by simp at e1 ⊢; omega)] at hj; cases hj
    · cases h2
  · simp only [AOp.floatOk, Bool.and_eq_true] at hk0
    obtain ⟨hdd, hdn, hsm, vs, e2, e3, hbv, hrun⟩ := bs_run (e := e) h hf
    simp only [opK, keepAlls_firm hk0.1, Option.bind_some] at hk
    obtain ⟨H1, g1, k1, f1, _, _⟩ := keepAlls_step hs e2 (keepAlls_firm hk0.1)
    cases hx : K.ofs ((qs.map s.opd).map AV.cells) with
    | none => rw [hx] at hk; cases hk
    | some xs =>
      rw [hx] at hk
      simp only [Option.bind_some] at hk
      obtain ⟨l1, r1, s1'⟩ := ofs_ok K f1 hx
      have hflat := flat_length s1'
      have hmax : vs.length ≤ maxLen := by
        have hpos := Kd.sz_pos K
        have : qs.length ≤ qs.length * K.sz := Nat.le_mul_of_pos_right _ hpos
        simp only [maxLen]
        omega
      have hobj : obj = .cells (vs.flatMap fun v => v.cells.toList).toArray e := by
        have e1 := hborn w
        rw [hrun s1' w] at e1
        exact alloc_inj (Result.ok.inj e1).2.symm
      subst hobj
      have hl1 := hl.step g1
      have hsr := g1.sr.push (v := .slice (some ⟨b, 0, none⟩) vs.length vs.length) (bx := .rows e K xs)
        ⟨vs.flatMap fun v => v.cells.toList, ⟨by rw [hflat, l1], .inr ⟨b, vs.length, _, by rw [l1], Nat.zero_le _, hl1.held, by omega, hmax, by simp [hflat], by show List.take _ _ = _; rw [l1, ← hflat]; exact List.take_length⟩⟩, r1⟩
        (fun _ b' hb' => by
          simp only [blk, Option.some.injEq] at hb'
          subst hb'
          exact ⟨hl1.out, hl1.sep⟩) (fun cs e => by cases e)
      have hst := (hB.trans g1).adopt hsr (fun _ b' hb' => by
        simp only [blk, Option.some.injEq] at hb'
        omega)
      refine ⟨_, H1, _, hk, hst, ?_, ?_⟩
      · refine FrR.cons ((hf.mono g1.le k1).mono (HP.le_refl _) (keeps_append φ s.st _ _)) ?_
        rw [hd d hdd, hbv]
        exact ⟨by simp, by simp [kindAt]⟩
      · intro b' obj' hne hq
        have hq1 := hq.step g1
        refine ⟨hq1.held, hq1.out, fun j bx hj hlv e => ?_⟩
        rcases Nat.lt_trichotomy j s.st.length with e1 | e1 | e1
        · rw [List.getElem?_append_left e1] at hj
          simp only [Nat.ne_of_lt e1, if_false] at e
          exact hq1.sep j bx hj hlv e
        · rw [if_pos e1] at e
          simp only [blk, Option.some.injEq] at e
          omega
        · rw [List.getElem?_eq_none (by simp; omega)] at hj; cases hj
  · simp only [opB] at h
    split at h
    case h_2 => cases h
    simp only [AOp.floatOk, Bool.and_eq_true] at hk0
    obtain ⟨hdd, hdn, hsm, vs, e2, e3, hbv, hrun⟩ := bs_run h hf
    simp only [opK, keepAlls_firm hk0.1, Option.bind_some] at hk
    obtain ⟨H1, g1, k1, f1, _, _⟩ := keepAlls_step hs e2 (keepAlls_firm hk0.1)
    cases hx : K.ofs ((qs.map s.opd).map AV.cells) with
    | none => rw [hx] at hk; cases hk
    | some xs =>
      rw [hx] at hk
      simp only [Option.bind_some] at hk
      obtain ⟨l1, r1, s1'⟩ := ofs_ok K f1 hx
      have hflat := flat_length s1'
      have e1 := hborn w
      rw [hrun s1' w] at e1
      have hobj := (alloc_inj (Result.ok.inj e1).2).symm
      have hl1 := hl.step g1
      obtain ⟨H2, hst, hb2, hle2, hoth⟩ := (hB.trans g1).adoptH hl1 hbb
      rw [hobj] at hb2
      refine ⟨_, H2, φ, hk, hst, ?_, ?_⟩
      · refine FrR.cons ((hf.mono g1.le k1).mono hle2 (Keeps.refl _ _ _)) ?_
        rw [hd d hdd, hbv]
        refine ⟨_, vs.length, by rw [l1], by rw [l1]; exact Nat.le_refl _, .inr ⟨b, 0, _, _, (0, 0), rfl, hb2, fun j x hx => ?_⟩⟩
        obtain ⟨cs, c1, c2, c3⟩ := rowRep_get r1 (by rw [hflat, l1]) hx
        refine ⟨cs, c1.mono hle2, c2, fun i u hu => ?_⟩
        have := c3 i u hu
        simpa using this
      · intro b' obj' hne hq
        have hq1 := hq.step g1
        exact ⟨hq1.held, (hoth b' hne).trans hq1.out, hq1.sep⟩

end Go.Proofs.Ytnbfkndicldppaa.Core
