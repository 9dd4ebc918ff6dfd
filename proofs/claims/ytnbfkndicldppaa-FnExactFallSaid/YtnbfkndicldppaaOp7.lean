/- Slice literals and appends. -/
import Derived.Test.YtnbfkndicldppaaOp6
import Derived.Great.BuildSlice
namespace Go.Proofs.Ytnbfkndicldppaa.Core
open Go

variable {P : Program}

theorem keepAlls_step {φ : Phi} {w : World} : ∀ {as : List AV} {css : List (List AV)} {s s' : St} {H : HP} {vs : List Value}, SR H φ s.st w → All2 (VA H φ s.st) as vs → s.keepAlls as = some (css, s') →
    ∃ H', Step H φ s.st w H' φ s'.st w ∧ Keeps φ s.st φ s'.st none ∧ All2 (fun cs v => VFs H' cs v.cells.toList) css vs ∧ s'.fr = s.fr ∧ s'.st.length = s.st.length
  | [], css, s, s', H, vs, hs, hv, h => by
    cases h
    cases hv
    exact ⟨H, Step.refl hs, Keeps.refl _ _ _, rfl, rfl, rfl⟩
  | a :: as, css, s, s', H, vs, hs, hv, h => by
    obtain ⟨v, r, rfl, h1, h2⟩ := hv
    simp only [St.keepAlls] at h
    cases hk : s.keepAll a.cells with
    | none => rw [hk] at h; cases h
    | some x =>
      obtain ⟨a', s1⟩ := x
      rw [hk] at h
      simp only [Option.bind_some] at h
      obtain ⟨H1, g1, k1, f1, e1, n1⟩ := keepCells_step hs h1 hk
      cases hq : s1.keepAlls as with
      | none => rw [hq] at h; cases h
      | some y =>
        obtain ⟨b', s2⟩ := y
        rw [hq] at h
        cases h
        obtain ⟨H2, g2, k2, f2, e2, n2⟩ := keepAlls_step g1.sr (h2.imp fun _ _ h => h.mono g1.le k1) hq
        exact ⟨H2, g1.trans g2, k1.trans k2, ⟨v, r, rfl, f1.mono g2.le, f2⟩, e2.trans e1, n2.trans n1⟩

theorem rowRep_one {H : HP} {K : Kd} {x : K.T} {c : List Value} (h : Rep H K x c) : rowRep H K [x] c := by
  intro j y hy
  have hj : j = 0 := by
    have := (List.getElem?_eq_some_iff.1 hy).1
    simpa using this
  subst hj
  simp at hy
  subst hy
  have := h.length
  rw [Nat.zero_mul, List.drop_zero, List.take_of_length_le (by omega)]
  exact h

theorem ofs_ok {H : HP} (K : Kd) : ∀ {css : List (List AV)} {vs : List Value} {xs : List K.T}, All2 (fun cs v => VFs H cs v.cells.toList) css vs → K.ofs css = some xs →
    xs.length = vs.length ∧ rowRep H K xs (vs.flatMap fun v => v.cells.toList) ∧ (∀ v ∈ vs, v.cells.size = K.sz)
  | [], vs, xs, h, e => by
    cases h
    cases e
    exact ⟨rfl, fun j x hx => by simp at hx, fun v hv => by cases hv⟩
  | cs :: css, vs, xs, h, e => by
    obtain ⟨v, r, rfl, h1, h2⟩ := h
    simp only [Kd.ofs] at e
    cases hd : K.dec cs with
    | none => rw [hd] at e; cases e
    | some y =>
      obtain ⟨y, rr⟩ := y
      rw [hd] at e
      simp only [Option.bind_some] at e
      cases rr with
      | cons _ _ => cases e
      | nil =>
        simp only at e
        cases hq : K.ofs css with
        | none => rw [hq] at e; cases e
        | some ys =>
          rw [hq] at e
          cases e
          obtain ⟨l1, r1, s1⟩ := ofs_ok K h2 hq
          obtain ⟨c1, c2, e1, e2, e3⟩ := rep_of_dec K h1 hd
          cases e3
          rw [List.append_nil] at e1
          rw [← e1] at e2
          have hsz := e2.length
          refine ⟨by simp [l1], ?_, ?_⟩
          · have := rowRep_append (rowRep_one e2) (by simpa using hsz) r1
            simpa using this
          · intro u hu
            cases hu with
            | head => simpa using hsz
            | tail _ hm => exact s1 u hm

def bslB : Nat → List (Nat × Operand) → List Opd → Bool
  | _, [], [] => true
  | i, (j, y) :: ps, x :: qs => i == j && opdB y x && bslB (i + 1) ps qs
  | _, _, _ => false

theorem bsl_ok {H : HP} {φ : Phi} {s : St} {act : Act} (hf : FrR H φ s.st s.fr act.tmps) : ∀ (i : Nat) (ps : List (Nat × Operand)) (qs : List Opd), bslB i ps qs = true →
    ∃ vs : List Value, (ps.map fun p => (p.1, act.eval p.2)) = (vs.zipIdx i).map (fun x => (x.2, x.1)) ∧ All2 (VA H φ s.st) (qs.map s.opd) vs ∧ vs.length = qs.length
  | _, [], [], _ => ⟨[], rfl, rfl, rfl⟩
  | i, (j, y) :: ps, x :: qs, h => by
    simp only [bslB, Bool.and_eq_true, beq_iff_eq] at h
    obtain ⟨⟨rfl, hy⟩, h⟩ := h
    obtain ⟨vs, e1, e2, e3⟩ := bsl_ok hf (i + 1) ps qs h
    exact ⟨act.eval y :: vs, by simp [e1], ⟨_, _, rfl, opd_ok hf hy, e2⟩, by simp [e3]⟩
  | _, [], _ :: _, h => by simp [bslB] at h
  | _, _ :: _, [], h => by simp [bslB] at h

def bsB (P : Program) (n : Nat) (o : Oper) (d : Nat) (K : Kd) (qs : List Opd) (e : TypeId) : Bool :=
  dstB o n d && elB P e K && decide (qs.length * K.sz ≤ 16777216) && (match o.op with
    | .buildSlice t len ps => len == qs.length && bslB 0 ps.toList qs && (match P.underlying t with | some (.slice e') => e' == e | _ => false)
    | _ => false)

/-- What an operation yields that brings new memory forth, and where. -/
def bornV : Op → Nat → Value
  | .alloc _, b => .pointer (some ⟨b, 0, none⟩)
  | .buildSlice _ len _, b => .slice (some ⟨b, 0, none⟩) len len
  | _, _ => undef

theorem bs_run {H : HP} {φ : Phi} {s : St} {act : Act} {n : Nat} {o : Oper} {d : Nat} {K : Kd} {qs : List Opd} {e : TypeId} (h : bsB P n o d K qs e = true) (hf : FrR H φ s.st s.fr act.tmps) :
    o.dst = some d ∧ d < n ∧ qs.length * K.sz ≤ 16777216 ∧ ∃ vs : List Value, All2 (VA H φ s.st) (qs.map s.opd) vs ∧ vs.length = qs.length ∧ (∀ b, bornV o.op b = .slice (some ⟨b, 0, none⟩) vs.length vs.length) ∧
      ((∀ v ∈ vs, v.cells.size = K.sz) → ∀ w : World, (execOp act.eval o).run P w = .ok (.value (.slice (some ⟨w.heap.size, 0, none⟩) vs.length vs.length)) (w.alloc (.cells (vs.flatMap fun v => v.cells.toList).toArray e))) := by
  simp only [bsB, Bool.and_eq_true, decide_eq_true_eq] at h
  obtain ⟨⟨⟨h1, hel⟩, hsm⟩, h2⟩ := h
  obtain ⟨hd, hdn⟩ := dstB_ok h1
  obtain ⟨i, z, hi, hz, hsz, _, hzs, _⟩ := elB_spec hel
  split at h2
  · rename_i t len ps ho
    simp only [Bool.and_eq_true, beq_iff_eq] at h2
    obtain ⟨⟨hlen, hps⟩, ht⟩ := h2
    have hu : P.underlying t = some (.slice e) := by
      split at ht
      · rename_i e' hu
        simp only [beq_iff_eq] at ht
        rw [hu, ht]
      · cases ht
    obtain ⟨vs, e1, e2, e3⟩ := bsl_ok (s := s) hf 0 ps.toList qs hps
    refine ⟨hd, hdn, hsm, vs, e2, e3, fun b => by rw [ho, e3, ← hlen]; rfl, fun hall w => ?_⟩
    have hparts : (ps.map fun (p : Nat × Operand) => (p.1, act.eval p.2)).toList = (vs.zipIdx 0).map fun x => (x.2, x.1) := by rw [Array.toList_map]; exact e1
    have hpos := Kd.sz_pos K
    have hrun : (Instr.buildSlice t len (ps.map fun p => (p.1, act.eval p.2))).run P w = .ok (.slice (some ⟨w.heap.size, 0, none⟩) vs.length vs.length) (w.alloc (.cells (vs.flatMap fun v => v.cells.toList).toArray e)) := by
      rw [hlen, ← e3]
      by_cases h0 : vs.length = 0
      · have : vs = [] := List.length_eq_zero_iff.1 h0
        subst this
        have hps0 : ps.toList = [] := by simpa using e1
        simp [Instr.buildSlice, run_underlying hu, sizeOf, typeInfo, hi, hps0, Instr.fill, newRow]
        congr 2
        exact Array.eq_empty_of_size_eq_zero (by simp)
      · have hmul : vs.length * i.size ≠ 0 := by rw [hsz]; exact Nat.mul_ne_zero h0 (by omega)
        refine run_buildSlice w t e vs.length _ _ i z hu hi hz (by rw [hsz, e3]; omega) hmul ?_
        rw [hparts]
        exact Great.fill_whole (by rw [hsz]; exact hpos) vs _ (fun v hv => by rw [hsz]; exact hall v hv) (by simp)
    simp only [execOp, ho, Sem.run_bind, hrun, Result.andThen_ok, Sem.run_pure]
  · cases h2

theorem flat_length {vs : List Value} {k : Nat} (h : ∀ v ∈ vs, v.cells.size = k) : (vs.flatMap fun v => v.cells.toList).length = vs.length * k := by
  induction vs with
  | nil => simp
  | cons v vs ih =>
    have h1 : v.cells.size = k := h v (by simp)
    have h2 := ih fun u hu => h u (by simp [hu])
    rw [List.flatMap_cons, List.length_append, h2, List.length_cons, Nat.succ_mul]
    simp [h1]
    omega

theorem brow_ok {n : Nat} {o : Oper} {d : Nat} {e : TypeId} {K : Kd} {qs : List Opd} {cal : Cal} (h : bsB P n o d K qs e = true) : OpOk P n o (.brow d e K qs) cal := by
  intro ρ kn r s act w H φ next Q hs hf hn hk hnext
  obtain ⟨hd, hdn, hsm, vs, e2, e3, _, hrun⟩ := bs_run h hf
  simp only [opK] at hk
  cases hq : s.keepAlls (qs.map s.opd) with
  | none => rw [hq] at hk; cases hk
  | some z =>
    obtain ⟨css, s1⟩ := z
    rw [hq] at hk
    simp only [Option.bind_some] at hk
    cases hx : K.ofs css with
    | none => rw [hx] at hk; cases hk
    | some xs =>
      rw [hx] at hk
      simp only [Option.bind_some] at hk
      obtain ⟨H1, g1, k1, f1, e1, _⟩ := keepAlls_step hs e2 hq
      obtain ⟨l1, r1, s1'⟩ := ofs_ok K f1 hx
      have hflat := flat_length s1'
      have hmax : vs.length ≤ maxLen := by
        have hpos := Kd.sz_pos K
        have : qs.length ≤ qs.length * K.sz := Nat.le_mul_of_pos_right _ hpos
        simp only [maxLen]
        omega
      have hst := newRow_step g1.sr (World.grownBy_alloc w (.cells (vs.flatMap fun v => v.cells.toList).toArray e) none) (K := K) (xs := xs) (v := .slice (some ⟨w.heap.size, 0, none⟩) vs.length vs.length)
        (by rw [l1]; exact World.ownsRow_lit w _ vs.length (Nat.le_refl _) hmax (by simpa using hflat)) r1
      refine step_ok (s := s) (s1 := ⟨s1.fr, s1.st ++ [.rows e K xs]⟩) (a := .row s1.st.length) (v := .slice (some ⟨w.heap.size, 0, none⟩) vs.length vs.length) (g1.trans hst) ?_ hn hd hdn hk (hrun s1' w) ?_ hnext (Mem.grown hs (World.grownBy_alloc w _ none)) rfl
      · rw [e1]; exact (hf.mono g1.le k1).mono (HP.le_refl _) (keeps_append φ s1.st _ _)
      · exact ⟨by simp, by simp [kindAt]⟩

/-- New memory that is never written again. -/
theorem Step.lit {H : HP} {φ : Phi} {st : List Box} {w : World} (h : SR H φ st w) (o : Obj) : ∃ H', Step H φ st w H' φ st (w.alloc o) ∧ H' w.heap.size = some o := by
  have hg := World.grownBy_alloc w o none
  have hnone : ∀ b, w.heap.size ≤ b → H b = none := fun b hb => (h.fresh hb).1
  let H' : HP := fun b => if b = w.heap.size then some o else H b
  have hle : H.le H' := by
    intro b o' hb
    have : b ≠ w.heap.size := fun e => by rw [hnone b (by omega)] at hb; cases hb
    simp only [H', this, if_false]
    exact hb
  refine ⟨H', ⟨hle, ⟨fun b o' hb => ?_, fun id bx hid => ?_, h.sep, fun i bi hi hl b hb => ?_, (h.grow hg).cell⟩, fun mv m0 H0 φ0 w0 f => ?_⟩, by simp [H']⟩
  · by_cases e : b = w.heap.size
    · subst e
      simp only [H', if_true] at hb
      rw [heap_alloc_new w o]
      exact hb
    · simp only [H', e, if_false] at hb
      exact (h.grow hg).hp b o' hb
  · have := (h.grow hg).box id bx hid
    cases bx with
    | var cs => obtain ⟨b, c, el, e1, e2, e3⟩ := this; exact ⟨b, c, el, e1, e2, e3.imp fun _ _ h => h.mono hle⟩
    | rows t' K' xs' => obtain ⟨flat', o', r'⟩ := this; exact ⟨flat', o', fun j x hx => (r' j x hx).mono hle⟩
    | mrow t' K' xs' => obtain ⟨flat', o', r'⟩ := this; exact ⟨flat', o', fun j x hx => (r' j x hx).mono hle⟩
    | frz K' xs' => obtain ⟨r', a'⟩ := this; exact ⟨reps_mono (fun _ _ h => Rep.mono hle h) hle r', a'⟩
    | dead => trivial
  · have hlt := (h.box i bi hi).blk_lt hl hb
    have : b ≠ w.heap.size := by omega
    simp only [H', this, if_false]
    exact h.out i bi hi hl b hb
  · have f2 := (Step.grow h hg).fr mv m0 H0 φ0 w0 f
    refine { f2 with frz := fun b hb hn => ?_ }
    have := f.size
    have : b ≠ w.heap.size := by omega
    simp only [H', this, if_false]
    exact f.frz b hb hn

theorem blst_ok {n : Nat} {o : Oper} {d : Nat} {e : TypeId} {K : Kd} {qs : List Opd} {cal : Cal} (h : bsB P n o d K qs e = true) : OpOk P n o (.blst d K qs) cal := by
  intro ρ kn r s act w H φ next Q hs hf hn hk hnext
  obtain ⟨hd, hdn, hsm, vs, e2, e3, _, hrun⟩ := bs_run h hf
  simp only [opK] at hk
  cases hq : s.keepAlls (qs.map s.opd) with
  | none => rw [hq] at hk; cases hk
  | some z =>
    obtain ⟨css, s1⟩ := z
    rw [hq] at hk
    simp only [Option.bind_some] at hk
    cases hx : K.ofs css with
    | none => rw [hx] at hk; cases hk
    | some xs =>
      rw [hx] at hk
      simp only [Option.bind_some] at hk
      obtain ⟨H1, g1, k1, f1, e1, _⟩ := keepAlls_step hs e2 hq
      obtain ⟨l1, r1, s1'⟩ := ofs_ok K f1 hx
      have hflat := flat_length s1'
      obtain ⟨H2, g2, hb2⟩ := Step.lit g1.sr (.cells (vs.flatMap fun v => v.cells.toList).toArray e)
      refine step_ok (s := s) (s1 := s1) (a := .lst K xs) (v := .slice (some ⟨w.heap.size, 0, none⟩) vs.length vs.length) (g1.trans g2) ?_ hn hd hdn hk (hrun s1' w) ?_ hnext (Mem.grown hs (World.grownBy_alloc w _ none)) rfl
      · rw [e1]; exact (hf.mono g1.le k1).mono g2.le (Keeps.refl _ _ _)
      · refine ⟨_, vs.length, by rw [l1], by rw [l1]; exact Nat.le_refl _, .inr ⟨w.heap.size, 0, _, e, (0, 0), rfl, hb2, fun j x hx => ?_⟩⟩
        obtain ⟨cs, c1, c2, c3⟩ := rowRep_get r1 (by rw [hflat, l1]) hx
        refine ⟨cs, c1.mono g2.le, c2, fun i u hu => ?_⟩
        have := c3 i u hu
        simpa using this

def appB (P : Program) (n : Nat) (o : Oper) (d : Nat) (e : TypeId) (K : Kd) (a b : Opd) : Bool :=
  dstB o n d && elB P e K && (match o.op with
    | .call ⟨.builtin .append, args, tys⟩ => (match args.toList, tys.toList with
      | [x, y], [t, t'] => opdB x a && opdB y b && t == t' && (match P.underlying t with | some (.slice e') => e' == e | _ => false)
      | _, _ => false)
    | _ => false)

theorem app_ok {n : Nat} {o : Oper} {d : Nat} {e : TypeId} {K : Kd} {a b : Opd} {cal : Cal} (h : appB P n o d e K a b = true) : OpOk P n o (.app d e K a b) cal := by
  intro ρ kn r s act w H φ next Q hs hf hn hk hnext
  simp only [appB, Bool.and_eq_true] at h
  obtain ⟨⟨h1, hel⟩, h2⟩ := h
  obtain ⟨hd, hdn⟩ := dstB_ok h1
  split at h2
  · rename_i args tys ho
    split at h2
    · rename_i x y t t' ha ht
      simp only [Bool.and_eq_true, beq_iff_eq] at h2
      obtain ⟨⟨⟨hx, hy⟩, rfl⟩, hu⟩ := h2
      have hu : P.underlying t = some (.slice e) := by
        split at hu
        · rename_i e' hu'
          simp only [beq_iff_eq] at hu
          rw [hu', hu]
        · cases hu
      have ha : args = #[x, y] := by rw [← ha]
      have ht : tys = #[t, t] := by rw [← ht]
      subst ha ht
      have vx := opd_ok hf hx
      have vy := opd_ok hf hy
      simp only [opK] at hk
      split at hk
      · rename_i id hxa
        rw [hxa] at vx
        obtain ⟨ex, _⟩ := vx
        split at hk
        · rename_i t0 K0 xs hb
          split at hk
          · rename_i hK
            subst hK
            split at hk
            · rename_i ht0
              subst ht0
              obtain ⟨ys, hk', sl, cap2, flat2, ev, hl2, hr2, hc2, hn2⟩ := list_ok hs (list_of_VA vy hk) hk
              split at hk'
              · rename_i hlim
                obtain ⟨v', w', hrun, hst, hkb, hmem⟩ := append_step (P := P) (t := t) (ty := o.type) hs hb hu hel ev hl2 hr2 hc2 hn2 hlim
                refine step_ok (s := s) (s1 := ⟨s.fr.map (killT [id]), (s.st.map (Box.kill [id])).set id (.rows t0 K0 (xs ++ ys))⟩) (a := .row id) (v := v') hst (hf.kill hkb) hn hd hdn hk' ?_ ?_ hnext ?_ rfl
                · rw [← ex] at hrun
                  simp only [execOp, ho, resolve, Sem.run_bind, Sem.run_pure, Result.andThen_ok, invoke, builtin, List.map_toArray, List.map_cons, List.map_nil, hrun]
                · have hlt : id < s.st.length := (List.getElem?_eq_some_iff.1 hb).1
                  refine ⟨by simp, ?_⟩
                  unfold kindAt
                  rw [List.getElem?_set]
                  simp [hlt]
                · intro i bx hi hl hni b hb'
                  simp only [AOp.touch, hxa] at hni
                  exact hmem.block b ((hs.box i bx hi).blk_lt hl hb') (fun e => hs.sep i id bx _ hi hb hl rfl (by simpa using hni) b hb' e.symm)
              · cases hk'
            · cases hk
          · cases hk
        · cases hk
      · cases hk
    · cases h2
  · cases h2

/-- An append to a row that is frozen at once. -/
theorem apz_ok {n : Nat} {o : Oper} {d : Nat} {e : TypeId} {K : Kd} {a b : Opd} {cal : Cal} (h : appB P n o d e K a b = true) : OpOk P n o (.apz d e K a b) cal := by
  intro ρ kn r s act w H φ next Q hs hf hn hk hnext
  simp only [appB, Bool.and_eq_true] at h
  obtain ⟨⟨h1, hel⟩, h2⟩ := h
  obtain ⟨hd, hdn⟩ := dstB_ok h1
  split at h2
  · rename_i args tys ho
    split at h2
    · rename_i x y t t' ha ht
      simp only [Bool.and_eq_true, beq_iff_eq] at h2
      obtain ⟨⟨⟨hx, hy⟩, rfl⟩, hu⟩ := h2
      have hu : P.underlying t = some (.slice e) := by
        split at hu
        · rename_i e' hu'
          simp only [beq_iff_eq] at hu
          rw [hu', hu]
        · cases hu
      have ha : args = #[x, y] := by rw [← ha]
      have ht : tys = #[t, t] := by rw [← ht]
      subst ha ht
      have vx := opd_ok hf hx
      have vy := opd_ok hf hy
      simp only [opK] at hk
      split at hk
      · rename_i id hxa
        rw [hxa] at vx
        obtain ⟨ex, _⟩ := vx
        split at hk
        · rename_i t0 K0 xs hb
          split at hk
          · rename_i hK
            subst hK
            split at hk
            · rename_i ht0
              subst ht0
              obtain ⟨ys, hk', sl, cap2, flat2, ev, hl2, hr2, hc2, hn2⟩ := list_ok hs (list_of_VA vy hk) hk
              split at hk'
              · rename_i hlim
                obtain ⟨v', w', hrun, hst, hkb, hmem⟩ := append_step (P := P) (t := t) (ty := o.type) hs hb hu hel ev hl2 hr2 hc2 hn2 hlim
                have hlt : id < s.st.length := (List.getElem?_eq_some_iff.1 hb).1
                have hid1 : ((s.st.map (Box.kill [id])).set id (.rows t0 K0 (xs ++ ys)))[id]? = some (.rows t0 K0 (xs ++ ys)) := by
                  rw [List.getElem?_set]
                  simp [hlt]
                obtain ⟨H2, hst2, hrep, _⟩ := Step.freeze hst.sr hid1
                rw [List.set_set] at hst2
                have hkf := keeps_freeze (φ := fun i => if i = id then v' else φ i) hid1
                rw [List.set_set] at hkf
                refine step_ok (s := s) (s1 := ⟨s.fr.map (killT [id]), (s.st.map (Box.kill [id])).set id (.frz K0 (xs ++ ys))⟩) (a := .lst K0 (xs ++ ys)) (v := v') (hst.trans hst2) (FrR.mono hst2.le hkf (hf.kill hkb)) hn hd hdn hk' ?_ ?_ hnext ?_ rfl
                · rw [← ex] at hrun
                  simp only [execOp, ho, resolve, Sem.run_bind, Sem.run_pure, Result.andThen_ok, invoke, builtin, List.map_toArray, List.map_cons, List.map_nil, hrun]
                · have h7 := hrep
                  simp only [if_true] at h7
                  exact h7
                · intro i bx hi hl hni b hb'
                  simp only [AOp.touch, hxa] at hni
                  exact hmem.block b ((hs.box i bx hi).blk_lt hl hb') (fun e => hs.sep i id bx _ hi hb hl rfl (by simpa using hni) b hb' e.symm)
              · cases hk'
            · cases hk
          · cases hk
        · cases hk
      · cases hk
    · cases h2
  · cases h2

end Go.Proofs.Ytnbfkndicldppaa.Core
