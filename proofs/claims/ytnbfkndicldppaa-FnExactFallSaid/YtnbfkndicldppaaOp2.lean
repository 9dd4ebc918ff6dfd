/- Operations that make variables, read and write memory, and the small ones on values. -/
import Derived.Test.YtnbfkndicldppaaOp1
namespace Go.Proofs.Ytnbfkndicldppaa.Core
open Go

variable {P : Program}

/-- An operation yields a value; the store went on. -/
theorem step_ok {H H' : HP} {φ φ' : Phi} {w w' : World} {o : Oper} {ao : AOp} {n d : Nat} {s s1 : St} {act : Act} {a : AV} {v : Value} {next : Act → World → Prop} {Q : Exit → Act → World → Prop} {ρ : Type} {kn : St → Option ρ} {r : ρ}
    (hst : Step H φ s.st w H' φ' s1.st w') (hf : FrR H' φ' s1.st s1.fr act.tmps) (hn : act.tmps.size = n) (hd : o.dst = some d) (hdn : d < n) (hk : kn (s1.put d a) = some r)
    (hrun : (execOp act.eval o).run P w = .ok (.value v) w') (hv : VA H' φ' s1.st a v)
    (hnext : ∀ s' v w' H' φ', kn s' = some r → Step H φ s.st w H' φ' s'.st w' → FrR H' φ' s'.st s'.fr (act.put o.dst v).tmps → Extra P o ao s act φ w w' v → next (act.put o.dst v) w')
    (hmem : Mem (ao.touch s) φ s.st w w') (hnv : ao.isVal = false) : o.wp P act w next Q :=
  wp_value hrun (hnext (s1.put d a) v w' H' φ' hk hst (by rw [put_tmps hd]; exact hf.put (by omega) hv) ⟨hmem, fun h => by rw [hnv] at h; cases h⟩)

theorem varAt_new (st : List Box) (cs : List AV) : varAt (st ++ [.var cs]) st.length = true := by simp [varAt]

def nilrowB (n : Nat) (o : Oper) (d : Nat) : Bool :=
  dstB o n d && (match o.op with | .move y => opdB y (.c .nil) | .assign y => opdB y (.c .nil) | _ => false)
theorem nilrow_ok {n : Nat} {o : Oper} {d : Nat} {t : TypeId} {K : Kd} {cal : Cal} (h : nilrowB n o d = true) : OpOk P n o (.nilrow d t K) cal := by
  intro ρ kn r s act w H φ next Q hs hf hn hk hnext
  simp only [nilrowB, Bool.and_eq_true] at h
  obtain ⟨h1, h2⟩ := h
  obtain ⟨hd, hdn⟩ := dstB_ok h1
  have key : ∀ y : Operand, (execOp act.eval o) = pure (.value (act.eval y)) → opdB y (.c .nil) = true → o.wp P act w next Q := by
    intro y hy hb
    have hv : act.eval y = .slice none 0 0 := opd_ok (s := s) hf hb
    have hst : Step H φ s.st w H (fun i => if i = s.st.length then .slice none 0 0 else φ i) (s.st ++ [.rows t K []]) w :=
      Step.push hs ⟨rfl, rfl, rfl, Nat.le_refl _, fun _ _ _ => rfl⟩ ⟨[], ⟨by simp, .inl ⟨rfl, rfl⟩⟩, fun j x hx => by simp at hx⟩ (fun _ b hb => by simp [blk] at hb) (fun cs e => by cases e)
    refine step_ok (s := s) (s1 := ⟨s.fr, s.st ++ [.rows t K []]⟩) (a := .row s.st.length) hst (hf.mono (HP.le_refl H) (keeps_append φ s.st _ _)) hn hd hdn hk (by rw [hy, hv]; rfl) ?_ hnext (Mem.refl _ _ _ _) rfl
    exact ⟨by simp, by simp [kindAt]⟩
  split at h2
  · rename_i y ho; exact key y (by simp [execOp, ho]) h2
  · rename_i y ho; exact key y (by simp [execOp, ho]) h2
  · cases h2

def constsB : List Value → List AV → Bool
  | [], [] => true
  | v :: vs, a :: as => constB v a && constsB vs as
  | _, _ => false
theorem constsB_ok {H : HP} : ∀ {vs : List Value} {as : List AV}, constsB vs as = true → VFs H as vs
  | [], [], _ => rfl
  | v :: vs, a :: as, h => by
    simp only [constsB, Bool.and_eq_true] at h
    exact ⟨v, vs, rfl, constB_ok h.1, constsB_ok h.2⟩
  | [], _ :: _, h => by simp [constsB] at h
  | _ :: _, [], h => by simp [constsB] at h

def zeroB (P : Program) (t : TypeId) (cs : List AV) : Bool :=
  match (P.info? t).bind (·.zero) with
  | some z => constsB z.cells.toList cs
  | none => false
def zcB : Value → AV → Bool
  | .slice none 0 0, .new _ _ xs => xs.isEmpty
  | v, a => constB v a
theorem zcB_ok {H : HP} {v : Value} {a : AV} (h : zcB v a = true) : ZC H a v := by
  unfold zcB at h
  split at h
  · rename_i t K xs
    left
    refine ⟨t, K, ?_, rfl⟩
    have : xs = [] := by simpa using h
    rw [this]
  · exact .inr (constB_ok h)
def zcsB : List Value → List AV → Bool
  | [], [] => true
  | v :: vs, a :: as => zcB v a && zcsB vs as
  | _, _ => false
theorem zcsB_ok {H : HP} : ∀ {vs : List Value} {as : List AV}, zcsB vs as = true → All2 (ZC H) as vs
  | [], [], _ => rfl
  | v :: vs, a :: as, h => by
    simp only [zcsB, Bool.and_eq_true] at h
    exact ⟨v, vs, rfl, zcB_ok h.1, zcsB_ok h.2⟩
  | [], _ :: _, h => by simp [zcsB] at h
  | _ :: _, [], h => by simp [zcsB] at h
def zeroC (P : Program) (t : TypeId) (cs : List AV) : Bool :=
  match (P.info? t).bind (·.zero) with
  | some z => zcsB z.cells.toList cs
  | none => false
theorem zeroC_ok {t : TypeId} {cs : List AV} (h : zeroC P t cs = true) : ∃ i z, P.info? t = some i ∧ i.zero = some z ∧ ∀ H, All2 (ZC H) cs z.cells.toList := by
  unfold zeroC at h
  cases hi : P.info? t with
  | none => rw [hi] at h; cases h
  | some i =>
    rw [hi] at h
    simp only [Option.bind_some] at h
    cases hz : i.zero with
    | none => rw [hz] at h; cases h
    | some z => rw [hz] at h; exact ⟨i, z, rfl, hz, fun H => zcsB_ok h⟩
theorem zeroB_ok {t : TypeId} {cs : List AV} (h : zeroB P t cs = true) : ∃ i z, P.info? t = some i ∧ i.zero = some z ∧ ∀ H, VFs H cs z.cells.toList := by
  unfold zeroB at h
  cases hi : P.info? t with
  | none => rw [hi] at h; cases h
  | some i =>
    rw [hi] at h
    simp only [Option.bind_some] at h
    cases hz : i.zero with
    | none => rw [hz] at h; cases h
    | some z => rw [hz] at h; exact ⟨i, z, rfl, hz, fun H => constsB_ok h⟩

def allocB (P : Program) (n : Nat) (o : Oper) (d : Nat) (cs : List AV) : Bool :=
  dstB o n d && (match o.op with | .alloc t => zeroC P t cs | _ => false)
theorem alloc_ok {n : Nat} {o : Oper} {d : Nat} {cs : List AV} {cal : Cal} (h : allocB P n o d cs = true) : OpOk P n o (.alloc d cs) cal := by
  intro ρ kn r s act w H φ next Q hs hf hn hk hnext
  simp only [allocB, Bool.and_eq_true] at h
  obtain ⟨h1, h2⟩ := h
  obtain ⟨hd, hdn⟩ := dstB_ok h1
  split at h2
  · rename_i t ho
    obtain ⟨i, z, hi, hz, hv⟩ := zeroC_ok h2
    obtain ⟨φ1, g1, k1, told, len⟩ := pushRows (hv H) hs
    obtain ⟨hrun, hst⟩ := newVar_step (P := P) (t := t) g1.sr told
    rw [len] at hst
    simp only [opK] at hk
    refine step_ok (s := s) (s1 := ⟨s.fr, s.st ++ openB cs ++ [.var (openC s.st.length cs)]⟩) (a := .ptr (s.st.length + newCount cs) 0) (v := .pointer (some ⟨w.heap.size, 0, none⟩)) (g1.trans hst)
      ((hf.mono (HP.le_refl H) k1).mono (HP.le_refl H) (by have := keeps_append φ1 (s.st ++ openB cs) (.pointer (some ⟨w.heap.size, 0, none⟩)) (.var (openC s.st.length cs)); rwa [len] at this)) hn hd hdn hk ?_ ?_ hnext (Mem.grown hs (World.grownBy_alloc w _ none)) rfl
    · simp [execOp, ho, Instr.alloc, zeroValue, typeInfo, hi, hz, hrun]
    · refine ⟨?_, w.heap.size, by simp, rfl⟩
      rw [← len]; exact varAt_new _ _
  · cases h2

def boxB (n : Nat) (o : Oper) (d : Nat) (x : Opd) : Bool :=
  dstB o n d && (match o.op with | .box _ y => opdB y x | _ => false)
theorem stash_step {H : HP} {φ : Phi} {w : World} {s s' : St} {own : Bool} {a : AV} {as : List AV} {v : Value} (hs : SR H φ s.st w) (hv : VA H φ s.st a v) (h : s.stash own a.cells = some (as, s')) :
    ∃ H', Step H φ s.st w H' φ s'.st w ∧ Keeps φ s.st φ s'.st none ∧ All2 (Told H' φ s'.st) as v.cells.toList ∧ s'.fr = s.fr := by
  unfold St.stash at h
  split at h
  · split at h
    · rename_i hg
      cases h
      refine ⟨H, Step.refl hs, Keeps.refl _ _ _, ?_, rfl⟩
      have told : ∀ b ∈ a.cells, ∀ u, VC H φ s.st b u → Told H φ s.st b u := fun b hb u hu => by
        have := List.all_eq_true.1 hg b hb
        cases b with
        | row i => exact ⟨trivial, fun j e => by cases e; exact ⟨hu.2, hu.1⟩⟩
        | _ => exact Told.of_VF (hu.solid this)
      rcases hv.cases with ⟨cs, arr, rfl, rfl, hc⟩ | ⟨vs, arr, rfl, _, _⟩ | hc
      · exact hc.impM told
      · simp [AV.cells, AV.good, AV.solid] at hg
      · have hcell : a.cells = [a] := by cases a <;> first | rfl | exact hc.elim
        rw [hcell] at hg told ⊢
        have hga : a.good = true := by simpa using hg
        rw [(good_one hs hga hc).2]
        exact ⟨v, [], rfl, told a (by simp) v hc, rfl⟩
    · cases h
  · obtain ⟨H1, g1, k1, f1, e1, _⟩ := keepCells_step hs hv h
    exact ⟨H1, g1, k1, (VFs_iff.1 f1).imp fun _ _ h => Told.of_VF h, e1⟩
theorem box_ok {n : Nat} {o : Oper} {d : Nat} {x : Opd} {own : Bool} {cal : Cal} (h : boxB n o d x = true) : OpOk P n o (.box d x own) cal := by
  intro ρ kn r s act w H φ next Q hs hf hn hk hnext
  simp only [boxB, Bool.and_eq_true] at h
  obtain ⟨h1, h2⟩ := h
  obtain ⟨hd, hdn⟩ := dstB_ok h1
  split at h2
  · rename_i t y ho
    simp only [opK] at hk
    cases hq : s.stash own (s.opd x).cells with
    | none => rw [hq] at hk; cases hk
    | some z =>
      obtain ⟨as, s1⟩ := z
      rw [hq] at hk
      simp only [Option.bind_some] at hk
      obtain ⟨H1, g1, k1, f1, e1⟩ := stash_step hs (opd_ok hf h2) hq
      obtain ⟨hrun, hst⟩ := newVar_step (P := P) (t := t) g1.sr f1
      refine step_ok (s := s) (s1 := ⟨s1.fr, s1.st ++ [.var as]⟩) (a := .ptr s1.st.length 0) (v := .pointer (some ⟨w.heap.size, 0, none⟩)) (g1.trans hst)
        ?_ hn hd hdn hk ?_ ?_ hnext (Mem.grown hs (World.grownBy_alloc w _ none)) rfl
      · rw [e1]; exact (hf.mono g1.le k1).mono (HP.le_refl _) (keeps_append φ s1.st _ _)
      · simp [execOp, ho, Instr.box, hrun]
      · exact ⟨varAt_new _ _, w.heap.size, by simp, rfl⟩
  · cases h2

def loadB (P : Program) (n : Nat) (o : Oper) (d : Nat) (x : Opd) (m : Option Nat) : Bool :=
  dstB o n d && (match o.op with | .load t y => opdB y x && (match m with | some k => szB P t k && aggB P t true | none => aggB P t false) | _ => false)
theorem VA.behind {H : HP} {φ : Phi} {s : St} {a : AV} {v : Value} {y : List AV × Nat} (h : VA H φ s.st a v) (hb : s.behind a = some y) : VC H φ s.st a v := by
  rcases h.cases with ⟨cs, arr, rfl, _⟩ | ⟨vs, arr, rfl, _⟩ | h
  · cases hb
  · cases hb
  · exact h
theorem load_ok {n : Nat} {o : Oper} {d : Nat} {x : Opd} {m : Option Nat} {cal : Cal} (h : loadB P n o d x m = true) : OpOk P n o (.load d x m) cal := by
  intro ρ kn r s act w H φ next Q hs hf hn hk hnext
  simp only [loadB, Bool.and_eq_true] at h
  obtain ⟨h1, h2⟩ := h
  obtain ⟨hd, hdn⟩ := dstB_ok h1
  split at h2
  · rename_i t y ho
    simp only [Bool.and_eq_true] at h2
    obtain ⟨h2, h3⟩ := h2
    simp only [opK] at hk
    cases hq : s.behind (s.opd x) with
    | none => rw [hq] at hk; cases hk
    | some z =>
      rw [hq] at hk
      simp only [Option.bind_some] at hk
      split at hk
      · rename_i hle
        obtain ⟨u, hrun, hu⟩ := run_load_all (P := P) (t := t) hs ((opd_ok hf h2).behind hq) (cs := z.1) (off := z.2) hq (n := m) hle (by cases m <;> exact h3)
        refine plain_ok hs hf hn hd hdn hk (fun w2 hr => ?_) hu hnext
        simp only [ReadsSame, ho] at hr
        simp [execOp, ho, hrun w2 hr]
      · cases hk
  · cases h2

def storeB (P : Program) (o : Oper) (x y : Opd) (m : Nat) : Bool :=
  match o.op with | .store t x' y' => opdB x' x && opdB y' y && szB P t m && o.dst.isNone | _ => false
theorem VA.storeAt {H : HP} {φ : Phi} {s s' s1 : St} {own : Bool} {a : AV} {v : Value} {as : List AV} (h : VA H φ s.st a v) (hb : s'.storeAt own a as = some s1) : VC H φ s.st a v := by
  rcases h.cases with ⟨cs, arr, rfl, _⟩ | ⟨vs, arr, rfl, _⟩ | h
  · cases hb
  · cases hb
  · exact h
theorem keepAll_good : ∀ {as : List AV} {s : St} {x : List AV × St}, s.keepAll as = some x → ∀ a ∈ as, a.good = true
  | [], _, _, _, a, ha => by cases ha
  | b :: as, s, x, h, a, ha => by
    simp only [St.keepAll] at h
    cases hk : s.keep b with
    | none => rw [hk] at h; cases h
    | some y =>
      rw [hk] at h
      simp only [Option.bind_some] at h
      cases hq : y.2.keepAll as with
      | none => rw [hq] at h; cases h
      | some z =>
        rcases List.mem_cons.1 ha with rfl | ha
        · exact keep_good hk
        · exact keepAll_good hq a ha
theorem storeAt_good {s s' : St} {own : Bool} {p : AV} {vs : List AV} (h : s.storeAt own p vs = some s') : ∀ v ∈ vs, v.good = true := by
  unfold St.storeAt at h
  split at h
  · split at h
    · split at h
      · rename_i cs _ _
        cases hq : s.intoAll own ((cs.drop _).take vs.length) vs with
        | none => rw [hq] at h; cases h
        | some y => exact (intoAll_good hq).2.2
      · cases h
    · cases h
  · cases hq : s.keepAll vs with
    | none => rw [hq] at h; cases h
    | some z => exact keepAll_good hq
  · cases h
theorem VA.goodCells {H : HP} {φ : Phi} {st : List Box} {w : World} {a : AV} {v : Value} (hs : SR H φ st w) (h : VA H φ st a v) (hg : ∀ b ∈ a.cells, b.good = true) : All2 (VC H φ st) a.cells v.cells.toList := by
  rcases h.cases with ⟨cs, arr, rfl, rfl, hc⟩ | ⟨vs, arr, rfl, _, _⟩ | hc
  · exact hc
  · have := hg (.tup vs) (by simp [AV.cells]); simp [AV.good, AV.solid] at this
  · have hcell : a.cells = [a] := by cases a <;> first | rfl | exact hc.elim
    rw [hcell] at hg ⊢
    rw [(good_one hs (hg a (by simp)) hc).2]
    exact ⟨v, [], rfl, hc, rfl⟩
theorem store_ok {n : Nat} {o : Oper} {x y : Opd} {m : Nat} {own : Bool} {cal : Cal} (h : storeB P o x y m = true) : OpOk P n o (.store x y m own) cal := by
  intro ρ kn r s act w H φ next Q hs hf hn hk hnext
  unfold storeB at h
  split at h
  · rename_i t x' y' ho
    simp only [Bool.and_eq_true, Option.isNone_iff_eq_none] at h
    obtain ⟨⟨⟨hx, hy⟩, hsz⟩, hd⟩ := h
    simp only [opK] at hk
    split at hk
    · rename_i hm
      cases hz : s.storeAt own (s.opd x) (s.opd y).cells with
      | none => rw [hz] at hk; cases hk
      | some s2 =>
        rw [hz] at hk
        simp only [Option.bind_some] at hk
        have hp := (opd_ok hf hx).storeAt hz
        obtain ⟨H1, φ', w', hrun, hst, hf2, hmem⟩ := storeAt_step (P := P) (t := t) hs hf hp ((opd_ok hf hy).goodCells hs (storeAt_good hz)) hz (by rw [hm]; exact hsz)
        unfold Oper.wp
        simp only [execOp, ho, Sem.run_bind, hrun, Result.andThen_ok, Sem.run_pure, Oper.upon_skip]
        refine hnext s2 undef w' H1 φ' hk hst ?_ ⟨?_, fun h => by cases h⟩
        · rw [hd]
          exact hf2
        · intro i bx hi hl hn b hb
          refine hmem i bx hi hl (fun id hid => ?_) b hb
          intro e
          subst e
          apply hn
          simp only [AOp.touch]
          rcases hid with ⟨off, e⟩ | ⟨j, off, e⟩ <;> rw [e] <;> simp
    · cases hk
  · cases h

def nilcB (n : Nat) (o : Oper) (d : Nat) (x : Opd) : Bool :=
  dstB o n d && (match o.op with | .nilCheck y => opdB y x | _ => false)
theorem nilc_ok {n : Nat} {o : Oper} {d : Nat} {x : Opd} {cal : Cal} (h : nilcB n o d x = true) : OpOk P n o (.nilc d x) cal := by
  intro ρ kn r s act w H φ next Q hs hf hn hk hnext
  simp only [nilcB, Bool.and_eq_true] at h
  obtain ⟨h1, h2⟩ := h
  obtain ⟨hd, hdn⟩ := dstB_ok h1
  split at h2
  · rename_i y ho
    have hv := opd_ok hf h2
    simp only [opK] at hk
    have key : ∀ a, s.opd x = a → kn (s.put d a) = some r → (∃ p, act.eval y = .pointer (some p)) → o.wp P act w next Q := by
      rintro a e hk' ⟨p, hp⟩
      rw [e] at hv
      exact plain_ok hs hf hn hd hdn hk' (v := act.eval y) (fun _ _ => by simp [execOp, ho, hp]) hv hnext
    cases hx : s.opd x with
    | ptr id off =>
      rw [hx] at hk hv
      obtain ⟨_, b, _, e⟩ := hv
      exact key _ hx hk ⟨_, e⟩
    | eptr id i off =>
      rw [hx] at hk hv
      obtain ⟨b, _, _, _, _, _, _, e⟩ := hv
      exact key _ hx hk ⟨_, e⟩
    | fptr cs off =>
      rw [hx] at hk hv
      obtain ⟨b, _, _, _, _, e, _⟩ := hv
      exact key _ hx hk ⟨_, e⟩
    | _ => rw [hx] at hk; cases hk
  · cases h2

/-- A field's type has cells, and lies at 'off'. -/
def fldAt (P : Program) (t : TypeId) (f off : Nat) : Option TypeId :=
  match P.underlying t with
  | some (.struct fs) => match fs[f]? with
    | some fd => if fd.offset = off then some fd.type else none
    | none => none
  | _ => none
theorem fldAt_ok {t : TypeId} {f off : Nat} {ft : TypeId} (h : fldAt P t f off = some ft) : ∃ fs fd, P.underlying t = some (.struct fs) ∧ fs[f]? = some fd ∧ fd.offset = off ∧ fd.type = ft := by
  unfold fldAt at h
  split at h
  · rename_i fs hu
    split at h
    · rename_i fd hf
      split at h
      · rename_i he
        simp only [Option.some.injEq] at h
        exact ⟨fs, fd, hu, hf, he, h⟩
      · cases h
    · cases h
  · cases h

theorem Addr.add_none (b o k : Nat) : (⟨b, o, none⟩ : Addr).add k = ⟨b, o + k, none⟩ := by unfold Addr.add; split <;> simp_all

def fldB (P : Program) (n : Nat) (o : Oper) (d : Nat) (x : Opd) (off : Nat) : Bool :=
  dstB o n d && (match o.op with
    | .fieldAddr t y f => opdB y x && (match fldAt P t f off with | some ft => (match P.info? ft with | some i => decide (i.size ≠ 0) | none => false) | none => false)
    | _ => false)
theorem fld_ok {n : Nat} {o : Oper} {d : Nat} {x : Opd} {off : Nat} {cal : Cal} (h : fldB P n o d x off = true) : OpOk P n o (.fld d x off) cal := by
  intro ρ kn r s act w H φ next Q hs hf hn hk hnext
  simp only [fldB, Bool.and_eq_true] at h
  obtain ⟨h1, h2⟩ := h
  obtain ⟨hd, hdn⟩ := dstB_ok h1
  split at h2
  · rename_i t y f ho
    simp only [Bool.and_eq_true] at h2
    obtain ⟨h2, h3⟩ := h2
    split at h3
    · rename_i ft hft
      obtain ⟨fs, fd, hu, hfd, he, hty⟩ := fldAt_ok hft
      split at h3
      · rename_i i hi
        simp only [ne_eq, decide_not, Bool.not_eq_true', decide_eq_false_iff_not] at h3
        have hv := opd_ok hf h2
        have hrun : ∀ b o0, act.eval y = .pointer (some ⟨b, o0, none⟩) → ∀ w2, ReadsSame o act w w2 → (execOp act.eval o).run P w2 = .ok (.value (.pointer (some ⟨b, o0 + off, none⟩))) w2 := by
          intro b o0 hp w _
          simp [execOp, ho, Instr.fieldAt, run_underlying hu, hfd, hp, Instr.sureAddr, fieldPlace, sizeOf, typeInfo, hty, hi, h3, he, Addr.add_none]
        simp only [opK] at hk
        cases hx : s.opd x with
        | ptr id o0 =>
          rw [hx] at hk hv
          obtain ⟨hva, b, e1, e2⟩ := hv
          exact plain_ok hs hf hn hd hdn hk (hrun _ _ e2) ⟨hva, b, e1, rfl⟩ hnext
        | eptr id i o0 =>
          rw [hx] at hk hv
          obtain ⟨b, m, cap, K, e1, e2, e3, e4⟩ := hv
          exact plain_ok hs hf hn hd hdn hk (hrun _ _ e4) ⟨b, m, cap, K, e1, e2, e3, by rw [Nat.add_assoc]⟩ hnext
        | fptr cs o0 =>
          rw [hx] at hk hv
          obtain ⟨b, q, c, el, fz, e1, e2⟩ := hv
          exact plain_ok hs hf hn hd hdn hk (hrun _ _ e1) ⟨b, q, c, el, fz, by rw [Nat.add_assoc], e2⟩ hnext
        | _ => rw [hx] at hk; cases hk
      · cases h3
    · cases h3
  · cases h2

end Go.Proofs.Ytnbfkndicldppaa.Core
