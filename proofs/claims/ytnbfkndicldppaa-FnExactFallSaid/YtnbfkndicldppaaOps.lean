/- Lists of operations, guarded groups among them, against a region's operations in order. -/
import Derived.Test.YtnbfkndicldppaaOp8
namespace Go.Proofs.Ytnbfkndicldppaa.Core
open Go

variable {P : Program}

/-- One operation against its annotation. -/
def opB (P : Program) (n : Nat) (o : Oper) : AOp → Bool
  | .mv d x => mvB n o d x
  | .nilrow d _ _ => nilrowB n o d
  | .pick d c a b => pickB n o d c a b
  | .sc _ _ _ _ _ _ => false
  | .alloc d cs => allocB P n o d cs
  | .box d x _ => boxB n o d x
  | .build d z qs => buildB P n o d z qs
  | .bnew d z qs => bnewB P n o d z qs
  | .brow d e K qs => bsB P n o d K qs e
  | .blst d K qs => (match o.op with | .buildSlice t _ _ => bsB P n o d K qs (P.elem t) | _ => false)
  | .load d x m => loadB P n o d x m
  | .store x y m _ => storeB P o x y m
  | .nilc d x => nilcB n o d x
  | .bin d b x y => binB n o d b x y
  | .eqs d neg K x y => eqsB P n o d neg K x y
  | .un d u x => unB n o d u x
  | .cvi d k x => cviB P n o d k x
  | .bts d x => btsB P n o d x
  | .fld d x off => fldB P n o d x off
  | .field d x off m => fieldB P n o d x off m
  | .idx d z x i => idxB P n o d z x i
  | .sidx d x i => sidxB P n o d x i
  | .sl d z x lo hi => slB P n o d z x lo hi
  | .mk d e K m => mkB P n o d e K m
  | .fn d f caps => fnB n o d f caps
  | .clo d f _ x => cloB n o d f x
  | .fbox d x => fboxB n o d x
  | .min d x y => minB n o d x y
  | .app d e K a b => appB P n o d e K a b
  | .apz d e K a b => appB P n o d e K a b
  | .len d t x => lenB P n o d t x
  | .call d f args _ => callB n o d f args
  | .ext d x i => extB n o d x i

theorem opB_ok {n : Nat} {o : Oper} {ao : AOp} {cal : Cal} (hcal : CallOk P cal) (h : opB P n o ao = true) : OpOk P n o ao cal := by
  cases ao with
  | mv d x => exact mv_ok h
  | nilrow d t K => exact nilrow_ok h
  | pick d c a b => exact pick_ok h
  | sc c w ops d a b => cases h
  | alloc d cs => exact alloc_ok h
  | box d x own => exact box_ok h
  | build d z qs => exact build_ok h
  | bnew d z qs => exact bnew_ok h
  | brow d e K qs => exact brow_ok h
  | blst d K qs =>
    simp only [opB] at h
    split at h
    · exact blst_ok h
    · cases h
  | load d x m => exact load_ok h
  | store x y m own => exact store_ok h
  | nilc d x => exact nilc_ok h
  | bin d b x y => exact bin_ok h
  | eqs d neg K x y => exact eqs_ok h
  | un d u x => exact un_ok h
  | cvi d k x => exact cvi_ok h
  | bts d x => exact bts_ok h
  | fld d x off => exact fld_ok h
  | field d x off m => exact field_ok h
  | idx d z x i => exact idx_ok h
  | sidx d x i => exact sidx_ok h
  | sl d z x lo hi => exact sl_ok h
  | mk d e K m => exact mk_ok h
  | fn d f caps => exact fn_ok h
  | clo d f K x => exact clo_ok h
  | fbox d x => exact fbox_ok h
  | min d x y => exact min_ok h
  | app d e K a b => exact app_ok h
  | apz d e K a b => exact apz_ok h
  | len d t x => exact len_ok h
  | call d f args res => exact call_ok hcal h
  | ext d x i => exact ext_ok h

/-- The temporary that a guard looks at. -/
def gTmp (ops : Array Oper) (j : Nat) : Option Nat := (ops[j]?).bind (·.dst)

/-- One annotated operation against the one at place i, under guard g. -/
def flatB (P : Program) (n : Nat) (ops : Array Oper) (g : Option (Nat × Bool)) (i : Nat) (ao : AOp) : Option Nat :=
  match ops[i]? with
  | some o => if (decide (o.guard = g) && opB P n o ao && decide (o.dst.toList = ao.dsts) && ao.dsts.all (fun d => decide (d < n))) = true then some (i + 1) else none
  | none => none

mutual
/-- A list of annotated operations against a region's operations from place i on, all under guard g (D: the temporaries that the group wrote before); where it ends. -/
def segB (P : Program) (n : Nat) (ops : Array Oper) (g : Option (Nat × Bool)) : List Nat → Nat → List AOp → Option Nat
  | _, i, [] => some i
  | D, i, ao :: aos => (itemB P n ops g D i ao).bind fun i' => segB P n ops g (ao.dsts ++ D) i' aos
def itemB (P : Program) (n : Nat) (ops : Array Oper) (g : Option (Nat × Bool)) (D : List Nat) (i : Nat) : AOp → Option Nat
  | .sc c want sub d a b =>
    match (ops[i]?).bind (·.guard) with
    | some (j, w) => if (w == want && gTmp ops j == some c && !(dstsOf sub).contains c && (g.isNone || D.contains c)) = true then
        (segB P n ops (some (j, w)) [] i sub).bind fun i' => match ops[i']? with
          | some o => if (decide (o.guard = g) && pickB n o d (.t c) a b) = true then some (i' + 1) else none
          | none => none
      else none
    | none => none
  | ao => flatB P n ops g i ao
end

def met (ops : Array Oper) (tmps : Array Value) : Option (Nat × Bool) → Prop
  | none => True
  | some (j, w) => ∃ c, gTmp ops j = some c ∧ tmps[c]? = some (.bool w)

theorem wanted_met {ops : Array Oper} {o : Oper} {tmps : Array Value} {g : Option (Nat × Bool)} (hg : o.guard = g) (h : met ops tmps g) : Region.wanted o (yielded ops tmps) = true := by
  unfold Region.wanted
  rw [hg]
  cases g with
  | none => rfl
  | some p =>
    obtain ⟨j, w⟩ := p
    obtain ⟨c, h1, h2⟩ := h
    have : yielded ops tmps j = some w := by
      unfold yielded
      unfold gTmp at h1
      rw [h1, Option.bind_some, h2]
    simp [this]

theorem wanted_not {ops : Array Oper} {o : Oper} {tmps : Array Value} {j c : Nat} {w : Bool} (hg : o.guard = some (j, w)) (hc : gTmp ops j = some c) (h : tmps[c]? ≠ some (.bool w)) : Region.wanted o (yielded ops tmps) = false := by
  unfold Region.wanted
  rw [hg]
  have : yielded ops tmps j ≠ some w := by
    unfold yielded
    unfold gTmp at hc
    rw [hc, Option.bind_some]
    intro e
    split at e
    · rename_i b hb
      cases e
      exact h hb
    · cases e
  simpa using this

theorem put_other {act : Act} {dst : Option Tmp} {v : Value} {t : Nat} (h : dst ≠ some t) : (act.put dst v).tmps[t]? = act.tmps[t]? := by
  cases dst with
  | none => rfl
  | some d =>
    have : d ≠ t := fun e => h (by rw [e])
    simp [Act.put, Array.getElem?_setIfInBounds, this]
theorem put_size {act : Act} {dst : Option Tmp} {v : Value} : (act.put dst v).tmps.size = act.tmps.size := by
  cases dst <;> simp [Act.put]
theorem put_defers {act : Act} {dst : Option Tmp} {v : Value} : (act.put dst v).defers = act.defers := by
  cases dst <;> rfl
theorem put_undef {act : Act} {d : Nat} : (act.put (some d) undef).tmps.getD d undef = undef := by
  rcases Nat.lt_or_ge d act.tmps.size with h | h <;> simp [Act.put, Array.getD, h]

theorem wpOps_step {ops : Array Oper} {Q : Exit → Act → World → Prop} {i : Nat} {rest : List Nat} {act : Act} {w : World} {o : Oper} (ho : ops[i]? = some o) (hw : Region.wanted o (yielded ops act.tmps) = true)
    (h : o.wp P act w (wpOps P ops Q rest) Q) : wpOps P ops Q (i :: rest) act w := by
  simp only [wpOps, ho, hw, if_true]
  exact .inl h
theorem wpOps_skip {ops : Array Oper} {Q : Exit → Act → World → Prop} {i : Nat} {rest : List Nat} {act : Act} {w : World} {o : Oper} (ho : ops[i]? = some o) (hw : Region.wanted o (yielded ops act.tmps) = false)
    (h : wpOps P ops Q rest (act.put o.dst undef) w) : wpOps P ops Q (i :: rest) act w := by
  simp only [wpOps, ho, hw, Bool.false_eq_true, if_false]
  exact h

theorem range_cons {i i' : Nat} (h : i < i') : List.range' i (i' - i) = i :: List.range' (i + 1) (i' - (i + 1)) := by
  rw [show i' - i = (i' - (i + 1)) + 1 by omega, List.range'_succ]
theorem range_split {i j k : Nat} (h1 : i ≤ j) (h2 : j ≤ k) : List.range' i (k - i) = List.range' i (j - i) ++ List.range' j (k - j) := by
  have := List.range'_append (s := i) (m := j - i) (n := k - j) (step := 1)
  rw [Nat.one_mul, show i + (j - i) = j by omega, show j - i + (k - j) = k - i by omega] at this
  exact this.symm

theorem flat_spec {n : Nat} {ops : Array Oper} {g : Option (Nat × Bool)} {i m : Nat} {ao : AOp} (h : flatB P n ops g i ao = some m) :
    m = i + 1 ∧ ∃ o, ops[i]? = some o ∧ o.guard = g ∧ opB P n o ao = true ∧ o.dst.toList = ao.dsts ∧ ∀ d ∈ ao.dsts, d < n := by
  unfold flatB at h
  cases ho : ops[i]? with
  | none => rw [ho] at h; cases h
  | some o =>
    rw [ho] at h
    simp only at h
    split at h
    · rename_i hb
      simp only [Bool.and_eq_true, decide_eq_true_eq, List.all_eq_true] at hb
      cases h
      exact ⟨rfl, o, rfl, hb.1.1.1, hb.1.1.2, hb.1.2, hb.2⟩
    · cases h

theorem sc_spec {n : Nat} {ops : Array Oper} {g : Option (Nat × Bool)} {D : List Nat} {i m c d : Nat} {want : Bool} {sub : List AOp} {a b : Opd} (h : itemB P n ops g D i (.sc c want sub d a b) = some m) :
    ∃ j i', gTmp ops j = some c ∧ c ∉ dstsOf sub ∧ (g.isNone = true ∨ c ∈ D) ∧ segB P n ops (some (j, want)) [] i sub = some i' ∧ m = i' + 1 ∧ ∃ o, ops[i']? = some o ∧ o.guard = g ∧ pickB n o d (.t c) a b = true := by
  simp only [itemB] at h
  split at h
  · rename_i j w hj
    split at h
    · rename_i hb
      simp only [Bool.and_eq_true, beq_iff_eq, Bool.not_eq_true', Bool.or_eq_true, List.contains_eq_mem, decide_eq_false_iff_not, decide_eq_true_eq] at hb
      obtain ⟨⟨⟨rfl, h2⟩, h3⟩, h4⟩ := hb
      cases hs : segB P n ops (some (j, w)) [] i sub with
      | none => rw [hs] at h; cases h
      | some i' =>
        rw [hs] at h
        simp only [Option.bind_some] at h
        split at h
        · rename_i o ho
          split at h
          · rename_i hp
            simp only [Bool.and_eq_true, decide_eq_true_eq] at hp
            cases h
            exact ⟨j, i', h2, h3, h4, hs, rfl, o, ho, hp.1, hp.2⟩
          · cases h
        · cases h
    · cases h
  · cases h

mutual
theorem seg_le {n : Nat} {ops : Array Oper} : ∀ (aos : List AOp) (g : Option (Nat × Bool)) (D : List Nat) (i i' : Nat), segB P n ops g D i aos = some i' → i ≤ i'
  | [], g, D, i, i', h => by simp only [segB, Option.some.injEq] at h; omega
  | ao :: aos, g, D, i, i', h => by
    simp only [segB] at h
    cases hi : itemB P n ops g D i ao with
    | none => rw [hi] at h; cases h
    | some m =>
      rw [hi] at h
      exact Nat.le_trans (Nat.le_of_lt (item_lt ao g D i m hi)) (seg_le aos _ _ _ _ h)
theorem item_lt {n : Nat} {ops : Array Oper} : ∀ (ao : AOp) (g : Option (Nat × Bool)) (D : List Nat) (i m : Nat), itemB P n ops g D i ao = some m → i < m
  | .sc c want sub d a b, g, D, i, m, h => by
    obtain ⟨j, i', _, _, _, hs, rfl, _⟩ := sc_spec h
    have := seg_le sub _ _ _ _ hs
    omega
  | .mv .., g, D, i, m, h | .nilrow .., g, D, i, m, h | .pick .., g, D, i, m, h | .alloc .., g, D, i, m, h | .box .., g, D, i, m, h | .build .., g, D, i, m, h | .bnew .., g, D, i, m, h | .brow .., g, D, i, m, h
  | .blst .., g, D, i, m, h | .load .., g, D, i, m, h | .store .., g, D, i, m, h | .nilc .., g, D, i, m, h | .bin .., g, D, i, m, h | .eqs .., g, D, i, m, h | .un .., g, D, i, m, h
  | .cvi .., g, D, i, m, h | .bts .., g, D, i, m, h | .fld .., g, D, i, m, h | .field .., g, D, i, m, h | .idx .., g, D, i, m, h | .sidx .., g, D, i, m, h | .sl .., g, D, i, m, h
  | .mk .., g, D, i, m, h | .fn .., g, D, i, m, h | .clo .., g, D, i, m, h | .fbox .., g, D, i, m, h | .min .., g, D, i, m, h | .app .., g, D, i, m, h | .apz .., g, D, i, m, h | .len .., g, D, i, m, h | .call .., g, D, i, m, h | .ext .., g, D, i, m, h => by
    have := (flat_spec (ao := _) h).1
    omega
end

/-- What a step of a skipped group leaves. -/
def Left (act act' : Act) (ds : List Nat) : Prop := act'.tmps.size = act.tmps.size ∧ act'.defers = act.defers ∧ (∀ t, t ∉ ds → act'.tmps[t]? = act.tmps[t]?) ∧ (∀ t, act.tmps.getD t undef = undef → act'.tmps.getD t undef = undef) ∧ (∀ t ∈ ds, act'.tmps.getD t undef = undef)

theorem flat_skip {n : Nat} {ops : Array Oper} {j c : Nat} {w : Bool} (hc : gTmp ops j = some c) {Q : Exit → Act → World → Prop} {wd : World} {ao : AOp} {i m : Nat} {rest : List Nat} {act : Act} (h : flatB P n ops (some (j, w)) i ao = some m)
    (hn : act.tmps[c]? ≠ some (.bool w)) (hk : ∀ act', Left act act' ao.dsts → wpOps P ops Q rest act' wd) : wpOps P ops Q (List.range' i (m - i) ++ rest) act wd := by
  obtain ⟨rfl, o, ho, hg, _, hds, hlt⟩ := flat_spec h
  rw [show i + 1 - i = 1 by omega]
  refine wpOps_skip ho (wanted_not hg hc hn) (hk _ ⟨put_size, put_defers, fun t ht => put_other fun e => ht ?_, fun t ht => ?_, fun t ht => ?_⟩)
  · rw [← hds, e]; simp
  · cases hd : o.dst with
    | none => exact ht
    | some d =>
      by_cases e : d = t
      · subst e; exact put_undef
      · have := put_other (act := act) (dst := some d) (v := undef) (t := t) (by simpa using e)
        simpa [Array.getD_eq_getD_getElem?, this] using ht
  · rw [← hds] at ht
    cases hd : o.dst with
    | none => rw [hd] at ht; simp at ht
    | some d =>
      rw [hd] at ht
      simp at ht
      subst ht
      exact put_undef

mutual
theorem seg_skip {n : Nat} {ops : Array Oper} {j c : Nat} {w : Bool} (hc : gTmp ops j = some c) {Q : Exit → Act → World → Prop} {wd : World} : ∀ (aos : List AOp) (D : List Nat) (i i' : Nat) (rest : List Nat) (act : Act), segB P n ops (some (j, w)) D i aos = some i' →
    act.tmps[c]? ≠ some (.bool w) → c ∉ dstsOf aos → (∀ t ∈ D, act.tmps.getD t undef = undef) →
    (∀ act', Left act act' (dstsOf aos) → wpOps P ops Q rest act' wd) → wpOps P ops Q (List.range' i (i' - i) ++ rest) act wd
  | [], D, i, i', rest, act, h, hn, hd, hD, hk => by
    simp only [segB, Option.some.injEq] at h
    subst h
    simp only [Nat.sub_self, List.range'_zero, List.nil_append]
    exact hk act ⟨rfl, rfl, fun _ _ => rfl, fun _ h => h, fun t ht => by simp [dstsOf] at ht⟩
  | ao :: aos, D, i, i', rest, act, h, hn, hd, hD, hk => by
    simp only [segB] at h
    cases hi : itemB P n ops (some (j, w)) D i ao with
    | none => rw [hi] at h; cases h
    | some m =>
      rw [hi] at h
      simp only [Option.bind_some] at h
      simp only [dstsOf, List.mem_append, not_or] at hd
      rw [range_split (Nat.le_of_lt (item_lt ao _ _ _ _ hi)) (seg_le aos _ _ _ _ h), List.append_assoc]
      refine item_skip hc (Q := Q) (wd := wd) ao D i m (List.range' m (i' - m) ++ rest) act hi hn hd.1 hD fun act1 l1 => ?_
      refine seg_skip hc (Q := Q) (wd := wd) aos (ao.dsts ++ D) m i' rest act1 h (by rw [l1.2.2.1 c hd.1]; exact hn) hd.2 (fun t ht => ?_) fun act2 l2 => ?_
      · rcases List.mem_append.1 ht with ht | ht
        · exact l1.2.2.2.2 t ht
        · exact l1.2.2.2.1 t (hD t ht)
      · refine hk act2 ⟨l2.1.trans l1.1, l2.2.1.trans l1.2.1, fun t ht => ?_, fun t ht => l2.2.2.2.1 t (l1.2.2.2.1 t ht), fun t ht => ?_⟩
        · simp only [dstsOf, List.mem_append, not_or] at ht
          rw [l2.2.2.1 t ht.2, l1.2.2.1 t ht.1]
        · simp only [dstsOf, List.mem_append] at ht
          rcases ht with ht | ht
          · exact l2.2.2.2.1 t (l1.2.2.2.2 t ht)
          · exact l2.2.2.2.2 t ht
theorem item_skip {n : Nat} {ops : Array Oper} {j c : Nat} {w : Bool} (hc : gTmp ops j = some c) {Q : Exit → Act → World → Prop} {wd : World} : ∀ (ao : AOp) (D : List Nat) (i m : Nat) (rest : List Nat) (act : Act), itemB P n ops (some (j, w)) D i ao = some m →
    act.tmps[c]? ≠ some (.bool w) → c ∉ ao.dsts → (∀ t ∈ D, act.tmps.getD t undef = undef) →
    (∀ act', Left act act' ao.dsts → wpOps P ops Q rest act' wd) → wpOps P ops Q (List.range' i (m - i) ++ rest) act wd
  | .sc c2 want sub d a b, D, i, m, rest, act, h, hn, hd, hD, hk => by
    obtain ⟨j2, i', hg2, hcn, hcD, hs, rfl, o, ho, hgo, hp⟩ := sc_spec h
    simp only [AOp.dsts, List.mem_append, not_or] at hd
    have hc2 : act.tmps.getD c2 undef = undef := by
      rcases hcD with h | h
      · cases h
      · exact hD c2 h
    have hle := seg_le sub _ _ _ _ hs
    have hpd : o.dst = some d ∧ d < n := by
      simp only [pickB, Bool.and_eq_true] at hp
      exact dstB_ok hp.1
    have hnb : act.tmps[c2]? ≠ some (.bool want) := by
      intro e
      rw [Array.getD_eq_getD_getElem?, e] at hc2
      cases hc2
    rw [range_split hle (Nat.le_succ i'), List.append_assoc]
    refine seg_skip hg2 (Q := Q) (wd := wd) sub [] i i' _ act hs hnb hcn (fun t ht => by cases ht) fun act1 l1 => ?_
    rw [show i' + 1 - i' = 1 by omega]
    refine wpOps_skip ho (wanted_not hgo hc (by rw [l1.2.2.1 c hd.1]; exact hn)) (hk _ ⟨put_size.trans l1.1, put_defers.trans l1.2.1, fun t ht => ?_, fun t ht => ?_, fun t ht => ?_⟩)
    · simp only [AOp.dsts, List.mem_append, not_or, List.mem_singleton] at ht
      rw [put_other (by rw [hpd.1]; intro e; cases e; exact ht.2 rfl)]
      exact l1.2.2.1 t ht.1
    · rw [hpd.1]
      by_cases e : d = t
      · subst e; exact put_undef
      · have := put_other (act := act1) (dst := some d) (v := undef) (t := t) (by simpa using e)
        have h2 := l1.2.2.2.1 t ht
        simpa [Array.getD_eq_getD_getElem?, this] using h2
    · simp only [AOp.dsts, List.mem_append, List.mem_singleton] at ht
      rw [hpd.1]
      by_cases e : d = t
      · subst e; exact put_undef
      · have := put_other (act := act1) (dst := some d) (v := undef) (t := t) (by simpa using e)
        have h2 := l1.2.2.2.2 t (ht.resolve_right (Ne.symm e))
        simpa [Array.getD_eq_getD_getElem?, this] using h2
  | .mv .., D, i, m, rest, act, h, hn, hd, hD, hk | .nilrow .., D, i, m, rest, act, h, hn, hd, hD, hk | .pick .., D, i, m, rest, act, h, hn, hd, hD, hk | .alloc .., D, i, m, rest, act, h, hn, hd, hD, hk
  | .box .., D, i, m, rest, act, h, hn, hd, hD, hk | .build .., D, i, m, rest, act, h, hn, hd, hD, hk | .bnew .., D, i, m, rest, act, h, hn, hd, hD, hk | .brow .., D, i, m, rest, act, h, hn, hd, hD, hk | .blst .., D, i, m, rest, act, h, hn, hd, hD, hk
  | .load .., D, i, m, rest, act, h, hn, hd, hD, hk | .store .., D, i, m, rest, act, h, hn, hd, hD, hk | .nilc .., D, i, m, rest, act, h, hn, hd, hD, hk | .bin .., D, i, m, rest, act, h, hn, hd, hD, hk
  | .eqs .., D, i, m, rest, act, h, hn, hd, hD, hk | .un .., D, i, m, rest, act, h, hn, hd, hD, hk | .cvi .., D, i, m, rest, act, h, hn, hd, hD, hk | .bts .., D, i, m, rest, act, h, hn, hd, hD, hk
  | .fld .., D, i, m, rest, act, h, hn, hd, hD, hk | .field .., D, i, m, rest, act, h, hn, hd, hD, hk | .idx .., D, i, m, rest, act, h, hn, hd, hD, hk | .sidx .., D, i, m, rest, act, h, hn, hd, hD, hk
  | .sl .., D, i, m, rest, act, h, hn, hd, hD, hk | .mk .., D, i, m, rest, act, h, hn, hd, hD, hk | .fn .., D, i, m, rest, act, h, hn, hd, hD, hk | .clo .., D, i, m, rest, act, h, hn, hd, hD, hk | .fbox .., D, i, m, rest, act, h, hn, hd, hD, hk | .min .., D, i, m, rest, act, h, hn, hd, hD, hk | .app .., D, i, m, rest, act, h, hn, hd, hD, hk | .apz .., D, i, m, rest, act, h, hn, hd, hD, hk
  | .len .., D, i, m, rest, act, h, hn, hd, hD, hk | .call .., D, i, m, rest, act, h, hn, hd, hD, hk | .ext .., D, i, m, rest, act, h, hn, hd, hD, hk => flat_skip hc h hn hk
end

/-- What is handed on behind operations. -/
def Kont (P : Program) (ops : Array Oper) (n : Nat) {ρ : Type} (kn : St → Option ρ) (r : ρ) (s : St) (act : Act) (w : World) (H : HP) (φ : Phi) (ds : List Nat) (N : Act → World → Prop) : Prop :=
  ∀ s' act' w' H' φ', kn s' = some r → Step H φ s.st w H' φ' s'.st w' → FrR H' φ' s'.st s'.fr act'.tmps → act'.tmps.size = n → act'.defers = act.defers → (∀ t, t ∉ ds → act'.tmps[t]? = act.tmps[t]?) → N act' w'

def ItemOk (P : Program) (n : Nat) (ops : Array Oper) (g : Option (Nat × Bool)) (cal : Cal) (ds : List Nat) (i m : Nat) (run : (ρ : Type) → (St → Option ρ) → St → Option ρ) : Prop :=
  ∀ (ρ : Type) (kn : St → Option ρ) (r : ρ) (s : St) (act : Act) (w : World) (H : HP) (φ : Phi) (Q : Exit → Act → World → Prop) (rest : List Nat),
    SR H φ s.st w → FrR H φ s.st s.fr act.tmps → act.tmps.size = n → met ops act.tmps g → (∀ j w c, g = some (j, w) → gTmp ops j = some c → c ∉ ds) → run ρ kn s = some r →
    Kont P ops n kn r s act w H φ ds (wpOps P ops Q rest) → wpOps P ops Q (List.range' i (m - i) ++ rest) act w

theorem flat_ok {n : Nat} {ops : Array Oper} {g : Option (Nat × Bool)} {cal : Cal} (hcal : CallOk P cal) {ao : AOp} {i m : Nat} (h : flatB P n ops g i ao = some m) :
    ItemOk P n ops g cal ao.dsts i m fun ρ kn s => opK cal kn s ao := by
  intro ρ kn r s act w H φ Q rest hs hf hn hm _ hk hnext
  obtain ⟨rfl, o, ho, hg, hb, hds, hlt⟩ := flat_spec h
  rw [show i + 1 - i = 1 by omega]
  refine wpOps_step ho (wanted_met hg hm) (opB_ok hcal hb ρ kn r s act w H φ _ Q hs hf hn hk fun s' v w' H' φ' hk' hst hf' _ => ?_)
  refine hnext s' _ w' H' φ' hk' hst hf' (put_size.trans hn) put_defers fun t ht => put_other fun e => ht ?_
  rw [← hds, e]
  simp

mutual
theorem seg_ok {n : Nat} {ops : Array Oper} {cal : Cal} (hcal : CallOk P cal) : ∀ (aos : List AOp) (g : Option (Nat × Bool)) (D : List Nat) (i m : Nat), segB P n ops g D i aos = some m → ItemOk P n ops g cal (dstsOf aos) i m fun ρ kn s => opsK cal kn s aos
  | [], g, D, i, m, h => by
    intro ρ kn r s act w H φ Q rest hs hf hn hm hd hk hnext
    simp only [segB, Option.some.injEq] at h
    subst h
    simp only [Nat.sub_self, List.range'_zero, List.nil_append]
    simp only [opsK] at hk
    exact hnext s act w H φ hk (Step.refl hs) hf hn rfl fun _ _ => rfl
  | ao :: aos, g, D, i, m, h => by
    intro ρ kn r s act w H φ Q rest hs hf hn hm hd hk hnext
    simp only [segB] at h
    cases hi : itemB P n ops g D i ao with
    | none => rw [hi] at h; cases h
    | some q =>
      rw [hi] at h
      simp only [Option.bind_some] at h
      rw [range_split (Nat.le_of_lt (item_lt ao _ _ _ _ hi)) (seg_le aos _ _ _ _ h), List.append_assoc]
      have hd1 : ∀ j w c, g = some (j, w) → gTmp ops j = some c → c ∉ ao.dsts ∧ c ∉ dstsOf aos := by
        intro j w c h1 h2
        have := hd j w c h1 h2
        simpa [dstsOf, not_or] using this
      refine item_ok hcal ao g D i q hi ρ (fun s' => opsK cal kn s' aos) r s act w H φ Q _ hs hf hn hm (fun j w c h1 h2 => (hd1 j w c h1 h2).1) (by simpa only [opsK] using hk) fun s1 act1 w1 H1 φ1 hk1 st1 hf1 hn1 hd1' ht1 => ?_
      have hm1 : met ops act1.tmps g := by
        cases g with
        | none => trivial
        | some p =>
          obtain ⟨j, w⟩ := p
          obtain ⟨c, h1, h2⟩ := hm
          exact ⟨c, h1, by rw [ht1 c (hd1 j w c rfl h1).1]; exact h2⟩
      refine seg_ok hcal aos g (ao.dsts ++ D) q m h ρ kn r s1 act1 w1 H1 φ1 Q rest st1.sr hf1 hn1 hm1 (fun j w c h1 h2 => (hd1 j w c h1 h2).2) hk1 fun s2 act2 w2 H2 φ2 hk2 st2 hf2 hn2 hd2 ht2 => ?_
      refine hnext s2 act2 w2 H2 φ2 hk2 (st1.trans st2) hf2 hn2 (hd2.trans hd1') fun t ht => ?_
      simp only [dstsOf, List.mem_append, not_or] at ht
      rw [ht2 t ht.2, ht1 t ht.1]
theorem item_ok {n : Nat} {ops : Array Oper} {cal : Cal} (hcal : CallOk P cal) : ∀ (ao : AOp) (g : Option (Nat × Bool)) (D : List Nat) (i m : Nat), itemB P n ops g D i ao = some m → ItemOk P n ops g cal ao.dsts i m fun ρ kn s => opK cal kn s ao
  | .sc c want sub d a b, g, D, i, m, h => by
    intro ρ kn r s act w H φ Q rest hs hf hn hm hd hk hnext
    obtain ⟨j, i', hg2, hcn, _, hseg, rfl, o, ho, hgo, hp⟩ := sc_spec h
    have hle := seg_le sub _ _ _ _ hseg
    have hmet : ∀ act' : Act, (∀ t, t ∉ dstsOf sub → act'.tmps[t]? = act.tmps[t]?) → met ops act'.tmps g := by
      intro act' ht
      cases g with
      | none => trivial
      | some p =>
        obtain ⟨j, w⟩ := p
        obtain ⟨c, h1, h2⟩ := hm
        have := hd j w c rfl h1
        simp only [AOp.dsts, List.mem_append, not_or] at this
        exact ⟨c, h1, by rw [ht c this.1]; exact h2⟩
    simp only [pickB, Bool.and_eq_true] at hp
    obtain ⟨hpd, hp⟩ := hp
    obtain ⟨hod, hdn⟩ := dstB_ok hpd
    split at hp
    · rename_i c' a' b' hop
      simp only [Bool.and_eq_true] at hp
      obtain ⟨⟨hc', ha'⟩, hb'⟩ := hp
      have hce : c' = .tmp c := by
        cases c' <;> simp [opdB] at hc'
        rw [hc']
      subst hce
      simp only [opK] at hk
      have hfc := hf c
      cases hgt : getT s.fr c with
      | bool t =>
        rw [hgt] at hk hfc
        simp only at hk
        have hct : act.tmps[c]? = some (.bool t) := by
          have hfc : act.tmps.getD c undef = .bool t := hfc
          rw [Array.getD_eq_getD_getElem?] at hfc
          cases hq : act.tmps[c]? with
          | none => rw [hq] at hfc; cases hfc
          | some v => rw [hq] at hfc; simpa using hfc
        rw [range_split hle (Nat.le_succ i'), List.append_assoc]
        have last : ∀ (s1 : St) (act1 : Act) (w1 : World) (H1 : HP) (φ1 : Phi) (x : AV), kn (s1.put d x) = some r → Step H φ s.st w H1 φ1 s1.st w1 → FrR H1 φ1 s1.st s1.fr act1.tmps → act1.tmps.size = n → act1.defers = act.defers →
            (∀ t, t ∉ dstsOf sub → act1.tmps[t]? = act.tmps[t]?) → x = (if t = true then s1.opd a else s1.opd b) → wpOps P ops Q (List.range' i' (i' + 1 - i') ++ rest) act1 w1 := by
          intro s1 act1 w1 H1 φ1 x hk1 st1 hf1 hn1 hdef1 ht1 hx
          rw [show i' + 1 - i' = 1 by omega]
          have hc1 : act1.eval (.tmp c) = .bool t := by
            show act1.tmps.getD c undef = _
            rw [Array.getD_eq_getD_getElem?, ht1 c hcn, hct]
            rfl
          have hput : ∀ v, (∀ u, u ∉ (AOp.sc c want sub d a b).dsts → (act1.put o.dst v).tmps[u]? = act.tmps[u]?) := by
            intro v u hu
            simp only [AOp.dsts, List.mem_append, not_or, List.mem_singleton] at hu
            rw [put_other (by rw [hod]; intro e; cases e; exact hu.2 rfl)]
            exact ht1 u hu.1
          refine wpOps_step ho (wanted_met hgo (hmet act1 ht1)) ?_
          have fin : ∀ v, VA H1 φ1 s1.st x v → (execOp act1.eval o).run P w1 = .ok (.value v) w1 → o.wp P act1 w1 (wpOps P ops Q rest) Q := by
            intro v hv hrun
            refine wp_value hrun (hnext (s1.put d x) _ w1 H1 φ1 hk1 st1 ?_ (put_size.trans hn1) (put_defers.trans hdef1) (hput v))
            rw [put_tmps hod]
            exact hf1.put (by omega) hv
          cases t with
          | true => exact fin _ (by rw [hx]; exact opd_ok hf1 ha') (by simp [execOp, hop, hc1, asBool])
          | false => exact fin _ (by rw [hx]; exact opd_ok hf1 hb') (by simp [execOp, hop, hc1, asBool])
        by_cases htw : t = want
        · subst htw
          rw [if_pos rfl] at hk
          refine seg_ok hcal sub (some (j, t)) [] i i' hseg ρ _ r s act w H φ Q _ hs hf hn ⟨c, hg2, hct⟩ (fun j2 w2 c2 e1 e2 => ?_) hk fun s1 act1 w1 H1 φ1 hk1 st1 hf1 hn1 hdef1 ht1 => ?_
          · cases e1
            rw [hg2] at e2
            cases e2
            exact hcn
          · exact last s1 act1 w1 H1 φ1 _ hk1 st1 hf1 hn1 hdef1 ht1 rfl
        · rw [if_neg htw] at hk
          refine seg_skip hg2 sub [] i i' _ act hseg (by rw [hct]; intro e; cases e; exact htw rfl) hcn (fun t ht => by cases ht) fun act1 l1 => ?_
          refine last (s.forget (dstsOf sub)) act1 w H φ _ hk (Step.refl hs) ?_ (l1.1.trans hn) l1.2.1 l1.2.2.1 ?_
          · intro u
            have : getT (s.forget (dstsOf sub)).fr u = if u ∈ dstsOf sub then .undef else getT s.fr u := by
              simp only [St.forget]
              generalize dstsOf sub = ds
              induction ds with
              | nil => simp
              | cons q qs ih =>
                simp only [List.map_cons, List.cons_append, getT]
                by_cases e : q = u
                · subst e; simp
                · rw [if_neg e, ih]; simp [Ne.symm e]
            rw [this]
            split
            · trivial
            · rename_i hu
              have := hf u
              rw [Array.getD_eq_getD_getElem?] at this ⊢
              rw [l1.2.2.1 u hu]
              exact this
          · cases t <;> cases want <;> first | exact absurd rfl htw | rfl
      | _ => rw [hgt] at hk; cases hk
    · cases hp
  | .mv .., g, D, i, m, h => flat_ok hcal h
  | .nilrow .., g, D, i, m, h => flat_ok hcal h
  | .pick .., g, D, i, m, h => flat_ok hcal h
  | .alloc .., g, D, i, m, h => flat_ok hcal h
  | .box .., g, D, i, m, h => flat_ok hcal h
  | .build .., g, D, i, m, h => flat_ok hcal h
  | .bnew .., g, D, i, m, h => flat_ok hcal h
  | .brow .., g, D, i, m, h => flat_ok hcal h
  | .blst .., g, D, i, m, h => flat_ok hcal h
  | .load .., g, D, i, m, h => flat_ok hcal h
  | .store .., g, D, i, m, h => flat_ok hcal h
  | .nilc .., g, D, i, m, h => flat_ok hcal h
  | .bin .., g, D, i, m, h => flat_ok hcal h
  | .eqs .., g, D, i, m, h => flat_ok hcal h
  | .un .., g, D, i, m, h => flat_ok hcal h
  | .cvi .., g, D, i, m, h => flat_ok hcal h
  | .bts .., g, D, i, m, h => flat_ok hcal h
  | .fld .., g, D, i, m, h => flat_ok hcal h
  | .field .., g, D, i, m, h => flat_ok hcal h
  | .idx .., g, D, i, m, h => flat_ok hcal h
  | .sidx .., g, D, i, m, h => flat_ok hcal h
  | .sl .., g, D, i, m, h => flat_ok hcal h
  | .mk .., g, D, i, m, h => flat_ok hcal h
  | .fn .., g, D, i, m, h => flat_ok hcal h
  | .clo .., g, D, i, m, h => flat_ok hcal h
  | .fbox .., g, D, i, m, h => flat_ok hcal h
  | .min .., g, D, i, m, h => flat_ok hcal h
  | .app .., g, D, i, m, h => flat_ok hcal h
  | .apz .., g, D, i, m, h => flat_ok hcal h
  | .len .., g, D, i, m, h => flat_ok hcal h
  | .call .., g, D, i, m, h => flat_ok hcal h
  | .ext .., g, D, i, m, h => flat_ok hcal h
end

/-- A region without a drawn order. -/
theorem region_ok {n : Nat} {ops : Array Oper} {cal : Cal} (hcal : CallOk P cal) {aos : List AOp} {id : Nat} (h : segB P n ops none [] 0 aos = some ops.size) {ρ : Type} {kn : St → Option ρ} {r : ρ} {s : St} {act : Act} {w : World} {H : HP} {φ : Phi} {Q : Exit → Act → World → Prop}
    (hs : SR H φ s.st w) (hf : FrR H φ s.st s.fr act.tmps) (hn : act.tmps.size = n) (hk : opsK cal kn s aos = some r)
    (hnext : ∀ s' act' w' H' φ', kn s' = some r → Step H φ s.st w H' φ' s'.st w' → FrR H' φ' s'.st s'.fr act'.tmps → act'.tmps.size = n → act'.defers = act.defers → Q .normal act' w') : (Code.region id ops false).wp P Q act w := by
  refine wp_region ?_
  have := seg_ok hcal aos none [] 0 ops.size h ρ kn r s act w H φ Q [] hs hf hn trivial (fun _ _ _ e => by cases e) hk fun s' act' w' H' φ' h1 h2 h3 h4 h5 _ => hnext s' act' w' H' φ' h1 h2 h3 h4 h5
  rw [List.append_nil, Nat.sub_zero, ← List.range_eq_range'] at this
  exact this

end Go.Proofs.Ytnbfkndicldppaa.Core
