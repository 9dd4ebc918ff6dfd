/- Operations on values: parts, conversions, lengths, arithmetic, comparisons. -/
import Derived.Test.YtnbfkndicldppaaOp2
import Derived.Laws.StructEq
import Derived.Laws.BytesString
namespace Go.Proofs.Ytnbfkndicldppaa.Core
open Go

variable {P : Program}

theorem run_isAgg_true {t : TypeId} {w : World} (h : aggB P t true = true) : (isAgg t).run P w = .ok true w := by
  obtain ⟨d, hu, hd⟩ := aggB_true h
  unfold isAgg
  rw [Sem.run_bind, run_underlying hu w]
  cases d <;> simp_all [TypeDesc.isRow]
theorem run_isAgg_false {t : TypeId} {w : World} (h : aggB P t false = true) : (isAgg t).run P w = .ok false w := by
  obtain ⟨d, hu, hd⟩ := aggB_false h
  unfold isAgg
  rw [Sem.run_bind, run_underlying hu w]
  cases d <;> simp_all [TypeDesc.isRow]

theorem run_part_one {t : TypeId} {w : World} {cs : Array Value} {off : Nat} {v : Value} (h : aggB P t false = true) (hv : cs[off]? = some v) : (Go.part t cs off).run P w = .ok v w := by
  simp [Go.part, run_isAgg_false h, hv]
theorem run_part_agg {t : TypeId} {w : World} {cs : Array Value} {off k : Nat} (h : aggB P t true = true) (hk : szB P t k = true) : (Go.part t cs off).run P w = .ok (.agg (cs.extract off (off + k))) w := by
  have hs := szB_spec hk
  cases hi : P.info? t with
  | none => simp [hi] at hs
  | some i =>
    have hs : i.size = k := by simpa [hi] using hs
    simp [Go.part, run_isAgg_true h, sizeOf, typeInfo, hi, hs]

def partB (P : Program) (t : TypeId) : Option Nat → Bool
  | some k => szB P t k && aggB P t true
  | none => aggB P t false

theorem run_part_ok {R : AV → Value → Prop} {t : TypeId} {m : Option Nat} {as : List AV} {cs : Array Value} {off : Nat} (hm : partB P t m = true) (h : All2 R as cs.toList) (hl : off + m.getD 1 ≤ as.length) :
    ∃ v, (∀ w, (Go.part t cs off).run P w = .ok v w) ∧
      (match m with | some k => ∃ arr, v = .agg arr ∧ All2 R ((as.drop off).take k) arr.toList | none => R ((as.drop off).headD .undef) v) := by
  cases m with
  | some k =>
    simp only [partB, Bool.and_eq_true] at hm
    refine ⟨_, fun _ => run_part_agg hm.2 hm.1, _, rfl, ?_⟩
    have := (h.drop off).take k
    simpa [List.extract] using this
  | none =>
    simp only [Option.getD_none] at hl
    obtain ⟨v, hv, hr⟩ := h.get off as[off] (by simp)
    refine ⟨v, fun _ => run_part_one hm (by simpa using hv), ?_⟩
    have e : (as.drop off).headD .undef = as[off] := by
      rw [List.drop_eq_getElem_cons (by omega)]
      rfl
    simp only [e]
    exact hr

def fieldB (P : Program) (n : Nat) (o : Oper) (d : Nat) (x : Opd) (off : Nat) (m : Option Nat) : Bool :=
  dstB o n d && (match o.op with
    | .field t y f => opdB y x && (match fldAt P t f off with | some ft => partB P ft m | none => false)
    | _ => false)
theorem field_ok {n : Nat} {o : Oper} {d : Nat} {x : Opd} {off : Nat} {m : Option Nat} {cal : Cal} (h : fieldB P n o d x off m = true) : OpOk P n o (.field d x off m) cal := by
  intro ρ kn r s act w H φ next Q hs hf hn hk hnext
  simp only [fieldB, Bool.and_eq_true] at h
  obtain ⟨h1, h2⟩ := h
  obtain ⟨hd, hdn⟩ := dstB_ok h1
  split at h2
  · rename_i t y f ho
    simp only [Bool.and_eq_true] at h2
    obtain ⟨h2, h3⟩ := h2
    split at h3
    · rename_i ft hft
      obtain ⟨fs, fd, hu, hfd, he, hty⟩ := fldAt_ok hft
      have hv := opd_ok hf h2
      simp only [opK] at hk
      cases hx : s.opd x with
      | agg cs =>
        rw [hx] at hk hv
        simp only at hk
        obtain ⟨arr, ev, hv⟩ := hv
        split at hk
        · rename_i hl
          obtain ⟨v, hrun, hr⟩ := run_part_ok h3 hv hl
          refine plain_ok hs hf hn hd hdn hk (v := v) ?_ ?_ hnext
          · intro w2 _
            simp [execOp, ho, Instr.field, run_underlying hu, hfd, ev, asAgg, hty, he, hrun]
          · cases m with
            | some k => exact hr
            | none => exact VA.of_VC hr
        · cases hk
      | _ => rw [hx] at hk; cases hk
    · cases h3
  · cases h2

def cviB (P : Program) (n : Nat) (o : Oper) (d : Nat) (k : IntKind) (x : Opd) : Bool :=
  dstB o n d && (match o.op with
    | .convert src dst y => opdB y x && (P.underlying src).isSome && (match P.underlying dst with | some (.int k') => decide (k' = k) | _ => false)
    | _ => false)
theorem cvi_ok {n : Nat} {o : Oper} {d : Nat} {k : IntKind} {x : Opd} {cal : Cal} (h : cviB P n o d k x = true) : OpOk P n o (.cvi d k x) cal := by
  intro ρ kn r s act w H φ next Q hs hf hn hk hnext
  simp only [cviB, Bool.and_eq_true] at h
  obtain ⟨h1, h2⟩ := h
  obtain ⟨hd, hdn⟩ := dstB_ok h1
  split at h2
  · rename_i src dst y ho
    simp only [Bool.and_eq_true] at h2
    obtain ⟨⟨h2, h3⟩, h4⟩ := h2
    split at h4
    · rename_i k' hk'
      simp only [decide_eq_true_eq] at h4
      subst h4
      obtain ⟨ds, hds⟩ := Option.isSome_iff_exists.1 h3
      have hv := opd_ok hf h2
      simp only [opK] at hk
      cases hx : s.opd x with
      | int k0 m =>
        rw [hx] at hk hv
        have hv : act.eval y = .int k0 m := hv
        refine plain_ok hs hf hn hd hdn hk (v := .int k' (k'.wrap m)) ?_ rfl hnext
        intro w2 _
        simp [execOp, ho, hv, convert, run_underlying hds, run_underlying hk', Conv.intToInt]
      | _ => rw [hx] at hk; cases hk
    · cases h4
  · cases h2

def unB (n : Nat) (o : Oper) (d : Nat) (u : UnOp) (x : Opd) : Bool :=
  dstB o n d && (match o.op with | .unOp u' _ y => opdB y x && (match u, u' with | .not, .not => true | .neg, .neg => true | _, _ => false) | _ => false)
theorem un_ok {n : Nat} {o : Oper} {d : Nat} {u : UnOp} {x : Opd} {cal : Cal} (h : unB n o d u x = true) : OpOk P n o (.un d u x) cal := by
  intro ρ kn r s act w H φ next Q hs hf hn hk hnext
  simp only [unB, Bool.and_eq_true] at h
  obtain ⟨h1, h2⟩ := h
  obtain ⟨hd, hdn⟩ := dstB_ok h1
  split at h2
  · rename_i u' t y ho
    simp only [Bool.and_eq_true] at h2
    obtain ⟨h2, h3⟩ := h2
    have hv := opd_ok hf h2
    simp only [opK] at hk
    split at h3
    · cases hx : s.opd x with
      | bool b =>
        rw [hx] at hk hv
        simp only [unop] at hk
        have hv : act.eval y = .bool b := hv
        exact plain_ok hs hf hn hd hdn hk (v := .bool (!b)) (fun _ _ => by simp [execOp, ho, hv, Op.unary]) rfl hnext
      | _ => rw [hx] at hk; cases hk
    · cases hx : s.opd x with
      | int k m =>
        rw [hx] at hk hv
        simp only [unop] at hk
        have hv : act.eval y = .int k m := hv
        exact plain_ok hs hf hn hd hdn hk (v := .int k (k.wrap (0 - m))) (fun _ _ => by simp [execOp, ho, hv, Op.unary, Op.intArith]) rfl hnext
      | _ => rw [hx] at hk; cases hk
    · cases h3
  · cases h2

def extB (n : Nat) (o : Oper) (d : Nat) (x : Opd) (i : Nat) : Bool :=
  dstB o n d && (match o.op with | .extract y i' => opdB y x && i' == i | _ => false)
theorem ext_ok {n : Nat} {o : Oper} {d : Nat} {x : Opd} {i : Nat} {cal : Cal} (h : extB n o d x i = true) : OpOk P n o (.ext d x i) cal := by
  intro ρ kn r s act w H φ next Q hs hf hn hk hnext
  simp only [extB, Bool.and_eq_true] at h
  obtain ⟨h1, h2⟩ := h
  obtain ⟨hd, hdn⟩ := dstB_ok h1
  split at h2
  · rename_i y i' ho
    simp only [Bool.and_eq_true, beq_iff_eq] at h2
    obtain ⟨h2, rfl⟩ := h2
    have hv := opd_ok hf h2
    simp only [opK] at hk
    cases hx : s.opd x with
    | tup vs =>
      rw [hx] at hk hv
      simp only at hk
      obtain ⟨arr, ev, hv⟩ := hv
      split at hk
      · rename_i hi
        obtain ⟨v, hv1, hv2⟩ := hv.get i' vs[i'] (by simp)
        have hv1 : arr[i']? = some v := by simpa using hv1
        have e : vs.getD i' .undef = vs[i'] := by simp [List.getD, hi]
        rw [e] at hk
        exact plain_ok hs hf hn hd hdn hk (v := v) (fun _ _ => by simp [execOp, ho, ev, Instr.extract, hv1]) (VA.of_VB hv2) hnext
      · cases hk
    | _ => rw [hx] at hk; cases hk
  · cases h2

def fnB (n : Nat) (o : Oper) (d : Nat) (f : Nat) (caps : List Opd) : Bool :=
  dstB o n d && caps.isEmpty && (match o.op with | .makeFunc (.func f') first captured => f' == f && first.isEmpty && captured.isEmpty | _ => false)
theorem fn_ok {n : Nat} {o : Oper} {d f : Nat} {caps : List Opd} {cal : Cal} (h : fnB n o d f caps = true) : OpOk P n o (.fn d f caps) cal := by
  intro ρ kn r s act w H φ next Q hs hf hn hk hnext
  simp only [fnB, Bool.and_eq_true, List.isEmpty_iff] at h
  obtain ⟨⟨h1, rfl⟩, h2⟩ := h
  obtain ⟨hd, hdn⟩ := dstB_ok h1
  split at h2
  · rename_i f' first captured ho
    simp only [Bool.and_eq_true, beq_iff_eq, Array.isEmpty_iff] at h2
    obtain ⟨⟨rfl, rfl⟩, rfl⟩ := h2
    exact plain_ok hs hf hn hd hdn hk (v := .func (.func f') #[] #[]) (fun _ _ => by simp [execOp, ho, Instr.makeFunc]) ⟨rfl, rfl⟩ hnext
  · cases h2

end Go.Proofs.Ytnbfkndicldppaa.Core
