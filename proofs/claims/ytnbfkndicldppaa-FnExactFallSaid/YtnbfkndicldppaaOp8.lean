/- Function values that hold a variable, variables that nobody writes again, and the lesser of two numbers. -/
import Derived.Test.YtnbfkndicldppaaCall
namespace Go.Proofs.Ytnbfkndicldppaa.Core
open Go

variable {P : Program}

def cloB (n : Nat) (o : Oper) (d : Nat) (f : Nat) (x : Opd) : Bool :=
  dstB o n d && (match o.op with
    | .makeFunc (.func g) first caps => g == f && first.toList.isEmpty && (match caps.toList with | [y] => opdB y x | _ => false)
    | _ => false)
theorem clo_ok {n : Nat} {o : Oper} {d f : Nat} {K : Kd} {x : Opd} {cal : Cal} (h : cloB n o d f x = true) : OpOk P n o (.clo d f K x) cal := by
  intro ρ kn r s act w H φ next Q hs hf hn hk hnext
  simp only [cloB, Bool.and_eq_true] at h
  obtain ⟨h1, h2⟩ := h
  obtain ⟨hd, hdn⟩ := dstB_ok h1
  split at h2
  · rename_i g first caps ho
    simp only [Bool.and_eq_true, beq_iff_eq, List.isEmpty_iff] at h2
    obtain ⟨⟨rfl, hfi⟩, h2⟩ := h2
    split at h2
    · rename_i y hc
      have hfi : first = #[] := by rw [← Array.toArray_toList (xs := first), hfi]
      have hc : caps = #[y] := by rw [← Array.toArray_toList (xs := caps), hc]
      subst hfi hc
      have hv := opd_ok hf h2
      simp only [opK] at hk
      split at hk
      · rename_i cs hx
        rw [hx] at hv
        cases hz : K.ofCells cs with
        | none => rw [hz] at hk; cases hk
        | some z =>
          rw [hz] at hk
          simp only [Option.bind_some] at hk
          obtain ⟨b, o', c, el, fz, e, hb, vs, v1, v2⟩ := hv
          obtain ⟨c1, c2, d1, d2, d3⟩ := rep_of_dec K v1 (ofCells_dec hz)
          cases d3
          rw [List.append_nil] at d1
          subst d1
          refine plain_ok hs hf hn hd hdn hk (v := .func (.func g) #[] #[act.eval y]) (fun w2 _ => by simp [execOp, ho, Instr.makeFunc]) ?_ hnext
          exact ⟨b, o', c, el, fz, by rw [e]; rfl, hb, vs, d2, v2⟩
      · cases hk
    · cases h2
  · cases h2

def fboxB (n : Nat) (o : Oper) (d : Nat) (x : Opd) : Bool :=
  dstB o n d && (match o.op with | .box _ y => opdB y x | _ => false)
theorem fbox_ok {n : Nat} {o : Oper} {d : Nat} {x : Opd} {cal : Cal} (h : fboxB n o d x = true) : OpOk P n o (.fbox d x) cal := by
  intro ρ kn r s act w H φ next Q hs hf hn hk hnext
  simp only [fboxB, Bool.and_eq_true] at h
  obtain ⟨h1, h2⟩ := h
  obtain ⟨hd, hdn⟩ := dstB_ok h1
  split at h2
  · rename_i t y ho
    simp only [opK] at hk
    cases hq : s.keepAll (s.opd x).cells with
    | none => rw [hq] at hk; cases hk
    | some z =>
      obtain ⟨as, s1⟩ := z
      rw [hq] at hk
      simp only [Option.bind_some] at hk
      obtain ⟨H1, g1, k1, f1, e1, _⟩ := keepCells_step hs (opd_ok hf h2) hq
      obtain ⟨H2, g2, hb2⟩ := Step.lit g1.sr (.cells (act.eval y).cells t)
      refine step_ok (s := s) (s1 := s1) (a := .fptr as 0) (v := .pointer (some ⟨w.heap.size, 0, none⟩)) (g1.trans g2) ?_ hn hd hdn hk ?_ ?_ hnext (Mem.grown hs (World.grownBy_alloc w _ none)) rfl
      · rw [e1]; exact (hf.mono g1.le k1).mono g2.le (Keeps.refl _ _ _)
      · simp [execOp, ho, Instr.box, newVar, newRow]
      · exact ⟨w.heap.size, 0, _, t, (0, 0), rfl, hb2, _, f1.mono g2.le, fun j u hu => by simpa using hu⟩
  · cases h2

def minB (n : Nat) (o : Oper) (d : Nat) (x y : Opd) : Bool :=
  dstB o n d && (match o.op with
    | .call ⟨.builtin .min, args, _⟩ => (match args.toList with
      | [a, b] => opdB a x && opdB b y
      | _ => false)
    | _ => false)
theorem min_ok {n : Nat} {o : Oper} {d : Nat} {x y : Opd} {cal : Cal} (h : minB n o d x y = true) : OpOk P n o (.min d x y) cal := by
  intro ρ kn r s act w H φ next Q hs hf hn hk hnext
  simp only [minB, Bool.and_eq_true] at h
  obtain ⟨h1, h2⟩ := h
  obtain ⟨hd, hdn⟩ := dstB_ok h1
  split at h2
  · rename_i args tys ho
    split at h2
    · rename_i a b ha
      simp only [Bool.and_eq_true] at h2
      have ha : args = #[a, b] := by rw [← Array.toArray_toList (xs := args), ha]
      subst ha
      have va := opd_ok hf h2.1
      have vb := opd_ok hf h2.2
      simp only [opK] at hk
      split at hk
      · rename_i k u k' v hx hy
        rw [hx] at va
        rw [hy] at vb
        split at hk
        · rename_i e
          subst e
          have va : act.eval a = .int k u := va
          have vb : act.eval b = .int k v := vb
          refine plain_ok hs hf hn hd hdn hk (v := .int k (min u v)) (fun w2 _ => ?_) rfl hnext
          have hm : (if v < u then v else u) = min u v := by
            rw [Int.min_def]
            split <;> split <;> omega
          simp [execOp, ho, resolve, invoke, builtin, Builtin.min_, Builtin.min2, va, vb, hm]
        · cases hk
      · cases hk
    · cases h2
  · cases h2

end Go.Proofs.Ytnbfkndicldppaa.Core
