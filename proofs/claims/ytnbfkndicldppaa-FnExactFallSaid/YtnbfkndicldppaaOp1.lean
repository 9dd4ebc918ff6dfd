/- Operands, and what an operation comes to: the frame of the proofs. -/
import Derived.Test.YtnbfkndicldppaaNew
namespace Go.Proofs.Ytnbfkndicldppaa.Core
open Go

variable {H : HP} {φ : Phi} {w : World} {P : Program}

def constB : Value → AV → Bool
  | .int k n, .int k' n' => decide (k = k') && decide (n = n')
  | .bool b, .bool b' => b == b'
  | .string s, .str s' => decide (s = s')
  | .slice none 0 0, .nil => true
  | .slice none 0 0, .lst _ xs => xs.isEmpty
  | _, _ => false

theorem constB_ok {v : Value} {a : AV} (h : constB v a = true) : VF H a v := by
  unfold constB at h
  split at h
  · simp only [Bool.and_eq_true, decide_eq_true_eq] at h
    obtain ⟨rfl, rfl⟩ := h
    rfl
  · simp only [beq_iff_eq] at h
    subst h
    rfl
  · simp only [decide_eq_true_eq] at h
    subst h
    rfl
  · rfl
  · rw [List.isEmpty_iff] at h
    subst h
    exact reps_nil
  · cases h

def opdB : Operand → Opd → Bool
  | .tmp t, .t n => t == n
  | .const _, .c .undef => true
  | .const v, .c a => constB v a
  | .func f, .c (.fn g caps) => f == g && caps.isEmpty
  | _, _ => false

theorem opd_ok {s : St} {act : Act} {x : Operand} {y : Opd} (hf : FrR H φ s.st s.fr act.tmps) (h : opdB x y = true) : VA H φ s.st (s.opd y) (act.eval x) := by
  unfold opdB at h
  split at h
  · simp only [beq_iff_eq] at h
    subst h
    exact hf _
  · trivial
  · exact VA.of_VF (constB_ok h)
  · simp only [Bool.and_eq_true, beq_iff_eq, List.isEmpty_iff] at h
    obtain ⟨rfl, rfl⟩ := h
    exact ⟨rfl, rfl⟩
  · cases h

/-- All live boxes but these are as they were. -/
def Mem (W : List Nat) (φ : Phi) (st : List Box) (w w' : World) : Prop :=
  ∀ (i : Nat) (bx : Box), st[i]? = some bx → bx.live = true → i ∉ W → ∀ b, blk (φ i) = some b → w'.heap[b]? = w.heap[b]?
theorem Mem.refl (W : List Nat) (φ : Phi) (st : List Box) (w : World) : Mem W φ st w w := fun _ _ _ _ _ _ _ => rfl
theorem Mem.grown {W : List Nat} {st : List Box} {w w' : World} (hs : SR H φ st w) (hg : w.grownBy w' none) : Mem W φ st w w' :=
  fun i bx hi hl _ b hb => hg.block b ((hs.box i bx hi).blk_lt hl hb) (by simp)

/-- What an operation reads is as it was. -/
def ReadsSame (o : Oper) (act : Act) (w w2 : World) : Prop := match o.op with
  | .load _ y => ∀ b, blk (act.eval y) = some b → w2.heap[b]? = w.heap[b]?
  | _ => True
theorem ReadsSame.refl (o : Oper) (act : Act) (w : World) : ReadsSame o act w w := by
  unfold ReadsSame
  split
  · exact fun _ _ => rfl
  · trivial

structure Extra (P : Program) (o : Oper) (ao : AOp) (s : St) (act : Act) (φ : Phi) (w w' : World) (v : Value) : Prop where
  mem : Mem (ao.touch s) φ s.st w w'
  val : ao.isVal = true → w' = w ∧ ∀ w2, ReadsSame o act w w2 → (execOp act.eval o).run P w2 = .ok (.value v) w2

/-- What is asked of one operation: whatever it comes to, the relation goes on. -/
def OpOk (P : Program) (n : Nat) (o : Oper) (ao : AOp) (cal : Cal) : Prop :=
  ∀ (ρ : Type) (kn : St → Option ρ) (r : ρ) (s : St) (act : Act) (w : World) (H : HP) (φ : Phi) (next : Act → World → Prop) (Q : Exit → Act → World → Prop),
    SR H φ s.st w → FrR H φ s.st s.fr act.tmps → act.tmps.size = n → opK cal kn s ao = some r →
    (∀ s' v w' H' φ', kn s' = some r → Step H φ s.st w H' φ' s'.st w' → FrR H' φ' s'.st s'.fr (act.put o.dst v).tmps → Extra P o ao s act φ w w' v → next (act.put o.dst v) w') →
    o.wp P act w next Q

/-- The commonest way: the operation yields a value and leaves memory and store alone. -/
theorem wp_value {o : Oper} {act : Act} {w : World} {next : Act → World → Prop} {Q : Exit → Act → World → Prop} {v : Value} {w' : World}
    (hrun : (execOp act.eval o).run P w = .ok (.value v) w') (h : next (act.put o.dst v) w') : o.wp P act w next Q := by
  unfold Oper.wp
  rw [hrun]
  exact h

theorem put_tmps {act : Act} {dst : Option Tmp} {d : Nat} (hd : dst = some d) (v : Value) : (act.put dst v).tmps = act.tmps.setIfInBounds d v := by
  subst hd; rfl

theorem plain_ok {o : Oper} {ao : AOp} {n d : Nat} {s : St} {act : Act} {a : AV} {v : Value} {next : Act → World → Prop} {Q : Exit → Act → World → Prop} {ρ : Type} {kn : St → Option ρ} {r : ρ}
    (hs : SR H φ s.st w) (hf : FrR H φ s.st s.fr act.tmps) (hn : act.tmps.size = n) (hd : o.dst = some d) (hdn : d < n) (hk : kn (s.put d a) = some r)
    (hrun : ∀ w2, ReadsSame o act w w2 → (execOp act.eval o).run P w2 = .ok (.value v) w2) (hv : VA H φ s.st a v)
    (hnext : ∀ s' v w' H' φ', kn s' = some r → Step H φ s.st w H' φ' s'.st w' → FrR H' φ' s'.st s'.fr (act.put o.dst v).tmps → Extra P o ao s act φ w w' v → next (act.put o.dst v) w') : o.wp P act w next Q :=
  wp_value (hrun w (ReadsSame.refl o act w)) (hnext (s.put d a) v w H φ hk (Step.refl hs) (by rw [put_tmps hd]; exact hf.put (by omega) hv) ⟨Mem.refl _ _ _ _, fun _ => ⟨rfl, hrun⟩⟩)

def dstB (o : Oper) (n d : Nat) : Bool := o.dst == some d && decide (d < n)
theorem dstB_ok {o : Oper} {n d : Nat} (h : dstB o n d = true) : o.dst = some d ∧ d < n := by simpa [dstB] using h

def mvB (n : Nat) (o : Oper) (d : Nat) (x : Opd) : Bool :=
  dstB o n d && (match o.op with | .move y => opdB y x | .assign y => opdB y x | _ => false)
theorem mv_ok {n : Nat} {o : Oper} {d : Nat} {x : Opd} {cal : Cal} (h : mvB n o d x = true) : OpOk P n o (.mv d x) cal := by
  intro ρ kn r s act w H φ next Q hs hf hn hk hnext
  simp only [mvB, Bool.and_eq_true] at h
  obtain ⟨h1, h2⟩ := h
  obtain ⟨hd, hdn⟩ := dstB_ok h1
  simp only [opK] at hk
  split at h2
  · rename_i y ho
    exact plain_ok hs hf hn hd hdn hk (v := act.eval y) (fun _ _ => by simp [execOp, ho]) (opd_ok hf h2) hnext
  · rename_i y ho
    exact plain_ok hs hf hn hd hdn hk (v := act.eval y) (fun _ _ => by simp [execOp, ho]) (opd_ok hf h2) hnext
  · cases h2

def pickB (n : Nat) (o : Oper) (d : Nat) (c a b : Opd) : Bool :=
  dstB o n d && (match o.op with | .pick c' a' b' => opdB c' c && opdB a' a && opdB b' b | _ => false)

theorem VA.bool {a : AV} {st : List Box} {v : Value} {b : Bool} (h : VA H φ st a v) (e : a = .bool b) : v = .bool b := by subst e; exact h
theorem VA.int {a : AV} {st : List Box} {v : Value} {k : IntKind} {n : Int} (h : VA H φ st a v) (e : a = .int k n) : v = .int k n := by subst e; exact h
theorem VA.str {a : AV} {st : List Box} {v : Value} {b : ByteArray} (h : VA H φ st a v) (e : a = .str b) : v = .string b := by subst e; exact h

theorem pick_ok {n : Nat} {o : Oper} {d : Nat} {c a b : Opd} {cal : Cal} (h : pickB n o d c a b = true) : OpOk P n o (.pick d c a b) cal := by
  intro ρ kn r s act w H φ next Q hs hf hn hk hnext
  simp only [pickB, Bool.and_eq_true] at h
  obtain ⟨h1, h2⟩ := h
  obtain ⟨hd, hdn⟩ := dstB_ok h1
  split at h2
  · rename_i c' a' b' ho
    simp only [Bool.and_eq_true] at h2
    obtain ⟨⟨hc, ha⟩, hb⟩ := h2
    simp only [opK] at hk
    cases hcv : s.opd c with
    | bool t =>
      rw [hcv] at hk
      simp only at hk
      have hc' := (opd_ok hf hc).bool hcv
      cases t with
      | true => exact plain_ok hs hf hn hd hdn (by simpa using hk) (v := act.eval a') (fun _ _ => by simp [execOp, ho, hc', asBool]) (opd_ok hf ha) hnext
      | false => exact plain_ok hs hf hn hd hdn (by simpa using hk) (v := act.eval b') (fun _ _ => by simp [execOp, ho, hc', asBool]) (opd_ok hf hb) hnext
    | _ => rw [hcv] at hk; cases hk
  · cases h2

end Go.Proofs.Ytnbfkndicldppaa.Core
