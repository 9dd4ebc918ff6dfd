/- Arithmetic and comparisons. -/
import Derived.Test.YtnbfkndicldppaaOp3
namespace Go.Proofs.Ytnbfkndicldppaa.Core
open Go

variable {P : Program}

def binB (n : Nat) (o : Oper) (d : Nat) (b : BinOp) (x y : Opd) : Bool :=
  dstB o n d && (match o.op with | .binOp b' _ x' y' _ => opdB x' x && opdB y' y && decide (b' = b) | _ => false)

theorem run_binop {act : Act} {w : World} {o : Oper} {b : BinOp} {t yt : TypeId} {x y : Operand} {v : Value} (ho : o.op = .binOp b t x y yt)
    (hg : eqGuard b t x y (act.eval x) (act.eval y) = pure ()) (h : (binOp b t (act.eval x) (act.eval y)).run P w = .ok v w) : (execOp act.eval o).run P w = .ok (.value v) w := by
  simp [execOp, ho, hg, h]

theorem binop_ok {ρ : Type} {b : BinOp} {x y : AV} {kn : AV → Option ρ} {r : ρ} (h : binop b x y kn = some r) {vx vy : Value} {H : HP} {φ : Phi} {st : List Box} (hx : VA H φ st x vx) (hy : VA H φ st y vy) (t : TypeId) :
    ∃ a v, kn a = some r ∧ VF H a v ∧ (∀ w, (binOp b t vx vy).run P w = .ok v w) ∧ ∀ ox oy, eqGuard b t ox oy vx vy = pure () := by
  unfold binop at h
  split at h
  · rename_i k a k' c
    have hx : vx = .int k a := hx
    have hy : vy = .int k' c := hy
    subst hx hy
    have hg : ∀ ox oy, eqGuard b t ox oy (.int k a) (.int k' c) = pure () := fun ox oy => eqGuard_at_int ..
    split at h
    · split at h
      · cases h
      · rename_i h0
        exact ⟨_, .int k (k.wrap (a * 2 ^ (min c.toNat k.bits))), h, rfl, by simp [binOp, Op.shift, h0], hg⟩
    · split at h
      · cases h
      · rename_i h0
        exact ⟨_, .int k (a.fdiv (2 ^ (min c.toNat k.bits))), h, rfl, by simp [binOp, Op.shift, h0], hg⟩
    · split at h
      · rename_i n1 n2 hk
        subst hk
        split at h
        · exact ⟨_, .int k (k.wrap (a + c)), h, rfl, by simp [binOp, Op.intArith], hg⟩
        · exact ⟨_, .int k (k.wrap (a - c)), h, rfl, by simp [binOp, Op.intArith], hg⟩
        · exact ⟨_, .int k (k.wrap (a * c)), h, rfl, by simp [binOp, Op.intArith], hg⟩
        · split at h
          · cases h
          · rename_i h0
            exact ⟨_, .int k (k.wrap (a.tdiv c)), h, rfl, by simp [binOp, Op.intDiv, h0], hg⟩
        · split at h
          · cases h
          · rename_i h0
            exact ⟨_, .int k (a.tmod c), h, rfl, by simp [binOp, Op.intDiv, h0], hg⟩
        · exact ⟨_, .int k (bitsAnd k a c), h, rfl, by simp [binOp, Op.intBits, bitsAnd], hg⟩
        · exact ⟨_, .int k (bitsOr k a c), h, rfl, by simp [binOp, Op.intBits, bitsOr], hg⟩
        · exact ⟨_, .int k (bitsXor k a c), h, rfl, by simp [binOp, Op.intBits, bitsXor], hg⟩
        · exact ⟨_, .bool (a == c), h, rfl, by simp [binOp, Op.intCmp], hg⟩
        · exact ⟨_, .bool (a != c), h, rfl, by simp [binOp, Op.intCmp], hg⟩
        · exact ⟨_, .bool (a < c), h, rfl, by simp [binOp, Op.intCmp], hg⟩
        · exact ⟨_, .bool (a ≤ c), h, rfl, by simp [binOp, Op.intCmp], hg⟩
        · exact ⟨_, .bool (a > c), h, rfl, by simp [binOp, Op.intCmp], hg⟩
        · exact ⟨_, .bool (a ≥ c), h, rfl, by simp [binOp, Op.intCmp], hg⟩
        · cases h
      · cases h
  · rename_i a c
    have hx : vx = .string a := hx
    have hy : vy = .string c := hy
    subst hx hy
    have hg : ∀ ox oy, eqGuard b t ox oy (.string a) (.string c) = pure () := fun ox oy => eqGuard_at_string ..
    split at h
    · split at h
      · rename_i hle
        refine ⟨_, .string (a ++ c), h, rfl, ?_, hg⟩
        have hmax : IntKind.i64.max = 9223372036854775807 := by decide
        have : ¬ (((a.size + c.size : Nat) : Int) > IntKind.i64.max) := by rw [hmax]; omega
        simp [binOp, Op.stringOp, hmax]
        omega
      · cases h
    · exact ⟨_, .bool (a.toList == c.toList), h, rfl, by simp [binOp, Op.stringOp], hg⟩
    · exact ⟨_, .bool (!(a.toList == c.toList)), h, rfl, by simp [binOp, Op.stringOp], hg⟩
    · exact ⟨_, .bool (Op.bytesLess a.toList c.toList), h, rfl, by simp [binOp, Op.stringOp], hg⟩
    · exact ⟨_, .bool (Op.bytesLess a.toList c.toList || a.toList == c.toList), h, rfl, by simp [binOp, Op.stringOp], hg⟩
    · exact ⟨_, .bool (!(Op.bytesLess a.toList c.toList || a.toList == c.toList)), h, rfl, by simp [binOp, Op.stringOp], hg⟩
    · exact ⟨_, .bool (!(Op.bytesLess a.toList c.toList)), h, rfl, by simp [binOp, Op.stringOp], hg⟩
    · cases h
  · cases h

theorem bin_ok {n : Nat} {o : Oper} {d : Nat} {b : BinOp} {x y : Opd} {cal : Cal} (h : binB n o d b x y = true) : OpOk P n o (.bin d b x y) cal := by
  intro ρ kn r s act w H φ next Q hs hf hn hk hnext
  simp only [binB, Bool.and_eq_true] at h
  obtain ⟨h1, h2⟩ := h
  obtain ⟨hd, hdn⟩ := dstB_ok h1
  split at h2
  · rename_i b' t x' y' yt ho
    simp only [Bool.and_eq_true, decide_eq_true_eq] at h2
    obtain ⟨⟨hx, hy⟩, rfl⟩ := h2
    simp only [opK] at hk
    obtain ⟨a, v, hk', hv, hrun, hg⟩ := binop_ok (P := P) hk (opd_ok hf hx) (opd_ok hf hy) t
    exact plain_ok hs hf hn hd hdn hk' (fun w2 _ => run_binop ho (hg _ _) (hrun w2)) (VA.of_VF hv) hnext
  · cases h2

def pairSz : Kd → Option Nat
  | .pair a b => some (Kd.pair a b).sz
  | _ => none

mutual
def eqTy (P : Program) : Nat → TypeId → Kd → Bool
  | 0, _, _ => false
  | D + 1, t, K => match P.underlying t with
    | some (.int _) => (match K with | .int _ => true | _ => false)
    | some .bool => (match K with | .bool => true | _ => false)
    | some .string => (match K with | .str => true | _ => false)
    | some (.struct fs) => !P.stoodInHeld t && (match K with | .pair a b => eqFs P D fs.toList 0 (.pair a b) | _ => false)
    | _ => false
def eqFs (P : Program) : Nat → List Field → Nat → Kd → Bool
  | 0, _, _, _ => false
  | _, [], _, _ => false
  | D + 1, f :: fs, off, K => decide (f.name ≠ "_") && f.offset == off &&
    (if fs.isEmpty then partB P f.type (pairSz K) && eqTy P D f.type K
    else match K with
      | .pair a b => partB P f.type (pairSz a) && eqTy P D f.type a && eqFs P D fs (off + a.sz) b
      | _ => false)
end

def fitsV : Kd → Value → Prop
  | .pair _ _, v => ∃ arr, v = .agg arr
  | _, v => v.cells = #[v]

theorem part_rep {H : HP} {K : Kd} {x : K.T} {xs : Array Value} {off : Nat} {t : TypeId} (w : World) (h : Rep H K x ((xs.toList.drop off).take K.sz)) (ht : partB P t (pairSz K) = true) :
    ∃ v, (Go.part t xs off).run P w = .ok v w ∧ Rep H K x v.cells.toList ∧ fitsV K v := by
  have one : ∀ v, (xs.toList.drop off).take 1 = [v] → xs[off]? = some v := by
    intro v e
    have e1 : ((xs.toList.drop off).take 1)[0]? = some v := by rw [e]; rfl
    rw [List.getElem?_take] at e1
    simpa using e1
  cases K with
  | int k =>
    have hv := one (.int k x) h
    exact ⟨_, run_part_one ht hv, rfl, rfl⟩
  | bool =>
    have hv := one (.bool x) h
    exact ⟨_, run_part_one ht hv, rfl, rfl⟩
  | str =>
    have hv := one (.string x) h
    exact ⟨_, run_part_one ht hv, rfl, rfl⟩
  | slice e =>
    obtain ⟨v, hv, hr⟩ := h
    have hv := one v hv
    have hc : v.cells = #[v] := by obtain ⟨a, cap, e1, _⟩ := hr; subst e1; rfl
    exact ⟨v, run_part_one ht hv, ⟨v, by rw [hc], hr⟩, hc⟩
  | pair a b =>
    simp only [pairSz, partB, Bool.and_eq_true] at ht
    refine ⟨_, run_part_agg ht.2 ht.1, ?_, ⟨_, rfl⟩⟩
    simpa [Value.cells, List.extract] using h
  | own t e => exact h.elim
  | ref K => exact h.elim
  | «fun» f =>
    have hv := one _ h
    exact ⟨_, run_part_one ht hv, rfl, rfl⟩
  | clo f K =>
    obtain ⟨v, hv, hr⟩ := h
    have hv := one v hv
    have hc : v.cells = #[v] := by obtain ⟨b, o, c, el, fz, e1, _⟩ := hr; subst e1; rfl
    exact ⟨v, run_part_one ht hv, ⟨v, by rw [hc], hr⟩, hc⟩

mutual
theorem eqTy_ok {H : HP} (w : World) : ∀ (D d : Nat) (t : TypeId) (K : Kd) (x y : K.T) (v u : Value), eqTy P D t K = true → D ≤ d → Rep H K x v.cells.toList → Rep H K y u.cells.toList → fitsV K v → fitsV K u →
    (Op.equalIn d t v u).run P w = .ok (eqK K x y) w
  | 0, _, _, _, _, _, _, _, h, _, _, _, _, _ => by simp [eqTy] at h
  | D + 1, 0, _, _, _, _, _, _, _, h, _, _, _, _ => by omega
  | D + 1, d + 1, t, K, x, y, v, u, h, hd, hx, hy, fx, fy => by
    unfold eqTy at h
    split at h
    · rename_i k hu
      cases K <;> first | cases h | skip
      rename_i k'
      simp only [fitsV] at fx fy
      simp only [fx, fy, Rep] at hx hy
      simp only [List.cons.injEq, and_true] at hx hy
      subst hx hy
      exact run_equalIn_int w d t k' k x y hu
    · rename_i hu
      cases K <;> first | cases h | skip
      simp only [fitsV] at fx fy
      simp only [fx, fy, Rep] at hx hy
      simp only [List.cons.injEq, and_true] at hx hy
      subst hx hy
      exact run_equalIn_bool w d t x y hu
    · rename_i hu
      cases K <;> first | cases h | skip
      simp only [fitsV] at fx fy
      simp only [fx, fy, Rep] at hx hy
      simp only [List.cons.injEq, and_true] at hx hy
      subst hx hy
      exact run_equalIn_string w d t x y hu
    · rename_i fs hu
      simp only [Bool.and_eq_true, Bool.not_eq_true'] at h
      obtain ⟨h0, h⟩ := h
      cases K with
      | pair a b =>
        obtain ⟨xs, rfl⟩ := fx
        obtain ⟨ys, rfl⟩ := fy
        have hfo : P.fieldsOf t = fs := by simp [Program.fieldsOf, hu]
        rw [run_equalIn_struct w d t xs ys (by rw [hfo]; exact hu) h0, hfo]
        refine eqFs_ok (H := H) w D d fs.toList 0 (.pair a b) x y xs ys h (by omega) ?_ ?_
        · have := hx.length
          simp only [Value.cells] at hx this
          simp only [List.drop_zero]
          rw [List.take_of_length_le (by omega)]
          exact hx
        · have := hy.length
          simp only [Value.cells] at hy this
          simp only [List.drop_zero]
          rw [List.take_of_length_le (by omega)]
          exact hy
      | _ => cases h
    · cases h
theorem eqFs_ok {H : HP} (w : World) : ∀ (D d : Nat) (fs : List Field) (off : Nat) (K : Kd) (x y : K.T) (xs ys : Array Value), eqFs P D fs off K = true → D ≤ d →
    Rep H K x ((xs.toList.drop off).take K.sz) → Rep H K y ((ys.toList.drop off).take K.sz) → (Op.eqFields d xs ys fs).run P w = .ok (eqK K x y) w
  | 0, _, _, _, _, _, _, _, _, h, _, _, _ => by simp [eqFs] at h
  | D + 1, _, [], _, _, _, _, _, _, h, _, _, _ => by simp [eqFs] at h
  | D + 1, d, f :: fs, off, K, x, y, xs, ys, h, hd, hx, hy => by
    unfold eqFs at h
    simp only [Bool.and_eq_true, decide_eq_true_eq, beq_iff_eq] at h
    obtain ⟨⟨hnm, hoff⟩, h⟩ := h
    subst hoff
    split at h
    · rename_i he
      have he : fs = [] := by simpa using he
      subst he
      simp only [Bool.and_eq_true] at h
      obtain ⟨v, r1, r2, r3⟩ := part_rep w hx h.1
      obtain ⟨u, s1, s2, s3⟩ := part_rep w hy h.1
      have hq := eqTy_ok w D d f.type K x y v u h.2 (by omega) r2 s2 r3 s3
      simp only [Op.eqFields, if_pos hnm, Sem.run_bind, r1, s1, hq, Result.andThen_ok]
      cases eqK K x y <;> simp
    · cases K with
      | pair a b =>
        simp only [Bool.and_eq_true] at h
        obtain ⟨⟨h1, h2⟩, h3⟩ := h
        have cut : ∀ {z : (Kd.pair a b).T} {zs : Array Value}, Rep H (.pair a b) z ((zs.toList.drop f.offset).take (Kd.pair a b).sz) →
            Rep H a z.1 ((zs.toList.drop f.offset).take a.sz) ∧ Rep H b z.2 ((zs.toList.drop (f.offset + a.sz)).take b.sz) := by
          intro z zs hz
          obtain ⟨c1, c2, e, g1, g2⟩ := hz
          have l1 := g1.length
          have l2 := g2.length
          have e1 : (zs.toList.drop f.offset).take a.sz = c1 := by
            have h1 := congrArg (List.take a.sz) e
            rw [List.take_take, show min a.sz (Kd.pair a b).sz = a.sz by simp [Kd.sz]] at h1
            rw [h1, ← l1]
            simp
          have e2 : (zs.toList.drop (f.offset + a.sz)).take b.sz = c2 := by
            have h1 := congrArg (List.drop a.sz) e
            rw [List.drop_take, List.drop_drop, show (Kd.pair a b).sz - a.sz = b.sz by simp [Kd.sz]] at h1
            rw [h1, ← l1]
            simp
          exact ⟨by rw [e1]; exact g1, by rw [e2]; exact g2⟩
        obtain ⟨hx1, hx2⟩ := cut hx
        obtain ⟨hy1, hy2⟩ := cut hy
        obtain ⟨v, r1, r2, r3⟩ := part_rep w hx1 h1
        obtain ⟨u, s1, s2, s3⟩ := part_rep w hy1 h1
        have hq := eqTy_ok w D d f.type a x.1 y.1 v u h2 (by omega) r2 s2 r3 s3
        simp only [Op.eqFields, if_pos hnm, Sem.run_bind, r1, s1, hq, Result.andThen_ok, eqK]
        cases eqK a x.1 y.1 with
        | false => simp
        | true =>
          simp only [Bool.not_true, Bool.false_eq_true, if_false, Bool.true_and]
          exact eqFs_ok w D d fs _ b x.2 y.2 xs ys h3 (by omega) hx2 hy2
      | _ => cases h
end

def AV.closed (a : AV) : Bool := a.solid || a.isNew
theorem VC.closed {H : HP} {φ : Phi} {st : List Box} {a : AV} {v : Value} (hs : a.closed = true) (h : VC H φ st a v) : VF H a v := by
  cases a <;> first | exact h | cases hs
theorem VCs.closed {H : HP} {φ : Phi} {st : List Box} {as : List AV} {vs : List Value} (hs : as.all AV.closed = true) (h : All2 (VC H φ st) as vs) : VFs H as vs :=
  VFs_iff.2 (h.impM fun a ha _ g => VC.closed (List.all_eq_true.1 hs a ha) g)
theorem dec_solid : ∀ (K : Kd) {as : List AV} {x : K.T} {r : List AV}, K.dec as = some (x, r) → ∃ c, as = c ++ r ∧ c.all AV.closed = true := by
  intro K
  induction K with
  | int k =>
    intro as x r hd
    cases as with
    | nil => simp [Kd.dec] at hd
    | cons a as =>
      cases a <;> simp [Kd.dec] at hd
      obtain ⟨rfl, rfl, rfl⟩ := hd
      exact ⟨[_], rfl, rfl⟩
  | bool =>
    intro as x r hd
    cases as with
    | nil => simp [Kd.dec] at hd
    | cons a as =>
      cases a <;> simp [Kd.dec] at hd
      obtain ⟨rfl, rfl⟩ := hd
      exact ⟨[_], rfl, rfl⟩
  | str =>
    intro as x r hd
    cases as with
    | nil => simp [Kd.dec] at hd
    | cons a as =>
      cases a <;> simp [Kd.dec] at hd
      obtain ⟨rfl, rfl⟩ := hd
      exact ⟨[_], rfl, rfl⟩
  | slice e ih =>
    intro as x r hd
    cases as with
    | nil => simp [Kd.dec] at hd
    | cons a as =>
      cases a with
      | nil =>
        simp only [Kd.dec, Option.some.injEq, Prod.mk.injEq] at hd
        obtain ⟨rfl, rfl⟩ := hd
        exact ⟨[_], rfl, rfl⟩
      | lst K xs =>
        simp only [Kd.dec] at hd
        split at hd
        · rename_i hk
          subst hk
          simp only [Option.some.injEq, Prod.mk.injEq] at hd
          obtain ⟨rfl, rfl⟩ := hd
          exact ⟨[_], rfl, rfl⟩
        · cases hd
      | _ => simp [Kd.dec] at hd
  | pair a b iha ihb =>
    intro as x r hd
    simp only [Kd.dec] at hd
    cases hx : a.dec as with
    | none => simp [hx] at hd
    | some xa =>
      obtain ⟨xa, ra⟩ := xa
      simp only [hx, Option.bind_some] at hd
      cases hy : b.dec ra with
      | none => simp [hy] at hd
      | some yb =>
        obtain ⟨yb, rb⟩ := yb
        simp only [hy, Option.bind_some, Option.some.injEq, Prod.mk.injEq] at hd
        obtain ⟨rfl, rfl⟩ := hd
        obtain ⟨c1, e1, h1⟩ := iha hx
        obtain ⟨c2, e2, h2⟩ := ihb hy
        exact ⟨c1 ++ c2, by rw [e1, e2, List.append_assoc], by simp only [List.all_append, h1, h2, Bool.and_self]⟩
  | own t e ih =>
    intro as x r hd
    cases as with
    | nil => simp [Kd.dec] at hd
    | cons a as =>
      cases a with
      | new t' e' xs =>
        simp only [Kd.dec] at hd
        split at hd
        · split at hd
          · rename_i hk
            subst hk
            cases hd
            exact ⟨[_], rfl, rfl⟩
          · cases hd
        · cases hd
      | _ => simp [Kd.dec] at hd
  | ref K ih =>
    intro as x r hd
    cases as with
    | nil => simp [Kd.dec] at hd
    | cons a as =>
      cases a with
      | ref cs =>
        simp only [Kd.dec] at hd
        cases h1 : K.dec cs with
        | none => rw [h1] at hd; cases hd
        | some p =>
          rw [h1] at hd
          simp only [Option.bind_some] at hd
          split at hd
          · cases hd
            exact ⟨[_], rfl, rfl⟩
          · cases hd
      | _ => simp [Kd.dec] at hd
  | «fun» f =>
    intro as x r hd
    cases as with
    | nil => simp [Kd.dec] at hd
    | cons a as =>
      cases a with
      | fn f' caps =>
        cases caps with
        | nil =>
          simp only [Kd.dec] at hd
          split at hd
          · cases hd
            exact ⟨[_], rfl, rfl⟩
          · cases hd
        | cons _ _ => simp [Kd.dec] at hd
      | _ => simp [Kd.dec] at hd
  | clo f K ih =>
    intro as x r hd
    cases as with
    | nil => simp [Kd.dec] at hd
    | cons a as =>
      cases a with
      | clo f' K' y =>
        simp only [Kd.dec] at hd
        split at hd
        · split at hd
          · rename_i hk
            subst hk
            cases hd
            exact ⟨[_], rfl, rfl⟩
          · cases hd
        · cases hd
      | _ => simp [Kd.dec] at hd

theorem ofCells_dec {K : Kd} {cs : List AV} {x : K.T} (h : K.ofCells cs = some x) : K.dec cs = some (x, []) := by
  unfold Kd.ofCells at h
  cases hd : K.dec cs with
  | none => rw [hd] at h; cases h
  | some y =>
    obtain ⟨y, r⟩ := y
    rw [hd] at h
    simp only [Option.bind_some] at h
    cases r with
    | nil => simpa using h
    | cons _ _ => cases h

theorem of_dec {K : Kd} {a : AV} {x : K.T} (h : K.of a = some x) : K.dec a.cells = some (x, []) ∧ AV.fits K a = true := by
  unfold Kd.of at h
  split at h
  · rename_i hf
    exact ⟨ofCells_dec h, hf⟩
  · cases h

theorem cells_one {H : HP} {φ : Phi} {st : List Box} {a : AV} {v : Value} (h : VC H φ st a v) : a.cells = [a] := by
  cases a <;> first | rfl | exact h.elim

theorem Rep.vcells {H : HP} {K : Kd} {x : K.T} {v : Value} (h : Rep H K x [v]) : v.cells = #[v] := by
  cases K with
  | int k => cases h; rfl
  | bool => cases h; rfl
  | str => cases h; rfl
  | slice e => obtain ⟨u, e1, a, cap, e2, _⟩ := h; cases e1; subst e2; rfl
  | own t e => exact h.elim
  | ref K => exact h.elim
  | «fun» f => cases h; rfl
  | clo f K => obtain ⟨u, e1, b, o, c, el, fz, e2, _⟩ := h; cases e1; subst e2; rfl
  | pair a b => have := h.length; have h1 := Kd.sz_pos a; have h2 := Kd.sz_pos b; simp [Kd.sz] at this; omega

theorem of_rep {H : HP} {K : Kd} {a : AV} {v : Value} {x : K.T} {φ : Phi} {st : List Box} (hv : VA H φ st a v) (h : K.of a = some x) :
    Rep H K x v.cells.toList ∧ fitsV K v := by
  obtain ⟨hd, hf⟩ := of_dec h
  obtain ⟨c, e, hs⟩ := dec_solid K hd
  rw [List.append_nil] at e
  rcases hv.cases with ⟨cs, arr, rfl, rfl, hc⟩ | ⟨vs, arr, rfl, _, _⟩ | hc
  · simp only [AV.cells] at hd e
    subst e
    obtain ⟨c1, c2, e1, e2, e3⟩ := rep_of_dec K (VCs.closed hs hc) hd
    cases e3
    simp only [List.append_nil] at e1
    refine ⟨by simp only [Value.cells]; rw [e1]; exact e2, ?_⟩
    cases K with
    | pair a b => exact ⟨_, rfl⟩
    | _ => cases hf
  · simp only [AV.cells] at e
    subst e
    cases hs
  · rw [cells_one hc] at hd e
    subst e
    have hs : a.closed = true := by simpa using hs
    obtain ⟨c1, c2, e1, e2, e3⟩ := rep_of_dec K (as := [a]) (vs := [v]) ⟨v, [], rfl, VC.closed hs hc, rfl⟩ hd
    cases e3
    rw [List.append_nil] at e1
    subst e1
    have hcell := e2.vcells
    refine ⟨by rw [hcell]; exact e2, ?_⟩
    cases K with
    | pair _ _ => cases a <;> first | cases hf | skip
                  all_goals cases hs
    | _ => exact hcell

def eqsB (P : Program) (n : Nat) (o : Oper) (d : Nat) (neg : Bool) (K : Kd) (x y : Opd) : Bool :=
  dstB o n d && (match o.op with
    | .binOp b t x' y' _ => opdB x' x && opdB y' y && eqTy P 40 t K && (match b with | .eql => !neg | .neq => neg | _ => false) &&
      (match K with | .bool => true | .pair _ _ => !P.eqGuardType P.depth t | _ => false)
    | _ => false)

theorem eqs_ok {n : Nat} {o : Oper} {d : Nat} {neg : Bool} {K : Kd} {x y : Opd} {cal : Cal} (h : eqsB P n o d neg K x y = true) : OpOk P n o (.eqs d neg K x y) cal := by
  intro ρ kn r s act w H φ next Q hs hf hn hk hnext
  simp only [eqsB, Bool.and_eq_true] at h
  obtain ⟨h1, h2⟩ := h
  obtain ⟨hd, hdn⟩ := dstB_ok h1
  split at h2
  · rename_i b t x' y' yt ho
    simp only [Bool.and_eq_true] at h2
    obtain ⟨⟨⟨⟨hx, hy⟩, ht⟩, hb⟩, hg⟩ := h2
    simp only [opK] at hk
    · cases hxa : K.of (s.opd x) with
      | none => rw [hxa] at hk; cases hk
      | some xa =>
        cases hya : K.of (s.opd y) with
        | none => rw [hxa, hya] at hk; cases hk
        | some ya =>
          rw [hxa, hya] at hk
          simp only [Option.bind_some] at hk
          obtain ⟨rx, fx⟩ := of_rep (opd_ok hf hx) hxa
          obtain ⟨ry, fy⟩ := of_rep (opd_ok hf hy) hya
          have key : ∀ w : World, (execOp act.eval o).run P w = .ok (.value (.bool (neg != eqK K xa ya))) w := by
            intro w
            have hq := eqTy_ok (P := P) w 40 10000 t K xa ya _ _ ht (by omega) rx ry fx fy
            have hguard : (eqGuard b t x' y' (act.eval x') (act.eval y')).run P w = .ok () w := by
              cases K with
              | bool =>
                simp only [fitsV] at fx
                have rx := rx
                simp only [fx, Rep, List.cons.injEq, and_true] at rx
                rw [rx, eqGuard_at_bool]
                rfl
              | pair a c =>
                obtain ⟨xs, ex⟩ := fx
                obtain ⟨ys, ey⟩ := fy
                rw [ex, ey]
                exact run_eqGuard_agg w b t x' y' xs ys (by simpa using hg)
              | _ => cases hg
            have hrun : (binOp b t (act.eval x') (act.eval y')).run P w = .ok (.bool (neg != eqK K xa ya)) w := by
              have hk2 : ∀ {vx vy : Value}, (vx.cells = #[vx] → ∃ c, vx = .bool c) → (vy.cells = #[vy] → ∃ c, vy = .bool c) → (Op.equalIn 10000 t vx vy).run P w = .ok (eqK K xa ya) w →
                  (binOp b t vx vy).run P w = .ok (.bool (neg != eqK K xa ya)) w := by
                intro vx vy hvx hvy he
                have cx : (∃ c, vx = .bool c) ∨ ∃ c, vx = .agg c := by
                  cases vx <;> first | exact .inl (hvx rfl) | exact .inr ⟨_, rfl⟩
                have cy : (∃ c, vy = .bool c) ∨ ∃ c, vy = .agg c := by
                  cases vy <;> first | exact .inl (hvy rfl) | exact .inr ⟨_, rfl⟩
                have e1 : b = .eql → (binOp b t vx vy).run P w = .ok (.bool (eqK K xa ya)) w := by
                  intro e; subst e
                  rcases cx with ⟨c, rfl⟩ | ⟨c, rfl⟩ <;> rcases cy with ⟨c', rfl⟩ | ⟨c', rfl⟩ <;> simp [binOp, Op.equal, Op.maxDepth, he]
                have e2 : b = .neq → (binOp b t vx vy).run P w = .ok (.bool (!eqK K xa ya)) w := by
                  intro e; subst e
                  rcases cx with ⟨c, rfl⟩ | ⟨c, rfl⟩ <;> rcases cy with ⟨c', rfl⟩ | ⟨c', rfl⟩ <;> simp [binOp, Op.equal, Op.maxDepth, he]
                cases b <;> first | cases hb | skip
                · have : neg = false := by simpa using hb
                  subst this
                  rw [e1 rfl]
                  simp
                · rw [e2 rfl]
                  simp
              refine hk2 ?_ ?_ hq
              · intro hc
                cases K with
                | bool => simp only [hc, Rep, List.cons.injEq, and_true] at rx; exact ⟨_, rx⟩
                | pair a c => obtain ⟨xs, ex⟩ := fx; rw [ex] at hc; exact absurd hc (by
                    intro h
                    have hsz := rx.length
                    rw [ex] at hsz
                    have h2 := congrArg Array.size h
                    have p1 := Kd.sz_pos a
                    have p2 := Kd.sz_pos c
                    simp [Value.cells, Kd.sz] at hsz h2
                    omega)
                | _ => cases hg
              · intro hc
                cases K with
                | bool => simp only [hc, Rep, List.cons.injEq, and_true] at ry; exact ⟨_, ry⟩
                | pair a c => obtain ⟨xs, ex⟩ := fy; rw [ex] at hc; exact absurd hc (by
                    intro h
                    have hsz := ry.length
                    rw [ex] at hsz
                    have h2 := congrArg Array.size h
                    have p1 := Kd.sz_pos a
                    have p2 := Kd.sz_pos c
                    simp [Value.cells, Kd.sz] at hsz h2
                    omega)
                | _ => cases hg
            simp only [execOp, ho, Sem.run_bind, hguard, hrun, Result.andThen_ok, Sem.run_pure]
          exact plain_ok hs hf hn hd hdn hk (v := .bool (neg != eqK K xa ya)) (fun w2 _ => key w2) rfl hnext
  · cases h2

end Go.Proofs.Ytnbfkndicldppaa.Core
