/- What comes in reads as numbers, strings and lists; a law that answers true for these is called with that answer. -/
import Derived.Test.YtnbfkndicldppaaBody
import Derived.ChangeArms
import Derived.Below
namespace Go.Proofs.Ytnbfkndicldppaa.Core
open Go

/-- What data that come in are known to be. -/
def Kd.ok : (K : Kd) → K.T → Prop
  | .int k, n => k.min ≤ n ∧ n ≤ k.max
  | .bool, _ => True
  | .str, s => s.size ≤ maxLen
  | .slice e, xs => xs.length ≤ maxLen ∧ ∀ x ∈ xs, Kd.ok e x
  | .pair a b, x => a.ok x.1 ∧ b.ok x.2
  | .own _ _, _ => False
  | .ref _, _ => False
  | .fun _, _ => False
  | .clo _ _, _ => False

mutual
def typeB (P : Program) : Nat → TypeId → Kd → Bool
  | 0, _, _ => false
  | D + 1, t, K => match P.underlying t with
    | some (.int k) => (match K with | .int k' => decide (k = k') | _ => false)
    | some .bool => (match K with | .bool => true | _ => false)
    | some .string => (match K with | .str => true | _ => false)
    | some (.slice te) => (match K with | .slice e => P.cellsOf te == e.sz && typeB P D te e | _ => false)
    | some (.struct fs) => P.cellsOf t == K.sz && (match K with | .pair _ _ => true | _ => false) && fieldsB P D fs.toList 0 K
    | _ => false
def fieldsB (P : Program) : Nat → List Field → Nat → Kd → Bool
  | 0, _, _, _ => false
  | _ + 1, [], _, _ => false
  | D + 1, [f], off, K => f.offset == off && P.cellsOf f.type == K.sz && typeB P D f.type K
  | D + 1, f :: g :: fs, off, K => match K with
    | .pair a b => f.offset == off && P.cellsOf f.type == a.sz && typeB P D f.type a && fieldsB P D (g :: fs) (off + a.sz) b
    | _ => false
end

def whole (w : World) : HP := fun b => w.heap[b]?

theorem cells_some {w : World} {base : Nat} {a : Addr} {n : Nat} {cs : List Value} (h : w.cells? base a n = some cs) : cs.length = n ∧ ∀ i, i < n → w.cell? (a.add i) = cs[i]? := by
  unfold World.cells? at h
  split at h
  · exact ⟨by simpa using mapM_some_length h, fun i hi => mapM_some_get h i i (by simp [hi])⟩
  · cases h

theorem addr_add0 (a : Addr) : a.add 0 = a := by unfold Addr.add; split <;> simp_all
theorem cell_addr {w : World} {a : Addr} {u : Value} (h : w.cell? a = some u) : a = ⟨a.block, a.off, none⟩ ∧ ∃ c el fz, w.heap[a.block]? = some (.cells c el fz) ∧ c[a.off]? = some u := by
  obtain ⟨b, o, sp⟩ := a
  simp only [World.cell?] at h
  split at h
  · rename_i c el fz hc
    cases sp with
    | some sp => simp at h
    | none =>
      simp only [Option.isSome_none, Bool.false_eq_true, if_false] at h
      exact ⟨rfl, c, el, fz, hc, h⟩
  · cases h

mutual
theorem open_kd {H : Type} {enc : TypeId × Value → H} {P : Program} {w : World} {base : Nat} {spare : Nat → Bool} {held : Bool} : ∀ (D : Nat) (t : TypeId) (K : Kd) (fuel : Nat) (cs : List Value) (x : DataW H × List MemPlace), typeB P D t K = true →
    DataW.trod enc P w base spare held fuel t cs = some x → ∃ y : K.T, Rep (whole w) K y cs ∧ Kd.ok K y
  | 0, t, K, fuel, cs, x, h, _ => by simp [typeB] at h
  | D + 1, t, K, fuel, cs, x, h, hd => by
    unfold typeB at h
    split at h
    · rename_i k hu
      cases K <;> first | cases h | skip
      simp only [decide_eq_true_eq] at h
      subst h
      obtain ⟨n, rfl, _, hw⟩ := DataW.trod_int hu hd
      simp only [Lit.wf, Bool.and_eq_true, decide_eq_true_eq] at hw
      exact ⟨n, rfl, hw⟩
    · rename_i hu
      cases K <;> first | cases h | skip
      obtain ⟨b, rfl, _⟩ := DataW.trod_bool hu hd
      exact ⟨b, rfl, trivial⟩
    · rename_i hu
      cases K <;> first | cases h | skip
      obtain ⟨s, rfl, _, hs⟩ := DataW.trod_string hu hd
      exact ⟨s, rfl, hs⟩
    · rename_i te hu
      cases K <;> first | cases h | skip
      rename_i e
      simp only [Bool.and_eq_true, beq_iff_eq] at h
      rcases DataW.trod_slice hu hd with ⟨rfl, _⟩ | ⟨a, len, cap, elems, rest, n, _, rfl, _, _, hl, hm, hlen, hel, _⟩
      · exact ⟨[], ⟨_, rfl, reps_nil⟩, by simp [Kd.ok]⟩
      · have each : ∀ i, i < len → ∃ y : e.T, ∃ cs', w.cells? base (a.add (i * e.sz)) e.sz = some cs' ∧ Rep (whole w) e y cs' ∧ Kd.ok e y := by
          intro i hi
          have h1 := hel i hi
          rw [h.1] at h1
          have h2 : elems[i]? = some (elems[i]'(by omega)) := by simp
          rw [h2] at h1
          cases hq : w.cells? base (a.add (i * e.sz)) e.sz with
          | none => rw [hq] at h1; cases h1
          | some cs' =>
            rw [hq] at h1
            simp only [Option.bind_some] at h1
            obtain ⟨y, h3, h4⟩ := open_kd D te e n cs' _ h.2 h1
            exact ⟨y, cs', rfl, h3, h4⟩
        have all : ∀ m, m ≤ len → ∃ ys : List e.T, ys.length = m ∧ ∀ i y, ys[i]? = some y → ∃ cs', w.cells? base (a.add (i * e.sz)) e.sz = some cs' ∧ Rep (whole w) e y cs' ∧ Kd.ok e y := by
          intro m
          induction m with
          | zero => intro _; exact ⟨[], rfl, fun i y h => by simp at h⟩
          | succ m ih =>
            intro hm
            obtain ⟨ys, l, hy⟩ := ih (by omega)
            obtain ⟨y, cs', g1, g2, g3⟩ := each m (by omega)
            refine ⟨ys ++ [y], by simp [l], fun i z hz => ?_⟩
            rcases Nat.lt_or_ge i ys.length with hi | hi
            · rw [List.getElem?_append_left hi] at hz
              exact hy i z hz
            · rw [List.getElem?_append_right hi] at hz
              have hi0 : i - ys.length = 0 := by
                have := (List.getElem?_eq_some_iff.1 hz).1
                simp at this
                omega
              rw [hi0] at hz
              simp at hz
              subst hz
              have : i = m := by omega
              subst this
              exact ⟨cs', g1, g2, g3⟩
        obtain ⟨ys, l, hy⟩ := all len (Nat.le_refl _)
        have hok : ys.length ≤ maxLen ∧ ∀ y ∈ ys, Kd.ok e y := by
          refine ⟨by omega, fun y hm => ?_⟩
          obtain ⟨i, hi⟩ := List.mem_iff_getElem?.1 hm
          obtain ⟨_, _, _, g⟩ := hy i y hi
          exact g
        refine ⟨ys, ⟨_, rfl, some a, cap, by rw [l], by omega, ?_⟩, hok⟩
        cases hys : ys with
        | nil => exact .inl rfl
        | cons y0 yr =>
          right
          have hsz := Kd.sz_pos e
          obtain ⟨cs0, g1, g2, _⟩ := hy 0 y0 (by rw [hys]; rfl)
          obtain ⟨l0, c0⟩ := cells_some g1
          have hc0 := c0 0 hsz
          have hcs0 : cs0[0]? = some (cs0[0]'(by omega)) := by simp
          rw [hcs0, Nat.zero_mul, addr_add0, addr_add0] at hc0
          obtain ⟨ea, c, el, fz, hb, _⟩ := cell_addr hc0
          have addadd : ∀ x y : Nat, (a.add x).add y = ⟨a.block, a.off + (x + y), none⟩ := by
            intro x y
            rw [ea, Addr.add_none, Addr.add_none, Nat.add_assoc]
          refine ⟨a.block, a.off, c, el, fz, by rw [← ea], hb, fun j y hj => ?_⟩
          obtain ⟨cs', g3, g4, _⟩ := hy j y (by rw [hys]; exact hj)
          obtain ⟨l1, c1⟩ := cells_some g3
          refine ⟨cs', g4, l1, fun i u hu => ?_⟩
          have hi : i < e.sz := by rw [← l1]; exact (List.getElem?_eq_some_iff.1 hu).1
          have h3 := c1 i hi
          rw [hu, addadd] at h3
          obtain ⟨_, c2, el2, fz2, hb2, h4⟩ := cell_addr h3
          rw [hb] at hb2
          cases hb2
          rw [Nat.add_assoc]
          exact h4
    · rename_i fs hu
      simp only [Bool.and_eq_true, beq_iff_eq] at h
      obtain ⟨⟨hc, _⟩, h⟩ := h
      obtain ⟨xs, n, _, _, hl, _, hf⟩ := DataW.trod_struct hu hd
      have := open_fields (w := w) (P := P) D fs.toList 0 K n cs xs h (fun i f hi => hf i f (by simpa using hi)) (by
        have : xs.length = fs.size := by assumption
        simpa using this)
      obtain ⟨y, h1, h2⟩ := this
      refine ⟨y, ?_, h2⟩
      rw [hc] at hl
      rw [List.drop_zero, List.take_of_length_le (by omega)] at h1
      exact h1
    · cases h
theorem open_fields {H : Type} {enc : TypeId × Value → H} {P : Program} {w : World} {base : Nat} {spare : Nat → Bool} {held : Bool} : ∀ (D : Nat) (fs : List Field) (off : Nat) (K : Kd) (fuel : Nat) (cs : List Value) (xs : List (DataW H × List MemPlace)), fieldsB P D fs off K = true →
    (∀ (i : Nat) (f : Field), fs[i]? = some f → DataW.trod enc P w base spare held fuel f.type ((cs.drop f.offset).take (P.cellsOf f.type)) = xs[i]?) → xs.length = fs.length → ∃ y : K.T, Rep (whole w) K y ((cs.drop off).take K.sz) ∧ Kd.ok K y
  | 0, fs, off, K, fuel, cs, xs, h, _, _ => by simp [fieldsB] at h
  | D + 1, [], off, K, fuel, cs, xs, h, _, _ => by simp [fieldsB] at h
  | D + 1, [f], off, K, fuel, cs, xs, h, hf, hl => by
    simp only [fieldsB, Bool.and_eq_true, beq_iff_eq] at h
    obtain ⟨⟨rfl, hc⟩, ht⟩ := h
    have h1 := hf 0 f rfl
    rw [hc] at h1
    have h2 : xs[0]? = some (xs[0]'(by simp at hl; omega)) := by simp
    rw [h2] at h1
    exact open_kd D f.type K fuel _ _ ht h1
  | D + 1, f :: g :: fs, off, K, fuel, cs, xs, h, hf, hl => by
    simp only [fieldsB] at h
    cases K with
    | pair a b =>
      simp only [Bool.and_eq_true, beq_iff_eq] at h
      obtain ⟨⟨⟨rfl, hc⟩, ht⟩, hr⟩ := h
      have h1 := hf 0 f rfl
      rw [hc] at h1
      have h2 : xs[0]? = some (xs[0]'(by simp at hl; omega)) := by simp
      rw [h2] at h1
      obtain ⟨y1, r1, o1⟩ := open_kd D f.type a fuel _ _ ht h1
      obtain ⟨y2, r2, o2⟩ := open_fields (w := w) (P := P) D (g :: fs) (f.offset + a.sz) b fuel cs (xs.drop 1) hr (fun i q hi => by
        have := hf (i + 1) q (by simpa using hi)
        rw [this, List.getElem?_drop, Nat.add_comm]) (by simp at hl ⊢; omega)
      refine ⟨(y1, y2), ⟨_, _, ?_, r1, r2⟩, o1, o2⟩
      apply List.ext_getElem?
      intro i
      have l1 := r1.length
      have l2 := r2.length
      simp only [Kd.sz]
      rcases Nat.lt_or_ge i a.sz with hi | hi
      · rw [List.getElem?_append_left (by omega)]
        simp only [List.getElem?_take, List.getElem?_drop]
        rw [if_pos (by omega), if_pos hi]
      · rw [List.getElem?_append_right (by omega), l1]
        simp only [List.getElem?_take, List.getElem?_drop]
        by_cases h3 : i < a.sz + b.sz
        · rw [if_pos h3, if_pos (by omega)]
          congr 1
          omega
        · rw [if_neg h3, if_neg (by omega)]
    | _ => cases h
end

/-- A parameter's value is of its kind's form. -/
theorem open_arg {H : Type} {enc : TypeId × Value → H} {P : Program} {w : World} {base : Nat} {spare : Nat → Bool} {held : Bool} {t : TypeId} {K : Kd} {v : Value} {d : DataW H} {p : List MemPlace} (h : typeB P 40 t K = true) (hf : fitsV K v)
    (hd : DataW.Trod enc P w base spare held t v d p) : ∃ x : K.T, VE (whole w) (K.av x) v ∧ Kd.ok K x := by
  obtain ⟨fuel, hd⟩ := hd
  obtain ⟨x, h1, h2⟩ := open_kd 40 t K fuel _ _ h hd
  exact ⟨x, ve_av h1 hf, h2⟩

theorem fits_ok {P : Program} {W : World} {r : Reach} {base : Nat} {t : TypeId} {K : Kd} {v : Value} (h : typeB P 40 t K = true) (hv : Value.okWide P W r base t v) : fitsV K v := by
  unfold typeB at h
  split at h
  · rename_i k hu
    obtain ⟨n, rfl⟩ := WideShapes.okWide_int hu hv
    cases K <;> first | cases h | rfl
  · rename_i hu
    obtain ⟨n, rfl⟩ := WideShapes.okWide_bool hu hv
    cases K <;> first | rfl | cases h
  · rename_i hu
    obtain ⟨n, rfl⟩ := WideShapes.okWide_string hu hv
    cases K <;> first | rfl | cases h
  · rename_i te hu
    obtain ⟨a, l, c, rfl⟩ := WideShapes.okWide_slice hu hv
    cases K <;> first | cases h | rfl
  · rename_i fs hu
    obtain ⟨cs, rfl, _⟩ := WideShapes.okWide_struct hu hv
    simp only [Bool.and_eq_true] at h
    cases K <;> first | exact ⟨_, rfl⟩ | cases h.1.2
  · cases h

theorem sr_whole (w : World) (φ : Phi) : SR (whole w) φ [] w := by
  refine ⟨fun b o h => h, fun id bx h => by simp at h, fun i j bi bj h => by simp at h, fun i bi h => by simp at h, fun id cs h => by simp at h⟩

/-- A law that the interpreter answers true is called with that answer, and nothing that was there is touched. -/
theorem law_calls {P : Program} {fns : Nat → Option AFn} {prims : Cal} (ht : Tied P fns) (hp : CallOk P prims) {k f : Nat} {args : List AV} (h : callK fns prims k f args [] = some [.bool true]) {W : World} {cargs : List Value}
    (ha : All2 (VE (whole W)) args cargs) : Calls P f cargs.toArray W fun e W' => e = .returned (.bool true) ∧ RowKit.Below W.heap.size W W' := by
  obtain ⟨_, _, n, hn, hc⟩ := callK_ok ht hp k f args [] _ h
  have hn : n = 1 := by simpa using hn
  subst hn
  have opens : ∀ {as : List AV} {vs : List Value} (k : Nat), All2 (VE (whole W)) as vs → openVs k as = as ∧ openB (cellsOf as) = [] := by
    intro as
    induction as with
    | nil => intro vs k _; exact ⟨rfl, rfl⟩
    | cons a as ih =>
      intro vs k h
      obtain ⟨v, r, rfl, h1, h2⟩ := h
      obtain ⟨o1, o2, o3⟩ := h1.opens k
      obtain ⟨i1, i2⟩ := ih (k + newCount a.cells) h2
      refine ⟨by simp only [openVs, o1, i1], ?_⟩
      simp only [cellsOf, List.flatMap_cons] at i2 ⊢
      rw [openB_append, o3, i2]
      rfl
  have hst : exitSt [] args = [] := by
    rw [exitSt_eq, openB_append, (opens 0 ha).2]
    rfl
  have := hc (whole W) (fun _ => .nilIface) W cargs (by rw [hst]; exact sr_whole W _) (by rw [(opens _ ha).1, hst]; exact ha.imp fun _ _ h => VB.of_VE h)
  refine this.mono fun e W' he => ?_
  cases e with
  | returned v =>
    obtain ⟨H', φ', _, _, f, hr⟩ := he
    have hv : v = .bool true := hr
    subst hv
    rw [hst] at f
    exact ⟨rfl, f.os, f.tape, f.output, f.size, fun k hk => f.old k hk fun j hj => by simp at hj⟩
  | panicked c => exact he.elim
  | outgrown => exact he.elim

end Go.Proofs.Ytnbfkndicldppaa.Core
