/- Lengths, elements, slices of slices, bytes to strings, new rows. -/
import Derived.Test.YtnbfkndicldppaaOp4
import Derived.Laws.BytesArg
import Derived.Laws.Slices
import Derived.Laws.OwnMore
namespace Go.Proofs.Ytnbfkndicldppaa.Core
open Go

variable {P : Program}

def strTy (P : Program) (t : TypeId) : Bool := match P.underlying t with | some .string => true | _ => false
def sliceTy (P : Program) (t : TypeId) : Bool := match P.underlying t with | some (.slice _) => true | _ => false
theorem strTy_ok {t : TypeId} (h : strTy P t = true) : P.underlying t = some .string := by
  unfold strTy at h
  split at h
  · assumption
  · cases h
theorem sliceTy_ok {t : TypeId} (h : sliceTy P t = true) : P.underlying t = some (.slice (P.elem t)) := by
  unfold sliceTy at h
  split at h
  · rename_i e hu; simp [Program.elem, hu]
  · cases h

def lenB (P : Program) (n : Nat) (o : Oper) (d : Nat) (isStr : Bool) (x : Opd) : Bool :=
  dstB o n d && (match o.op with
    | .call ⟨.builtin .len, args, tys⟩ => (match args.toList, tys.toList with
      | [y], [t] => opdB y x && (if isStr then strTy P t else sliceTy P t)
      | _, _ => false)
    | _ => false)

theorem run_len_call {act : Act} {w : World} {o : Oper} {y : Operand} {t : TypeId} {v : Value} {args : Array Operand} {tys : Array TypeId} (ho : o.op = .call ⟨.builtin .len, args, tys⟩)
    (ha : args.toList = [y]) (ht : tys.toList = [t]) (h : (Builtin.len_ #[t] o.type #[act.eval y]).run P w = .ok v w) : (execOp act.eval o).run P w = .ok (.value v) w := by
  have ha : args = #[y] := by rw [← ha]
  have ht : tys = #[t] := by rw [← ht]
  subst ha ht
  simp [execOp, ho, resolve, invoke, builtin, h]

theorem len_ok {n : Nat} {o : Oper} {d : Nat} {isStr : Bool} {x : Opd} {cal : Cal} (h : lenB P n o d isStr x = true) : OpOk P n o (.len d isStr x) cal := by
  intro ρ kn r s act w H φ next Q hs hf hn hk hnext
  simp only [lenB, Bool.and_eq_true] at h
  obtain ⟨h1, h2⟩ := h
  obtain ⟨hd, hdn⟩ := dstB_ok h1
  split at h2
  · rename_i args tys ho
    split at h2
    · rename_i y t ha ht
      simp only [Bool.and_eq_true] at h2
      obtain ⟨h2, h3⟩ := h2
      have hv := opd_ok hf h2
      simp only [opK] at hk
      have slc : isStr = false → ∀ (m : Nat) a cap, act.eval y = .slice a m cap → kn (s.put d (.int .i64 m)) = some r → o.wp P act w next Q := by
        intro e m a cap hy hk'
        subst e
        refine plain_ok hs hf hn hd hdn hk' (v := goInt m) ?_ rfl hnext
        intro w2 _
        refine run_len_call ho ha ht ?_
        rw [hy]
        exact run_len_slice w2 t _ a m cap (sliceTy_ok (by simpa using h3))
      cases hx : s.opd x with
      | str b =>
        rw [hx] at hk hv
        simp only at hk
        split at hk
        · rename_i e
          subst e
          have hv : act.eval y = .string b := hv
          refine plain_ok hs hf hn hd hdn hk (v := goInt b.size) ?_ rfl hnext
          intro w2 _
          refine run_len_call ho ha ht ?_
          rw [hv]
          exact run_len_string w2 t _ b (strTy_ok (by simpa using h3))
        · cases hk
      | nil =>
        rw [hx] at hk hv
        simp only at hk
        split at hk
        · cases hk
        · rename_i e
          exact slc (by simpa using e) 0 none 0 hv hk
      | lst K xs =>
        rw [hx] at hk hv
        simp only at hk
        split at hk
        · cases hk
        · rename_i e
          obtain ⟨a, cap, ev, _⟩ := hv
          exact slc (by simpa using e) _ _ _ ev hk
      | row id =>
        rw [hx] at hk hv
        simp only at hk
        split at hk
        · cases hk
        · rename_i e
          obtain ⟨ev, _⟩ := hv
          cases hb : s.st[id]? with
          | none => rw [hb] at hk; cases hk
          | some bx =>
            rw [hb] at hk
            have hbox := hs.box id bx hb
            cases bx with
            | rows t' K xs =>
              obtain ⟨flat, ho', _⟩ := hbox
              rcases ho'.2 with ⟨e1, e2⟩ | ⟨g, cap, cur, e1, _⟩
              · rw [e1] at ev
                have h0 : xs.length = 0 := e2
                simp only [h0] at hk
                exact slc (by simpa using e) 0 none 0 ev hk
              · rw [e1] at ev
                exact slc (by simpa using e) _ _ _ ev hk
            | frz K xs =>
              obtain ⟨⟨a, cap, e1, _⟩, _⟩ := hbox
              rw [e1] at ev
              exact slc (by simpa using e) _ _ _ ev hk
            | mrow t' K xs =>
              obtain ⟨flat, ho', _⟩ := hbox
              rcases ho'.2 with ⟨e1, e2⟩ | ⟨g, cap, cur, e1, _⟩
              · rw [e1] at ev
                have h0 : xs.length = 0 := e2
                simp only [h0] at hk
                exact slc (by simpa using e) 0 none 0 ev hk
              · rw [e1] at ev
                exact slc (by simpa using e) _ _ _ ev hk
            | var cs => cases hk
            | dead => cases hk
      | _ => rw [hx] at hk; cases hk
    · cases h2
  · cases h2

def sidxB (P : Program) (n : Nat) (o : Oper) (d : Nat) (x i : Opd) : Bool :=
  dstB o n d && (match o.op with | .index t x' i' => opdB x' x && opdB i' i && strTy P t | _ => false)
theorem sidx_ok {n : Nat} {o : Oper} {d : Nat} {x i : Opd} {cal : Cal} (h : sidxB P n o d x i = true) : OpOk P n o (.sidx d x i) cal := by
  intro ρ kn r s act w H φ next Q hs hf hn hk hnext
  simp only [sidxB, Bool.and_eq_true] at h
  obtain ⟨h1, h2⟩ := h
  obtain ⟨hd, hdn⟩ := dstB_ok h1
  split at h2
  · rename_i t x' i' ho
    simp only [Bool.and_eq_true] at h2
    obtain ⟨⟨hx, hi⟩, ht⟩ := h2
    have vx := opd_ok hf hx
    have vi := opd_ok hf hi
    simp only [opK] at hk
    split at hk
    · rename_i b k j hxe hie
      rw [hxe] at vx
      rw [hie] at vi
      have vx : act.eval x' = .string b := vx
      have vi : act.eval i' = .int k j := vi
      split at hk
      · rename_i h0
        split at hk
        · rename_i h1
          refine plain_ok hs hf hn hd hdn hk (v := .int .u8 (b[j.toNat]'(by omega)).toNat) ?_ ?_ hnext
          · intro w2 _
            simp [execOp, ho, vx, vi, run_index_string w2 t b k j (strTy_ok ht), h0, h1]
          · show Value.int .u8 _ = .int .u8 _
            congr 2
            have e : b.data.toList.getD j.toNat 0 = b[j.toNat]'(by omega) := by
              have hlt : j.toNat < b.data.size := by have : b.size = b.data.size := rfl; omega
              simp only [List.getD, Array.getElem?_toList, Array.getElem?_eq_getElem hlt, Option.getD_some]
              rfl
            rw [e]
        · cases hk
      · cases hk
    · cases hk
  · cases h2

def idxB (P : Program) (n : Nat) (o : Oper) (d : Nat) (z : Nat) (x i : Opd) : Bool :=
  dstB o n d && (match o.op with | .indexAddr t x' i' => opdB x' x && opdB i' i && sliceTy P t && szB P (P.elem t) z | _ => false)
theorem idx_ok {n : Nat} {o : Oper} {d : Nat} {z : Nat} {x i : Opd} {cal : Cal} (h : idxB P n o d z x i = true) : OpOk P n o (.idx d z x i) cal := by
  intro ρ kn r s act w H φ next Q hs hf hn hk hnext
  simp only [idxB, Bool.and_eq_true] at h
  obtain ⟨h1, h2⟩ := h
  obtain ⟨hd, hdn⟩ := dstB_ok h1
  split at h2
  · rename_i t x' i' ho
    simp only [Bool.and_eq_true] at h2
    obtain ⟨⟨⟨hx, hi⟩, ht⟩, hz⟩ := h2
    have vx := opd_ok hf hx
    have vi := opd_ok hf hi
    have hsize : ∀ w, (sizeOf (P.elem t)).run P w = .ok z w := by
      intro w
      have hs := szB_spec hz
      cases hq : P.info? (P.elem t) with
      | none => simp [hq] at hs
      | some q =>
        have hs : q.size = z := by simpa [hq] using hs
        simp [sizeOf, typeInfo, hq, hs]
    have run : ∀ b off m cap k (j : Int), act.eval x' = .slice (some ⟨b, off, none⟩) m cap → act.eval i' = .int k j → 0 ≤ j → j < m → ∀ w2, ReadsSame o act w w2 →
        (execOp act.eval o).run P w2 = .ok (.value (.pointer (some ⟨b, off + j.toNat * z, none⟩))) w2 := by
      intro b off m cap k j e1 e2 h0 h1 w _
      simp [execOp, ho, e1, e2, run_indexAt_slice w t _ m cap k j (sliceTy_ok ht), h0, h1, hsize, Addr.add_none]
    simp only [opK] at hk
    have frozen : ∀ (K : Kd) (xs : List K.T) k (j : Int), reps (Rep H K) K.sz H xs (act.eval x') → act.eval i' = .int k j → K.sz = z → 0 ≤ j → j < xs.length →
        ∃ b off cap c el fz, act.eval x' = .slice (some ⟨b, off, none⟩) xs.length cap ∧ H b = some (.cells c el fz) ∧
          ∀ j x, xs[j]? = some x → ∃ cs, Rep H K x cs ∧ cs.length = K.sz ∧ ∀ i u, cs[i]? = some u → c[off + j * K.sz + i]? = some u := by
      intro K xs k j hr hi hzz h0 h1
      obtain ⟨a, cap, ev, _, hr⟩ := hr
      rcases hr with rfl | ⟨b, off, c, el, fz, ea, hb, hc⟩
      · simp at h1; omega
      · subst ea
        exact ⟨b, off, cap, c, el, fz, ev, hb, hc⟩
    split at hk
    · rename_i K xs k j hxe hie
      rw [hxe] at vx
      rw [hie] at vi
      have vi : act.eval i' = .int k j := vi
      split at hk
      · rename_i hzz
        split at hk
        · rename_i h0
          split at hk
          · rename_i h1
            obtain ⟨b, off, cap, c, el, fz, e1, e2, e3⟩ := frozen K xs k j vx vi hzz h0 h1
            refine plain_ok hs hf hn hd hdn hk (run _ _ _ _ _ _ e1 vi h0 h1) ?_ hnext
            have hlt : j.toNat < xs.length := by omega
            obtain ⟨cs, g1, g2, g3⟩ := e3 j.toNat xs[j.toNat] (by simp)
            have eg : xs.getD j.toNat K.zero = xs[j.toNat] := by simp [List.getD, hlt]
            rw [eg]
            refine ⟨b, off + j.toNat * z, c, el, fz, by simp, e2, cs, VFs.of_rep g1, fun q u hu => ?_⟩
            rw [← hzz]
            exact g3 q u hu
          · cases hk
        · cases hk
      · cases hk
    · rename_i id k j hxe hie
      rw [hxe] at vx
      rw [hie] at vi
      have vi : act.eval i' = .int k j := vi
      obtain ⟨ev, _⟩ := vx
      split at hk
      · rename_i t' K xs hb
        split at hk
        · rename_i hzz
          split at hk
          · rename_i h0
            split at hk
            · rename_i h1
              obtain ⟨flat, ho', _⟩ := hs.box id _ hb
              rcases ho'.2 with ⟨e1, e2⟩ | ⟨g, cap, cur, e1, _⟩
              · have : xs.length = 0 := e2
                omega
              · rw [e1] at ev
                refine plain_ok hs hf hn hd hdn hk (run _ _ _ _ _ _ ev vi h0 h1) ?_ hnext
                exact ⟨g, xs.length, cap, K, by simp only [kindAt, hb], by omega, e1, by simp [hzz]⟩
            · cases hk
          · cases hk
        · cases hk
      · rename_i K xs hb
        split at hk
        · rename_i hzz
          split at hk
          · rename_i h0
            split at hk
            · rename_i h1
              obtain ⟨hr, ha⟩ := hs.box id _ hb
              rw [← ev] at hr ha
              obtain ⟨b, off, cap, c, el, fz, e1, e2, e3⟩ := frozen K xs k j hr vi hzz h0 h1
              obtain ⟨hoff, _⟩ := ha _ _ _ e1
              simp only at hoff
              subst hoff
              refine plain_ok hs hf hn hd hdn hk (run _ _ _ _ _ _ e1 vi h0 h1) ?_ hnext
              exact ⟨b, xs.length, cap, K, by simp only [kindAt, hb], by omega, by rw [← ev]; exact e1, by simp [hzz]⟩
            · cases hk
          · cases hk
        · cases hk
      · rename_i t' K xs hb
        split at hk
        · rename_i hzz
          split at hk
          · rename_i h0
            split at hk
            · rename_i h1
              obtain ⟨flat, ho', _⟩ := hs.box id _ hb
              rcases ho'.2 with ⟨e1, e2⟩ | ⟨g, cap, cur, e1, _⟩
              · have : xs.length = 0 := e2
                omega
              · rw [e1] at ev
                refine plain_ok hs hf hn hd hdn hk (run _ _ _ _ _ _ ev vi h0 h1) ?_ hnext
                exact ⟨g, xs.length, cap, K, by simp only [kindAt, hb], by omega, e1, by simp [hzz]⟩
            · cases hk
          · cases hk
        · cases hk
      · cases hk
    · cases hk
  · cases h2

/-- A bound: a constant or a temporary that holds an int. -/
theorem run_bounds {w : World} {isSlice : Bool} {len cap : Nat} {lo hi : Option Value} {l h : Int} (hlo : (lo = none ∧ l = 0) ∨ ∃ k, lo = some (.int k l)) (hhi : (hi = none ∧ h = len) ∨ ∃ k, hi = some (.int k h))
    (h0 : 0 ≤ l) (h1 : l ≤ h) (h2 : h ≤ cap) : (Instr.sliceBounds isSlice len cap lo hi none).run P w = .ok (l.toNat, h.toNat, cap) w := by
  have eh : (h.toNat : Int) = h := Int.toNat_of_nonneg (by omega)
  have hh : 0 ≤ h := by omega
  rcases hlo with ⟨rfl, rfl⟩ | ⟨k, rfl⟩ <;> rcases hhi with ⟨rfl, rfl⟩ | ⟨k', rfl⟩
  · simp [Instr.sliceBounds]
  · simp [Instr.sliceBounds, run_sliceBound, h2, hh]
  · simp [Instr.sliceBounds, run_sliceBound, h0, h1]
  · simp [Instr.sliceBounds, run_sliceBound, h0, h1, h2, hh, eh]

def optB : Option Operand → Option Opd → Bool
  | none, none => true
  | some x, some y => opdB x y
  | _, _ => false

theorem opt_ok {H : HP} {φ : Phi} {s : St} {act : Act} {lo : Option Operand} {lo' : Option Opd} {l d0 : Int} {k k0 : IntKind} (hf : FrR H φ s.st s.fr act.tmps) (h : optB lo lo' = true)
    (hl : (match lo' with | none => AV.int k0 d0 | some y => s.opd y) = .int k l) : (lo.map act.eval = none ∧ l = d0) ∨ ∃ k, lo.map act.eval = some (.int k l) := by
  cases lo with
  | none =>
    cases lo' with
    | none => simp only [AV.int.injEq] at hl; exact .inl ⟨rfl, hl.2.symm⟩
    | some y => simp [optB] at h
  | some x =>
    cases lo' with
    | none => simp [optB] at h
    | some y =>
      have hv := opd_ok hf h
      simp only at hl
      rw [hl] at hv
      have hv : act.eval x = .int k l := hv
      exact .inr ⟨k, by simp [hv]⟩

def slB (P : Program) (n : Nat) (o : Oper) (d : Nat) (z : Nat) (x : Opd) (lo hi : Option Opd) : Bool :=
  dstB o n d && (match o.op with
    | .slice t x' lo' hi' none => opdB x' x && optB lo' lo && optB hi' hi && (if z = 0 then strTy P t else sliceTy P t && szB P (P.elem t) z)
    | _ => false)
theorem sl_ok {n : Nat} {o : Oper} {d : Nat} {z : Nat} {x : Opd} {lo hi : Option Opd} {cal : Cal} (h : slB P n o d z x lo hi = true) : OpOk P n o (.sl d z x lo hi) cal := by
  intro ρ kn r s act w H φ next Q hs hf hn hk hnext
  simp only [slB, Bool.and_eq_true] at h
  obtain ⟨h1, h2⟩ := h
  obtain ⟨hd, hdn⟩ := dstB_ok h1
  split at h2
  · rename_i t x' lo' hi' ho
    simp only [Bool.and_eq_true] at h2
    obtain ⟨⟨⟨hx, hlo⟩, hhi⟩, ht⟩ := h2
    have vx := opd_ok hf hx
    simp only [opK] at hk
    split at hk
    · rename_i b k l hxe hle
      rw [hxe] at vx
      have vx : act.eval x' = .string b := vx
      split at hk
      · rename_i hz
        subst hz
        simp only [if_true] at ht
        split at hk
        · rename_i k2 h hhe
          split at hk
          · rename_i h0
            split at hk
            · rename_i h1
              split at hk
              · rename_i h2
                have hb := fun w => run_bounds (P := P) (w := w) (isSlice := false) (opt_ok hf hlo hle) (opt_ok hf hhi hhe) h0 h1 h2
                refine plain_ok hs hf hn hd hdn hk (v := .string (b.extract l.toNat h.toNat)) ?_ rfl hnext
                intro w2 _
                simp [execOp, ho, vx, Instr.sliceAt, Instr.slice, run_underlying (strTy_ok ht), hb]
              · cases hk
            · cases hk
          · cases hk
        · cases hk
      · cases hk
    · rename_i K xs k l hxe hle
      rw [hxe] at vx
      obtain ⟨a, cap, ev, hcap, hr⟩ := (vx : reps (Rep H K) K.sz H xs (act.eval x'))
      split at hk
      · rename_i hz
        have hz0 : z ≠ 0 := by have := Kd.sz_pos K; omega
        simp only [if_neg hz0, Bool.and_eq_true] at ht
        have hsize : ∀ w, (sizeOf (P.elem t)).run P w = .ok z w := by
          intro w
          have hs := szB_spec ht.2
          cases hq : P.info? (P.elem t) with
          | none => simp [hq] at hs
          | some q =>
            have hs : q.size = z := by simpa [hq] using hs
            simp [sizeOf, typeInfo, hq, hs]
        split at hk
        · rename_i k2 h hhe
          split at hk
          · rename_i h0
            split at hk
            · rename_i h1
              split at hk
              · rename_i h2
                have hb := fun w => run_bounds (P := P) (w := w) (isSlice := true) (cap := cap) (opt_ok hf hlo hle) (opt_ok hf hhi hhe) h0 h1 (by omega)
                refine plain_ok hs hf hn hd hdn hk (v := .slice (if cap = l.toNat then a else a.map (·.add (l.toNat * z))) (h.toNat - l.toNat) (cap - l.toNat)) ?_ ?_ hnext
                · intro w2 _
                  simp [execOp, ho, ev, Instr.sliceAt, Instr.slice, run_underlying (sliceTy_ok ht.1), hb, hsize]
                · have hlen : ((xs.take h.toNat).drop l.toNat).length = h.toNat - l.toNat := by
                    rw [List.length_drop, List.length_take]; omega
                  refine ⟨_, _, by rw [hlen], by rw [hlen]; omega, ?_⟩
                  rcases hr with rfl | ⟨b, off, c, el, fz, ea, hbb, hc⟩
                  · left; simp
                  · by_cases he : cap = l.toNat
                    · left
                      rw [← List.length_eq_zero_iff, hlen]
                      omega
                    · right
                      subst ea
                      refine ⟨b, off + l.toNat * z, c, el, fz, by simp [he, Addr.add_none], hbb, fun j y hy => ?_⟩
                      rw [List.getElem?_drop, List.getElem?_take] at hy
                      split at hy
                      · obtain ⟨cs, g1, g2, g3⟩ := hc _ y hy
                        refine ⟨cs, g1, g2, fun i u hu => ?_⟩
                        have := g3 i u hu
                        rw [hz, Nat.add_mul, ← Nat.add_assoc] at this
                        rw [hz]
                        exact this
                      · cases hy
              · cases hk
            · cases hk
          · cases hk
        · cases hk
      · cases hk
    · cases hk
  · cases h2

end Go.Proofs.Ytnbfkndicldppaa.Core
