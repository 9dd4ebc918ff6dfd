/- Strings out of bytes, new rows of zeros, structs. -/
import Derived.Test.YtnbfkndicldppaaOp5
namespace Go.Proofs.Ytnbfkndicldppaa.Core
open Go

variable {P : Program}

theorem list_of_VA {H : HP} {φ : Phi} {s : St} {a : AV} {v : Value} {K : Kd} {ρ : Type} {kn : List K.T → Option ρ} {r : ρ} (hv : VA H φ s.st a v) (h : s.list a K kn = some r) : VC H φ s.st a v := by
  rcases hv.cases with ⟨cs, arr, rfl, _⟩ | ⟨vs, arr, rfl, _⟩ | h
  · cases h
  · cases h
  · exact h

def btsB (P : Program) (n : Nat) (o : Oper) (d : Nat) (x : Opd) : Bool :=
  dstB o n d && (match o.op with
    | .convert src dst y => opdB y x && sliceTy P src && strTy P dst && (match P.underlying (P.elem src) with | some (.int .u8) => true | _ => false)
    | _ => false)
theorem bts_ok {n : Nat} {o : Oper} {d : Nat} {x : Opd} {cal : Cal} (h : btsB P n o d x = true) : OpOk P n o (.bts d x) cal := by
  intro ρ kn r s act w H φ next Q hs hf hn hk hnext
  simp only [btsB, Bool.and_eq_true] at h
  obtain ⟨h1, h2⟩ := h
  obtain ⟨hd, hdn⟩ := dstB_ok h1
  split at h2
  · rename_i src dst y ho
    simp only [Bool.and_eq_true] at h2
    obtain ⟨⟨⟨h2, h3⟩, h4⟩, h5⟩ := h2
    have he : P.underlying (P.elem src) = some (.int .u8) := by
      split at h5
      · assumption
      · cases h5
    simp only [opK] at hk
    have hv := opd_ok hf h2
    obtain ⟨xs, hk', sl, cap, flat, ev, hl, hr, hc, hnone⟩ := list_ok hs (list_of_VA hv hk) hk
    have hl1 : flat.length = xs.length := by rw [hl]; exact Nat.mul_one _
    have hflat : flat = xs.map (Value.int .u8) := by
      apply List.ext_getElem?
      intro j
      rcases Nat.lt_or_ge j xs.length with hj | hj
      · have := hr j xs[j] (by simp)
        have e : ((flat.drop (j * 1)).take 1) = [Value.int .u8 xs[j]] := this
        rw [Nat.mul_one] at e
        have e2 := congrArg (fun l : List Value => l[0]?) e
        simp only [List.getElem?_take, List.getElem?_drop] at e2
        simpa [hj] using e2
      · rw [List.getElem?_eq_none (by omega), List.getElem?_eq_none (by simp; omega)]
    have hrun : (convert src dst (act.eval y)).run P w = .ok (.string (bytesOf xs)) w := by
      rw [ev]
      cases sl with
      | none =>
        have := hnone rfl
        subst this
        rw [run_convert_bytes_nil w src _ (sliceTy_ok h3) he _ _ dst (strTy_ok h4)]
        rfl
      | some a =>
        rw [run_convert_bytes_string w src dst _ (some a) xs.length cap (sliceTy_ok h3) he (strTy_ok h4)]
        have hcell : ∀ j v, (xs.map (Value.int .u8))[j]? = some v → w.cell? (a.add j) = some v := by
          rcases hc with h | h | ⟨b, off, h, g⟩
          · cases h
          · subst h; intro j v hj; simp at hj
          · cases h
            intro j v hj
            rw [Addr.add_none]
            exact g j v (by rw [hflat]; exact hj)
        have hload := run_loadCells_list (P := P) w a (xs.map (Value.int .u8)) hcell
        simp only [List.length_map] at hload
        rw [run_bytesToString w a xs.length cap xs hload, foldl_push_bytes]
        simp [bytesOf]
    exact step_ok (s1 := s) (Step.refl hs) hf hn hd hdn hk' (v := .string (bytesOf xs)) (by simp [execOp, ho, hrun]) rfl hnext (Mem.refl _ _ _ _) rfl
  · cases h2

theorem rowRep_made {H : HP} {K : Kd} {z : Array Value} {n : Nat} (hz : z.size = K.sz) (hr : Rep H K K.zero z.toList) : rowRep H K (List.replicate n K.zero) (madeCells z (n * K.sz)).toList := by
  intro j x hx
  have hj : j < n := by
    have := (List.getElem?_eq_some_iff.1 hx).1
    simpa using this
  have ex : x = K.zero := by
    rw [List.getElem?_replicate, if_pos hj] at hx
    exact (Option.some.inj hx).symm
  subst ex
  have hpos := Kd.sz_pos K
  have e : ((madeCells z (n * K.sz)).toList.drop (j * K.sz)).take K.sz = z.toList := by
    apply List.ext_getElem?
    intro i
    rcases Nat.lt_or_ge i K.sz with hi | hi
    · have hlt : j * K.sz + i < n * K.sz := by
        have : (j + 1) * K.sz ≤ n * K.sz := Nat.mul_le_mul_right _ hj
        rw [Nat.succ_mul] at this
        omega
      have hmod : (j * K.sz + i) % K.sz = i := by rw [Nat.mul_comm, Nat.mul_add_mod, Nat.mod_eq_of_lt hi]
      rw [List.getElem?_take, if_pos hi, List.getElem?_drop]
      simp only [madeCells, Array.toList_map, List.getElem?_map, Array.toList_range, List.getElem?_range hlt, Option.map_some]
      rw [hz, hmod]
      have hiz : i < z.size := by omega
      simp [hiz, getElem!_pos]
    · rw [List.getElem?_take, if_neg (by omega), List.getElem?_eq_none (by simp; omega)]
  rw [e]
  exact hr

def mkB (P : Program) (n : Nat) (o : Oper) (d : Nat) (e : TypeId) (K : Kd) (m : Opd) : Bool :=
  dstB o n d && elB P e K && (match o.op with | .makeSlice t l c => opdB l m && opdB c m && (match P.underlying t with | some (.slice e') => e' == e | _ => false) | _ => false)
theorem mk_ok {n : Nat} {o : Oper} {d : Nat} {e : TypeId} {K : Kd} {m : Opd} {cal : Cal} (h : mkB P n o d e K m = true) : OpOk P n o (.mk d e K m) cal := by
  intro ρ kn r s act w H φ next Q hs hf hn hk hnext
  simp only [mkB, Bool.and_eq_true] at h
  obtain ⟨⟨h1, hel⟩, h2⟩ := h
  obtain ⟨hd, hdn⟩ := dstB_ok h1
  split at h2
  · rename_i t l c ho
    simp only [Bool.and_eq_true] at h2
    obtain ⟨⟨hl, hc⟩, ht⟩ := h2
    have hu : P.underlying t = some (.slice e) := by
      split at ht
      · rename_i e' hu
        simp only [beq_iff_eq] at ht
        rw [hu, ht]
      · cases ht
    obtain ⟨i, z, hi, hz, hsz, hb, hzs, hzr⟩ := elB_spec hel
    simp only [opK] at hk
    have vl := opd_ok hf hl
    have vc := opd_ok hf hc
    cases hm : s.opd m with
    | int k q =>
      rw [hm] at hk vl vc
      have vl : act.eval l = .int k q := vl
      have vc : act.eval c = .int k q := vc
      simp only at hk
      split at hk
      · rename_i h0
        split at hk
        · rename_i hq
          have eq : ((q.toNat : Nat) : Int) = q := Int.toNat_of_nonneg h0
          have hqn : q.toNat ≤ 68719476736 := by omega
          have hbytes : i.bytes * q.toNat ≤ 281474976710656 := by
            calc i.bytes * q.toNat ≤ 2048 * 68719476736 := Nat.mul_le_mul hb hqn
              _ ≤ 281474976710656 := by decide
          obtain ⟨w', hrun, hown, hgrow⟩ := run_make_full (P := P) w w.heap.size t e i z K.sz hu hi hz hsz k k q.toNat hbytes (by simp only [maxLen]; omega) (Nat.le_refl _)
          rw [eq] at hrun
          have hst := newRow_step hs hgrow (K := K) (xs := List.replicate q.toNat K.zero) (by simpa using hown) (rowRep_made hzs (hzr H))
          refine step_ok (s := s) (s1 := ⟨s.fr, s.st ++ [.rows e K (List.replicate q.toNat K.zero)]⟩) (a := .row s.st.length) (v := .slice (some ⟨w.heap.size, 0, none⟩) q.toNat q.toNat) hst (hf.mono (HP.le_refl H) (keeps_append φ s.st _ _)) hn hd hdn hk
            (by simp only [execOp, ho, Sem.run_bind, vl, vc, hrun, Result.andThen_ok, Sem.run_pure]) ?_ hnext (Mem.grown hs hgrow) rfl
          exact ⟨by simp, by simp [kindAt]⟩
        · cases hk
      · cases hk
    | _ => rw [hm] at hk; cases hk
  · cases h2

theorem full_one {H : HP} {φ : Phi} {st : List Box} {w : World} {a : AV} {v : Value} (hs : SR H φ st w) (hc : VC H φ st a v) (hf : a.full = true) : v.cells = #[v] := by
  cases a with
  | row id =>
    obtain ⟨e, hk⟩ := hc
    subst e
    cases hb : st[id]? with
    | none => simp [kindAt, hb] at hk
    | some bx =>
      have hbox := hs.box id bx hb
      cases bx with
      | rows t K xs =>
        obtain ⟨flat, ho, _⟩ := hbox
        rcases ho.2 with ⟨e, _⟩ | ⟨g, cap, cur, e, _⟩ <;> rw [e] <;> rfl
      | mrow t K xs =>
        obtain ⟨flat, ho, _⟩ := hbox
        rcases ho.2 with ⟨e, _⟩ | ⟨g, cap, cur, e, _⟩ <;> rw [e] <;> rfl
      | frz K xs => obtain ⟨⟨a, cap, e, _⟩, _⟩ := hbox; rw [e]; rfl
      | var cs => simp [kindAt, hb] at hk
      | dead => simp [kindAt, hb] at hk
  | ptr id off => obtain ⟨_, b, _, e⟩ := hc; rw [e]; rfl
  | eptr id i off => obtain ⟨b, _, _, _, _, _, _, e⟩ := hc; rw [e]; rfl
  | fptr cs off => obtain ⟨b, _, _, _, _, e, _⟩ := hc; rw [e]; rfl
  | fn f caps => obtain ⟨_, e⟩ := hc; rw [e]; rfl
  | clo f K x => obtain ⟨b, o, c, el, fz, e, _⟩ := hc; rw [e]; rfl
  | undef => cases hf
  | void => cases hf
  | new t K xs => exact hc.elim
  | ref cs => exact hc.elim
  | was id => cases hf
  | agg cs => exact hc.elim
  | tup vs => exact hc.elim
  | int k n => exact VF.cells (H := H) (a := .int k n) hc
  | bool b => exact VF.cells (H := H) (a := .bool b) hc
  | str b => exact VF.cells (H := H) (a := .str b) hc
  | nil => exact VF.cells (H := H) (a := .nil) hc
  | lst K xs => exact VF.cells (H := H) (a := .lst K xs) hc

theorem full_cells {H : HP} {φ : Phi} {st : List Box} {w : World} {a : AV} {v : Value} (hs : SR H φ st w) (h : VA H φ st a v) (hf : a.full = true) : All2 (VC H φ st) a.cells v.cells.toList := by
  rcases h.cases with ⟨cs, arr, rfl, rfl, hc⟩ | ⟨vs, arr, rfl, _, _⟩ | hc
  · exact hc
  · cases hf
  · rw [cells_one hc, full_one hs hc hf]
    exact ⟨v, [], rfl, hc, rfl⟩

theorem All2.set {α β : Type} {R : α → β → Prop} : ∀ {as : List α} {vs : List β} (n : Nat) {a : α} {v : β}, All2 R as vs → R a v → All2 R (as.set n a) (vs.set n v)
  | [], vs, n, a, v, h, _ => by cases h; simp [All2]
  | _ :: _, _, 0, a, v, ⟨v0, r, e, _, hr⟩, g => by subst e; exact ⟨v, r, rfl, g, hr⟩
  | _ :: _, _, n + 1, a, v, ⟨v0, r, e, h, hr⟩, g => by subst e; exact ⟨v0, _, rfl, h, All2.set n hr g⟩

theorem putCells_length : ∀ (as cs : List AV) (o : Nat), (putCells cs o as).length = cs.length
  | [], cs, o => rfl
  | a :: as, cs, o => by simp [putCells, putCells_length as]

theorem put_fold {R : AV → Value → Prop} : ∀ {as : List AV} {vs : List Value} {cs : List AV} {arr : Array Value} (off k : Nat), All2 R cs arr.toList → All2 R as vs →
    All2 R (putCells cs (off + k) as) ((vs.zipIdx k).foldl (fun cs c => cs.setIfInBounds (off + c.2) c.1) arr).toList
  | [], _, cs, arr, off, k, h, g => by cases g; simpa [putCells] using h
  | a :: as, _, cs, arr, off, k, h, ⟨v, r, e, g, gr⟩ => by
    subst e
    simp only [putCells, List.zipIdx_cons, List.foldl_cons]
    rw [Nat.add_assoc]
    refine put_fold off (k + 1) ?_ gr
    rw [Array.toList_setIfInBounds]
    exact h.set _ g

/-- Parts of a literal: the place of each field, its size. -/
def partsB (places : List (Nat × Nat)) : List (Nat × Operand) → List (Nat × Nat × Opd) → Bool
  | [], [] => true
  | (i, y) :: ps, (off, m, x) :: qs => decide (places[i]? = some (off, m)) && opdB y x && partsB places ps qs
  | _, _ => false

theorem fill_ok {H : HP} {φ : Phi} {s : St} {w : World} {act : Act} (hs : SR H φ s.st w) (hf : FrR H φ s.st s.fr act.tmps) (places : List (Nat × Nat)) :
    ∀ (ps : List (Nat × Operand)) (qs : List (Nat × Nat × Opd)) (cs cs' : List AV) (arr : Array Value), partsB places ps qs = true → All2 (VC H φ s.st) cs arr.toList → s.filled cs qs = some cs' →
      ∃ arr', Instr.fill (places[·]?) arr (ps.map fun p => (p.1, act.eval p.2)) = some arr' ∧ All2 (VC H φ s.st) cs' arr'.toList
  | [], [], cs, cs', arr, _, h, e => by cases e; exact ⟨arr, rfl, h⟩
  | (i, y) :: ps, (off, m, x) :: qs, cs, cs', arr, hb, h, e => by
    simp only [partsB, Bool.and_eq_true, decide_eq_true_eq] at hb
    obtain ⟨⟨hp, hy⟩, hb⟩ := hb
    simp only [St.filled] at e
    split at e
    · rename_i hc
      obtain ⟨hfull, hlen, hle⟩ := hc
      have hv := full_cells hs (opd_ok hf hy) hfull
      have hsz : (act.eval y).cells.size = m := by have := hv.length; simpa [hlen] using this
      have hcs : arr.size = cs.length := by simpa using h.length
      have h2 := put_fold off 0 h hv
      rw [Nat.add_zero] at h2
      obtain ⟨arr', h3, h4⟩ := fill_ok hs hf places ps qs (putCells cs off (s.opd x).cells) cs' (((act.eval y).cells.toList.zipIdx 0).foldl (fun cs c => cs.setIfInBounds (off + c.2) c.1) arr) hb h2 e
      refine ⟨arr', ?_, h4⟩
      simp only [List.map_cons, Instr.fill, hp]
      rw [if_neg (by simp [hsz]; omega)]
      rw [← h3]
      congr 1
      rw [← Array.foldl_toList, Array.toList_zipIdx]
    · cases e
  | [], _ :: _, _, _, _, hb, _, _ => by simp [partsB] at hb
  | _ :: _, [], _, _, _, hb, _, _ => by simp [partsB] at hb

def buildB (P : Program) (n : Nat) (o : Oper) (d : Nat) (zero : List AV) (qs : List (Nat × Nat × Opd)) : Bool :=
  dstB o n d && (match o.op with
    | .build t ps => zeroB P t zero && (match P.underlying t with
      | some (.struct fields) => (match fields.toList.mapM (fun f => (P.info? f.type).map fun i => (f.offset, i.size)) with
        | some places => partsB places ps.toList qs
        | none => false)
      | _ => false)
    | _ => false)
theorem build_ok {n : Nat} {o : Oper} {d : Nat} {zero : List AV} {qs : List (Nat × Nat × Opd)} {cal : Cal} (h : buildB P n o d zero qs = true) : OpOk P n o (.build d zero qs) cal := by
  intro ρ kn r s act w H φ next Q hs hf hn hk hnext
  simp only [buildB, Bool.and_eq_true] at h
  obtain ⟨h1, h2⟩ := h
  obtain ⟨hd, hdn⟩ := dstB_ok h1
  split at h2
  · rename_i t ps ho
    simp only [Bool.and_eq_true] at h2
    obtain ⟨hz, h2⟩ := h2
    obtain ⟨i, z, hi, hzz, hzc⟩ := zeroB_ok hz
    split at h2
    · rename_i fields hu
      split at h2
      · rename_i places hpl
        simp only [opK] at hk
        cases hq : s.filled zero qs with
        | none => rw [hq] at hk; cases hk
        | some cs =>
          rw [hq] at hk
          simp only [Option.bind_some] at hk
          obtain ⟨arr, h3, h4⟩ := fill_ok hs hf places ps.toList qs zero cs z.cells h2 ((VFs_iff.1 (hzc H)).imp fun _ _ h => VC.of_VF h) hq
          have hb : P.built t (ps.map fun p => (p.1, act.eval p.2)).toList = some arr := by
            unfold Program.built
            simp only [hi, hu, hzz, hpl]
            rw [Array.toList_map]
            simpa using h3
          refine plain_ok hs hf hn hd hdn hk (v := .agg arr) ?_ ⟨arr, rfl, h4⟩ hnext
          intro w2 _
          simp only [execOp, ho, Sem.run_bind, run_build w2 t _ arr hb, Result.andThen_ok, Sem.run_pure]
      · cases h2
    · cases h2
  · cases h2

theorem VC.of_told {H : HP} {φ : Phi} {st : List Box} {a : AV} {u : Value} (h : Told H φ st a u) (hz : ∀ i, a ≠ .was i) (hu : a ≠ .undef) : VC H φ st a u := by
  obtain ⟨h1, h2⟩ := h
  cases a with
  | row i => exact ⟨(h2 i rfl).2, (h2 i rfl).1⟩
  | was i => exact absurd rfl (hz i)
  | undef => exact absurd rfl hu
  | _ => first | exact VC.of_VF h1 | exact h1.elim

def bnewB (P : Program) (n : Nat) (o : Oper) (d : Nat) (zero : List AV) (qs : List (Nat × Nat × Opd)) : Bool :=
  dstB o n d && (match o.op with
    | .build t ps => zeroC P t zero && (match P.underlying t with
      | some (.struct fields) => (match fields.toList.mapM (fun f => (P.info? f.type).map fun i => (f.offset, i.size)) with
        | some places => partsB places ps.toList qs
        | none => false)
      | _ => false)
    | _ => false)
/-- A literal whose rows are its own. -/
theorem bnew_ok {n : Nat} {o : Oper} {d : Nat} {zero : List AV} {qs : List (Nat × Nat × Opd)} {cal : Cal} (h : bnewB P n o d zero qs = true) : OpOk P n o (.bnew d zero qs) cal := by
  intro ρ kn r s act w H φ next Q hs hf hn hk hnext
  simp only [bnewB, Bool.and_eq_true] at h
  obtain ⟨h1, h2⟩ := h
  obtain ⟨hd, hdn⟩ := dstB_ok h1
  split at h2
  · rename_i t ps ho
    simp only [Bool.and_eq_true] at h2
    obtain ⟨hz, h2⟩ := h2
    obtain ⟨i, z, hi, hzz, hzc⟩ := zeroC_ok hz
    obtain ⟨φ1, g1, k1, told, len⟩ := pushRows (hzc H) hs
    split at h2
    · rename_i fields hu
      split at h2
      · rename_i places hpl
        simp only [opK] at hk
        cases hq : s.filled (openC s.st.length zero) qs with
        | none => rw [hq] at hk; cases hk
        | some cs =>
          rw [hq] at hk
          simp only [Option.bind_some] at hk
          have hopd : ∀ x, (⟨s.fr, s.st ++ openB zero⟩ : St).opd x = s.opd x := fun x => by cases x <;> rfl
          have hq' : ∀ (qs : List (Nat × Nat × Opd)) (cs : List AV), (⟨s.fr, s.st ++ openB zero⟩ : St).filled cs qs = s.filled cs qs := by
            intro qs
            induction qs with
            | nil => intro cs; rfl
            | cons q qs ih => obtain ⟨off, m, x⟩ := q; intro cs; simp only [St.filled, hopd, ih]
          have hf1 : FrR H φ1 (s.st ++ openB zero) s.fr act.tmps := hf.mono (HP.le_refl H) k1
          have htold : ∀ (k : Nat) (cs : List AV) (vs : List Value), All2 (ZC H) cs vs → ∀ (st : List Box) (φ : Phi), All2 (Told H φ st) (openC k cs) vs → All2 (VC H φ st) (openC k cs) vs := by
            intro k cs
            induction cs generalizing k with
            | nil => intro vs h st φ g; exact g
            | cons a cs ih =>
              intro vs h st φ g
              obtain ⟨v, r, rfl, ha, hr⟩ := h
              rcases ha with ⟨t, K, rfl, rfl⟩ | ha
              · obtain ⟨v, r', e, g1, g2⟩ := g
                cases e
                exact ⟨_, _, rfl, VC.of_told g1 (by simp) (by simp), ih (k + 1) _ hr st φ g2⟩
              · obtain ⟨o1, _, _⟩ := openC_VF (k := k) (r := cs) ha
                rw [o1] at g ⊢
                obtain ⟨v, r', e, g1, g2⟩ := g
                cases e
                exact ⟨_, _, rfl, VC.of_VF ha, ih k _ hr st φ g2⟩
          obtain ⟨arr, h3, h4⟩ := fill_ok (s := ⟨s.fr, s.st ++ openB zero⟩) g1.sr hf1 places ps.toList qs (openC s.st.length zero) cs z.cells h2 (htold _ _ _ (hzc H) _ _ told) (by rw [hq']; exact hq)
          have hb : P.built t (ps.map fun p => (p.1, act.eval p.2)).toList = some arr := by
            unfold Program.built
            simp only [hi, hu, hzz, hpl]
            rw [Array.toList_map]
            simpa using h3
          refine step_ok (s := s) (s1 := ⟨s.fr, s.st ++ openB zero⟩) (a := .agg cs) (v := .agg arr) g1 hf1 hn hd hdn hk ?_ ⟨arr, rfl, h4⟩ hnext (Mem.refl _ _ _ _) rfl
          simp only [execOp, ho, Sem.run_bind, run_build w t _ arr hb, Result.andThen_ok, Sem.run_pure]
      · cases h2
    · cases h2
  · cases h2

end Go.Proofs.Ytnbfkndicldppaa.Core
