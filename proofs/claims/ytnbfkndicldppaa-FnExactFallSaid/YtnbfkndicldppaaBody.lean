/- Bodies of functions, and calls carried out by the interpreter. -/
import Derived.Test.YtnbfkndicldppaaShut
namespace Go.Proofs.Ytnbfkndicldppaa.Core
open Go

variable {P : Program}

theorem ShutFacts.append {H H1 H2 : HP} {φ : Phi} {w : World} {s s1 s2 : St} {tk t1 t2 : List Nat} {us1 us2 : List Value} {c1 c2 : List AV} {i1 i2 : List Nat}
    (F1 : ShutFacts H φ w s s1 tk t1 us1 c1 H1 i1) (F2 : ShutFacts H1 φ w s1 s2 t1 t2 us2 c2 H2 i2) : ShutFacts H φ w s s2 tk t2 (us1 ++ us2) (c1 ++ c2) H2 (i1 ++ i2) := by
  have hl : (openB c1).length = i1.length := by rw [openB_length, F1.cnt]
  refine ⟨F1.step.trans F2.step, F1.keeps.trans F2.keeps, F2.fr.trans F1.fr, by rw [List.all_append, F1.nf, F2.nf]; rfl, by rw [newCount_append, F1.cnt, F2.cnt, List.length_append], by rw [F2.tks, F1.tks]; simp, fun h => F2.nd (F1.nd h), fun i hi => ?_, fun i hi => ?_, fun m b hb => ?_, fun k f hf => ?_⟩
  · rw [F2.held i (by rw [F1.tks]; simp [hi]), F1.held i hi]
  · have h1 := F1.vars i hi
    rw [F2.vars i (by unfold holdAt at hi ⊢; rw [h1]; exact hi), h1]
  · rw [openB_append] at hb
    rcases Nat.lt_or_ge m (openB c1).length with h | h
    · rw [List.getElem?_append_left h] at hb
      obtain ⟨i, g1, g2⟩ := F1.boxes m b hb
      refine ⟨i, by rw [List.getElem?_append_left (by omega)]; exact g1, ?_⟩
      have hh := F2.held i (by rw [F1.tks]; simp [List.mem_of_getElem? g1])
      unfold BLike at g2 ⊢
      rw [hh]
      exact g2
    · rw [List.getElem?_append_right h] at hb
      obtain ⟨i, g1, g2⟩ := F2.boxes _ b hb
      exact ⟨i, by rw [List.getElem?_append_right (by omega)]; rw [hl] at g1; exact g1, g2⟩
  · rw [openC_append, openB_append]
    refine All2.append ((F1.vals k f fun m i hm => hf m i (by rw [List.getElem?_append_left (List.getElem?_eq_some_iff.1 hm).1]; exact hm)).imp fun a u ⟨g1, g2⟩ => ⟨g1.mono F2.step.le F2.keeps, ?_⟩)
      ((F2.vals (k + newCount c1) f fun m i hm => by
        rw [Nat.add_assoc]
        exact hf _ i (by rw [F1.cnt, List.getElem?_append_right (by omega), Nat.add_sub_cancel_left]; exact hm)).imp fun a u ⟨g1, g2⟩ => ⟨g1, ?_⟩)
    · rcases g2 with g2 | ⟨m, hm, g2⟩
      · exact .inl g2
      · refine .inr ⟨m, by simp; omega, ?_⟩
        rw [List.getElem?_append_left (by omega)]
        exact g2
    · rcases g2 with g2 | ⟨m, hm, g2⟩
      · exact .inl g2
      · refine .inr ⟨i1.length + m, by simp; omega, ?_⟩
        rw [List.getElem?_append_right (by omega), hl, Nat.add_sub_cancel_left, ← Nat.add_assoc]
        rw [F1.cnt] at g2
        exact g2

theorem var_cells {H : HP} {φ : Phi} {st : List Box} {w : World} (hs : SR H φ st w) {id : Nat} {cs : List AV} (hb : st[id]? = some (.var cs)) :
    ∃ b c el, φ id = .pointer (some ⟨b, 0, none⟩) ∧ w.heap[b]? = some (.cells c el (0, 0)) ∧ All2 (VC H φ st) cs c.toList := by
  obtain ⟨b, c, el, e3, hh, hc⟩ := hs.box id _ hb
  refine ⟨b, c, el, e3, hh, all2_of hc.length fun j a u ha hu => ?_⟩
  have hw := hc.at ha hu
  cases a with
  | row i =>
    obtain ⟨g1, b2, g2, g3⟩ := hs.cell id _ hb j i ha
    rw [e3] at g2
    cases g2
    simp only [World.cell?, hh] at g3
    rw [Array.getElem?_toList] at hu
    simp only [Option.isSome_none, Bool.false_eq_true, if_false] at g3
    rw [hu] at g3
    cases g3
    exact ⟨rfl, g1⟩
  | was i => trivial
  | undef => trivial
  | _ => exact VC.of_VF hw

def resB (P : Program) : ResultVar → Res → Bool
  | .tmp t, r => !r.cell && r.t == t
  | .cell a t, r => r.cell && r.t == a && partB P t (pairSz r.K)

def ressB (P : Program) : List ResultVar → List Res → Bool
  | [], [] => true
  | v :: vs, r :: rs => resB P v r && ressB P vs rs
  | _, _ => false

def readRes (tmps : Array Value) : ResultVar → Sem Value
  | .tmp t => pure (tmps.getD t undef)
  | .cell a t => do loadVar t (← asAddr (tmps.getD a undef))

/-- A closed value and what it stands for are of one form. -/
def FitV (K : Kd) (v : Value) : Prop := match K with
  | .pair _ _ => ∃ arr, v = .agg arr
  | _ => v.cells = #[v]

theorem load_res {H : HP} {φ : Phi} {w : World} {s : St} {K : Kd} {a : AV} {v : Value} {ds : List AV} {off : Nat} {t : TypeId} (hs : SR H φ s.st w) (hv : VC H φ s.st a v) (hbh : s.behind a = some (ds, off)) (hl2 : off + K.sz ≤ ds.length) (hp : partB P t (pairSz K) = true) :
    ∃ u, (Instr.loadAt t v).run P w = .ok u w ∧ VA H φ s.st (part ds off (pairSz K)) u := by
  cases K with
  | pair a b => exact run_load_ok hs hv hbh (n := some _) hl2 hp
  | _ => exact run_load_ok hs hv hbh (n := none) hl2 hp

theorem resCells_ok {H : HP} {φ : Phi} {w : World} {s : St} {r : Res} {rv : ResultVar} {cs : List AV} {tmps : Array Value} (hs : SR H φ s.st w) (hf : FrR H φ s.st s.fr tmps) (h : s.resCells r = some cs) (hb : resB P rv r = true)
    (hne : ∀ c ∈ cs, c.full = true) (hlen : cs.length = r.K.sz) :
    ∃ v, (readRes tmps rv).run P w = .ok v w ∧ All2 (VC H φ s.st) cs v.cells.toList ∧ FitV r.K v := by
  unfold St.resCells at h
  cases rv with
  | tmp t =>
    simp only [resB, Bool.and_eq_true, Bool.not_eq_true', beq_iff_eq] at hb
    obtain ⟨hc, rfl⟩ := hb
    rw [if_neg (by rw [hc]; simp)] at h
    split at h
    · rename_i hfit
      cases h
      simp only [Bool.and_eq_true] at hfit
      have hv := hf r.t
      refine ⟨tmps.getD r.t undef, by simp [readRes], full_cells hs hv hfit.2, ?_⟩
      rcases hv.cases with ⟨ds, arr, ea, ev, _⟩ | ⟨vs, arr, ea, _, _⟩ | hvc
      · rw [ea] at hfit
        unfold FitV
        cases hK : r.K with
        | pair a b => exact ⟨arr, ev⟩
        | _ => rw [hK] at hfit; cases hfit.1
      · rw [ea] at hfit; cases hfit.2
      · have h1 := full_one hs hvc hfit.2
        unfold FitV
        cases hK : r.K with
        | pair a b =>
          rw [hK, cells_one hvc] at hlen
          have p1 := Kd.sz_pos a
          have p2 := Kd.sz_pos b
          simp [Kd.sz] at hlen
          omega
        | _ => exact h1
    · cases h
  | cell a t =>
    simp only [resB, Bool.and_eq_true, beq_iff_eq] at hb
    obtain ⟨⟨hc, rfl⟩, hp⟩ := hb
    rw [if_pos hc] at h
    cases hbh : s.behind (getT s.fr r.t) with
    | none => rw [hbh] at h; cases h
    | some y =>
      obtain ⟨ds, off⟩ := y
      rw [hbh] at h
      simp only [Option.bind_some, Option.some.injEq] at h
      subst h
      have hv := (hf r.t).behind hbh
      have hl2 : off + r.K.sz ≤ ds.length := by
        have := Kd.sz_pos r.K
        simp only [List.length_take, List.length_drop] at hlen
        omega
      obtain ⟨b, o, vs, ev, _, _⟩ := behind_ok hs hv hbh
      obtain ⟨u, hrun, hu⟩ := load_res (P := P) (t := t) hs hv hbh hl2 hp
      have hrun2 : (readRes tmps (.cell r.t t)).run P w = .ok u w := by
        rw [ev] at hrun
        simp only [Instr.loadAt, Instr.sureAddr, Sem.run_bind, Sem.run_pure, Result.andThen_ok] at hrun
        simp only [readRes, Sem.run_bind]
        rw [ev]
        simp only [asAddr, Sem.run_pure, Result.andThen_ok]
        exact hrun
      refine ⟨u, hrun2, ?_⟩
      have single : r.K.sz = 1 → pairSz r.K = none → All2 (VC H φ s.st) ((ds.drop off).take r.K.sz) u.cells.toList ∧ u.cells = #[u] := by
        intro h1 h2
        rw [h1] at hl2 hne ⊢
        rw [h2] at hu
        have hlt : off < ds.length := by omega
        have hc1 : (ds.drop off).take 1 = [ds[off]] := by rw [List.drop_eq_getElem_cons hlt]; rfl
        have hpart : part ds off none = ds[off] := by simp only [part, List.headD_eq_head?_getD]; rw [List.drop_eq_getElem_cons hlt]; rfl
        rw [hpart] at hu
        have hfc : ds[off].full = true := hne _ (by rw [hc1]; simp)
        have hvc : VC H φ s.st ds[off] u := by
          rcases hu.cases with ⟨e1, arr, ea, _, _⟩ | ⟨e1, arr, ea, _, _⟩ | hvc
          · obtain ⟨b', o', vs', _, hall, _⟩ := behind_ok hs hv hbh
            obtain ⟨u2, _, hu2⟩ := hall.get off ds[off] (by simp)
            rw [ea] at hu2
            exact hu2.elim
          · rw [ea] at hfc; cases hfc
          · exact hvc
        have hone := full_one hs hvc hfc
        rw [hc1, hone]
        exact ⟨⟨u, [], rfl, hvc, rfl⟩, rfl⟩
      cases hK : r.K with
      | pair a b =>
        rw [hK] at hu
        obtain ⟨arr, e, hc⟩ := hu
        subst e
        exact ⟨hc, arr, rfl⟩
      | _ => rw [hK] at single; exact single rfl rfl

theorem shutAll_full : ∀ {ks : List Kd} {vs cl : List AV} {tk tk' : List Nat} {s s' : St}, s.shutAll tk ks vs = some (cl, tk', s') → ∀ v ∈ vs, v.full = true
  | [], [], cl, tk, tk', s, s', h, v, hv => by cases hv
  | [], _ :: _, cl, tk, tk', s, s', h, v, hv => by simp [St.shutAll] at h
  | _ :: _, [], cl, tk, tk', s, s', h, v, hv => by cases hv
  | k :: ks, a :: vs, cl, tk, tk', s, s', h, v, hv => by
    have norm : ((a.norm k).bind fun x => (s.shutAll tk ks vs).bind fun y => some (x :: y.1, y.2)) = some (cl, tk', s') → v.full = true := by
      intro h
      cases hq : a.norm k with
      | none => rw [hq] at h; cases h
      | some x =>
        rw [hq] at h
        simp only [Option.bind_some] at h
        cases hc : s.shutAll tk ks vs with
        | none => rw [hc] at h; cases h
        | some y =>
          obtain ⟨y1, y2, y3⟩ := y
          rcases List.mem_cons.1 hv with rfl | hv
          · have := (norm_ok hq).2.2.1
            cases v <;> first | rfl | cases this
          · exact shutAll_full hc v hv
    cases a with
    | row i =>
      rcases List.mem_cons.1 hv with rfl | hv
      · rfl
      · simp only [St.shutAll] at h
        split at h
        · cases h
        · split at h
          · split at h
            · cases hc : s.shutAll (i :: tk) ks vs with
              | none => rw [hc] at h; cases h
              | some y => obtain ⟨y1, y2, y3⟩ := y; exact shutAll_full hc v hv
            · cases h
          · cases hk : s.keep (.row i) with
            | none => rw [hk] at h; cases h
            | some x =>
              rw [hk] at h
              simp only [Option.bind_some] at h
              cases hc : x.2.shutAll tk ks vs with
              | none => rw [hc] at h; cases h
              | some y => obtain ⟨y1, y2, y3⟩ := y; exact shutAll_full hc v hv
    | ptr i o =>
      rcases List.mem_cons.1 hv with rfl | hv'
      · rfl
      · cases o with
        | zero =>
          simp only [St.shutAll] at h
          split at h
          · cases h
          · split at h
            · split at h
              · rename_i K x0 cs hi
                cases hq : normAll K.leaves cs with
                | none => rw [hq] at h; cases h
                | some cs' =>
                  rw [hq] at h
                  simp only [Option.bind_some] at h
                  cases hc : s.shutAll (i :: tk) ks vs with
                  | none => rw [hc] at h; cases h
                  | some y => obtain ⟨y1, y2, y3⟩ := y; exact shutAll_full hc v hv'
              · cases h
            · cases h
        | succ o => exact norm h
    | _ => exact norm h

theorem shutAll_len : ∀ {ks : List Kd} {vs cl : List AV} {tk tk' : List Nat} {s s' : St}, s.shutAll tk ks vs = some (cl, tk', s') → vs.length = ks.length
  | [], [], cl, tk, tk', s, s', h => rfl
  | [], _ :: _, cl, tk, tk', s, s', h => by simp [St.shutAll] at h
  | _ :: _, [], cl, tk, tk', s, s', h => by simp [St.shutAll] at h
  | k :: ks, a :: vs, cl, tk, tk', s, s', h => by
    have norm : ((a.norm k).bind fun x => (s.shutAll tk ks vs).bind fun y => some (x :: y.1, y.2)) = some (cl, tk', s') → (a :: vs).length = (k :: ks).length := by
      intro h
      cases hq : a.norm k with
      | none => rw [hq] at h; cases h
      | some x =>
        rw [hq] at h
        simp only [Option.bind_some] at h
        cases hc : s.shutAll tk ks vs with
        | none => rw [hc] at h; cases h
        | some y => obtain ⟨y1, y2, y3⟩ := y; simp [shutAll_len hc]
    cases a with
    | row i =>
      simp only [St.shutAll] at h
      split at h
      · cases h
      · split at h
        · split at h
          · cases hc : s.shutAll (i :: tk) ks vs with
            | none => rw [hc] at h; cases h
            | some y => obtain ⟨y1, y2, y3⟩ := y; simp [shutAll_len hc]
          · cases h
        · cases hk : s.keep (.row i) with
          | none => rw [hk] at h; cases h
          | some x =>
            rw [hk] at h
            simp only [Option.bind_some] at h
            cases hc : x.2.shutAll tk ks vs with
            | none => rw [hc] at h; cases h
            | some y => obtain ⟨y1, y2, y3⟩ := y; simp [shutAll_len hc]
    | ptr i o =>
      cases o with
      | zero =>
        simp only [St.shutAll] at h
        split at h
        · cases h
        · split at h
          · split at h
            · rename_i K x0 cs hi
              cases hq : normAll K.leaves cs with
              | none => rw [hq] at h; cases h
              | some cs' =>
                rw [hq] at h
                simp only [Option.bind_some] at h
                cases hc : s.shutAll (i :: tk) ks vs with
                | none => rw [hc] at h; cases h
                | some y => obtain ⟨y1, y2, y3⟩ := y; simp [shutAll_len hc]
            · cases h
          · cases h
      | succ o => exact norm h
    | _ => exact norm h

theorem leaves_len : ∀ K : Kd, K.leaves.length = K.sz
  | .int _ => rfl
  | .bool => rfl
  | .str => rfl
  | .slice _ => rfl
  | .pair a b => by simp [Kd.leaves, Kd.sz, leaves_len a, leaves_len b]
  | .own _ _ => rfl
  | .ref _ => rfl
  | .fun _ => rfl
  | .clo _ _ => rfl

theorem result_ok {w : World} {φ : Phi} {tmps : Array Value} : ∀ {rs : List Res} {rvs : List ResultVar} {as : List AV} {tk tk' : List Nat} {s s' : St} {H : HP}, SR H φ s.st w → FrR H φ s.st s.fr tmps → s.result tk rs = some (as, tk', s') → ressB P rvs rs = true →
    ∃ H' ids vs, ShutFacts H φ w s s' tk tk' (vs.flatMap fun v => v.cells.toList) (cellsOf as) H' ids ∧ (rvs.mapM (readRes tmps)).run P w = .ok vs w ∧ All2 (fun a v => ∃ K, ∃ x : Kd.T K, a = Kd.av K x ∧ FitV K v ∧ a.cells.length = v.cells.toList.length) as vs
  | [], [], as, tk, tk', s, s', H, hs, hf, h, hb => by
    cases h
    exact ⟨H, [], [], ⟨Step.refl hs, Keeps.refl _ _ _, rfl, rfl, rfl, rfl, fun h => h, fun _ _ => rfl, fun _ _ => rfl, fun m b h => by simp [cellsOf, openB] at h, fun k f _ => rfl⟩, by simp, rfl⟩
  | [], _ :: _, as, tk, tk', s, s', H, hs, hf, h, hb => by simp [ressB] at hb
  | _ :: _, [], as, tk, tk', s, s', H, hs, hf, h, hb => by simp [ressB] at hb
  | r :: rs, rv :: rvs, as, tk, tk', s, s', H, hs, hf, h, hb => by
    simp only [ressB, Bool.and_eq_true] at hb
    simp only [St.result] at h
    cases h1 : s.resCells r with
    | none => rw [h1] at h; cases h
    | some cs =>
      rw [h1] at h
      simp only [Option.bind_some] at h
      cases h2 : s.shutAll tk r.K.leaves cs with
      | none => rw [h2] at h; cases h
      | some y =>
        obtain ⟨cl, t1, s1⟩ := y
        rw [h2] at h
        simp only [Option.bind_some] at h
        cases h3 : r.K.ofCells cl with
        | none => rw [h3] at h; cases h
        | some x =>
          rw [h3] at h
          simp only [Option.bind_some] at h
          cases h4 : s1.result t1 rs with
          | none => rw [h4] at h; cases h
          | some z =>
            obtain ⟨as', t2, s2⟩ := z
            rw [h4] at h
            cases h
            obtain ⟨v, hrun, hv, hfit⟩ := resCells_ok hs hf h1 hb.1 (shutAll_full h2) ((shutAll_len h2).trans (leaves_len _))
            obtain ⟨H1, i1, F1⟩ := shutAll_ok hs hv h2
            have ecl : cl = r.K.enc x := by
              have := dec_enc r.K cl [] x F1.nf (ofCells_dec h3)
              simpa using this
            have hf1 : FrR H1 φ s1.st s1.fr tmps := by rw [F1.fr]; exact hf.mono F1.step.le F1.keeps
            obtain ⟨H2, i2, vs, F2, hrun2, hall⟩ := result_ok F1.step.sr hf1 h4 hb.2
            have hcells : (r.K.av x).cells = cl := by rw [av_cells, ecl]
            refine ⟨H2, i1 ++ i2, v :: vs, ?_, ?_, ⟨v, vs, rfl, ⟨r.K, x, rfl, hfit, ?_⟩, hall⟩⟩
            · have := F1.append F2
              simp only [cellsOf, List.flatMap_cons, hcells] at this ⊢
              exact this
            · rw [List.mapM_cons]
              simp [Sem.run_bind, hrun, hrun2]
            · have := (F1.vals 0 (fun m => i1.getD m 0) fun m i hm => by simp [List.getD, hm]).length
              rw [hcells]
              rw [openC_length] at this
              exact this.symm

theorem shutBoxes_ok {w : World} {φ : Phi} : ∀ {bs : List (Nat × Kd)} {as : List AV} {tk tk' : List Nat} {s s' : St} {H : HP}, SR H φ s.st w → s.shutBoxes tk bs = some (as, tk', s') →
    ∃ (H' : HP) (ids : List Nat) (us : List (List Value)), ShutFacts H φ w s s' tk tk' us.flatten (cellsOO as) H' ids ∧ All2 (fun a u => a.cellsO.length = u.length) as us ∧ as.length = bs.length ∧ (∀ (j : Nat) (v : AV), as[j]? = some v → ∃ p, bs[j]? = some p ∧ p.2.noRef = true ∧ ∃ x : Kd.T p.2, v = Kd.av p.2 x) ∧
      ∀ (j : Nat) (p : Nat × Kd), bs[j]? = some p → (p.2.isOwn = false ∧ varAt s'.st p.1 = true ∧ ∃ (b : Nat) (c : Array Value) (el : TypeId), φ p.1 = .pointer (some ⟨b, 0, none⟩) ∧ w.heap[b]? = some (.cells c el (0, 0)) ∧ us[j]? = some c.toList) ∨
        (∃ (t : TypeId) (e : Kd), ∃ xs : List (Kd.T e), p.2 = .own t e ∧ s'.st[p.1]? = some (Box.mrow t e xs) ∧ as[j]? = some (.new t e xs))
  | [], as, tk, tk', s, s', H, hs, h => by
    cases h
    exact ⟨H, [], [], ⟨Step.refl hs, Keeps.refl _ _ _, rfl, rfl, rfl, rfl, fun h => h, fun _ _ => rfl, fun _ _ => rfl, fun m b h => by simp [cellsOO, openB] at h, fun k f _ => rfl⟩, rfl, rfl, fun j v h => by simp at h, fun j p h => by simp at h⟩
  | (b, K) :: bs, as, tk, tk', s, s', H, hs, h => by
    simp only [St.shutBoxes] at h
    split at h
    · rename_i t e xs hm
      split at h
      · rename_i hK
        subst hK
        cases h4 : s.shutBoxes tk bs with
        | none => rw [h4] at h; cases h
        | some z =>
          obtain ⟨as', t2, s2⟩ := z
          rw [h4] at h
          cases h
          obtain ⟨H2, i2, us, F2, hl, hn, hk, hb⟩ := shutBoxes_ok hs h4
          refine ⟨H2, i2, [] :: us, F2, ⟨[], us, rfl, rfl, hl⟩, by simp [hn], fun j v hj => ?_, fun j p hj => ?_⟩
          · cases j with
            | zero => simp at hj; subst hj; exact ⟨(b, .own t e), rfl, rfl, xs, rfl⟩
            | succ j => simpa using hk j v (by simpa using hj)
          · cases j with
            | zero =>
              simp at hj
              subst hj
              exact .inr ⟨t, e, xs, rfl, by rw [F2.vars b (by simp only [holdAt, hm]; rfl)]; exact hm, rfl⟩
            | succ j => simpa using hb j p (by simpa using hj)
      · cases h
    · rename_i cs hcs
      split at h
      case isFalse => cases h
      rename_i hnr2
      simp only [Bool.and_eq_true, Bool.not_eq_true'] at hnr2
      obtain ⟨hnr, hno⟩ := hnr2
      cases h2 : s.shutAll tk K.leaves cs with
      | none => rw [h2] at h; cases h
      | some y =>
        obtain ⟨cl, t1, s1⟩ := y
        rw [h2] at h
        simp only [Option.bind_some] at h
        cases h3 : K.ofCells cl with
        | none => rw [h3] at h; cases h
        | some x =>
          rw [h3] at h
          simp only [Option.bind_some] at h
          cases h4 : s1.shutBoxes t1 bs with
          | none => rw [h4] at h; cases h
          | some z =>
            obtain ⟨as', t2, s2⟩ := z
            rw [h4] at h
            cases h
            obtain ⟨b0, c, el, e1, e2, e3⟩ := var_cells hs hcs
            obtain ⟨H1, i1, F1⟩ := shutAll_ok hs e3 h2
            have ecl : cl = K.enc x := by
              have := dec_enc K cl [] x F1.nf (ofCells_dec h3)
              simpa using this
            obtain ⟨H2, i2, us, F2, hl, hn, hk, hb⟩ := shutBoxes_ok F1.step.sr h4
            have hcells : (K.av x).cellsO = cl := by rw [(av_cellsO x hno).1, ecl]
            have hlen : cl.length = c.toList.length := by
              have := (F1.vals 0 (fun m => i1.getD m 0) fun m i hm => by simp [List.getD, hm]).length
              rw [openC_length] at this
              exact this.symm
            refine ⟨H2, i1 ++ i2, c.toList :: us, ?_, ⟨c.toList, us, rfl, by simp only [hcells]; exact hlen, hl⟩, by simp [hn], fun j v hj => ?_, fun j p hj => ?_⟩
            · have := F1.append F2
              simp only [cellsOO, List.flatMap_cons, hcells, List.flatten_cons] at this ⊢
              exact this
            · cases j with
              | zero => simp at hj; subst hj; exact ⟨(b, K), rfl, hnr, x, rfl⟩
              | succ j => simpa using hk j v (by simpa using hj)
            · cases j with
              | zero =>
                simp at hj
                subst hj
                refine .inl ⟨hno, ?_, b0, c, el, e1, e2, rfl⟩
                have v0 : varAt s.st b = true := by simp only [varAt, hcs]
                have g1 := F1.vars b (varAt_hold v0)
                have v1 : varAt s1.st b = true := by unfold varAt at v0 ⊢; rw [g1]; exact v0
                have g2 := F2.vars b (varAt_hold v1)
                unfold varAt at v1 ⊢; rw [g2]; exact v1
              | succ j => simpa using hb j p (by simpa using hj)
    · cases h

theorem all2_split {R : AV → Value → Prop} (c : AV → List AV) : ∀ {as : List AV} {us : List (List Value)} {k : Nat}, All2 (fun a u => (c a).length = u.length) as us → All2 R (openC k (as.flatMap c)) us.flatten →
    ∀ (j : Nat) (a : AV) (u : List Value), as[j]? = some a → us[j]? = some u → All2 R (openC (k + newCount ((as.take j).flatMap c)) (c a)) u
  | [], us, k, hl, h, j, a, u, ha, hu => by simp at ha
  | a0 :: as, us, k, ⟨u0, us', e, l0, hl⟩, h, j, a, u, ha, hu => by
    subst e
    simp only [List.flatMap_cons, List.flatten_cons] at h
    rw [openC_append] at h
    have hlen : (openC k (c a0)).length = u0.length := by rw [openC_length]; exact l0
    have h1 : All2 R (openC k (c a0)) u0 := by
      have := h.take (openC k (c a0)).length
      rw [List.take_left, hlen, List.take_left] at this
      exact this
    have h2 : All2 R (openC (k + newCount (c a0)) (as.flatMap c)) us'.flatten := by
      have := h.drop (openC k (c a0)).length
      rw [List.drop_left, hlen, List.drop_left] at this
      exact this
    cases j with
    | zero =>
      simp at ha hu
      subst ha hu
      simpa [newCount] using h1
    | succ j =>
      have := all2_split c hl h2 j a u (by simpa using ha) (by simpa using hu)
      simpa [newCount_append, Nat.add_assoc] using this

theorem enc_nilFree : ∀ (K : Kd) (cs r : List AV) (x : K.T), K.dec cs = some (x, r) → cs.all AV.nilFree = true → (K.enc x).all AV.nilFree = true := by
  intro K cs r x h hn
  have := dec_enc K cs r x hn h
  rw [this, List.all_append, Bool.and_eq_true] at hn
  exact hn.1

def AV.isPtr : AV → Bool
  | .ptr _ _ => true
  | .ref _ => true
  | _ => false
theorem enc_noptr : ∀ (K : Kd) (x : K.T), K.noRef = true → ∀ c ∈ K.enc x, c.isPtr = false
  | .int _, _, _, c, h => by simp [Kd.enc] at h; subst h; rfl
  | .bool, _, _, c, h => by simp [Kd.enc] at h; subst h; rfl
  | .str, _, _, c, h => by simp [Kd.enc] at h; subst h; rfl
  | .slice _, _, _, c, h => by simp [Kd.enc] at h; subst h; rfl
  | .pair a b, x, hn, c, h => by
    simp only [Kd.noRef, Bool.and_eq_true] at hn
    simp only [Kd.enc, List.mem_append] at h
    rcases h with h | h
    · exact enc_noptr a x.1 hn.1 c h
    · exact enc_noptr b x.2 hn.2 c h
  | .own _ _, _, _, c, h => by simp [Kd.enc] at h; subst h; rfl
  | .ref _, _, hn, _, _ => by cases hn
  | .fun _, _, _, c, h => by simp [Kd.enc] at h; subst h; rfl
  | .clo _ _, _, _, c, h => by simp [Kd.enc] at h; subst h; rfl
theorem openC_noptr : ∀ (cs : List AV) (k : Nat), (∀ c ∈ cs, c.isPtr = false) → ∀ a ∈ openC k cs, a.isPtr = false
  | [], k, _, a, h => by simp [openC] at h
  | c :: cs, k, hn, a, h => by
    have h1 := hn c (by simp)
    have ih := fun k => openC_noptr cs k fun c hc => hn c (by simp [hc])
    have key : ∀ (d : AV) (k' : Nat), d.isPtr = false → (a = d ∨ a ∈ openC k' cs) → a.isPtr = false := fun d k' hd h => by
      rcases h with rfl | h
      · exact hd
      · exact ih k' a h
    cases c <;> simp only [openC, List.mem_cons] at h <;> first | exact key _ _ rfl h | exact absurd h1 (by simp [AV.isPtr])

theorem openVs_length : ∀ (vs : List AV) (k : Nat), (openVs k vs).length = vs.length
  | [], _ => rfl
  | v :: r, k => by simp [openVs, openVs_length r]
theorem openVs_get : ∀ (vs : List AV) (k j : Nat) (v : AV), vs[j]? = some v → (openVs k vs)[j]? = some (openV (k + newCount (cellsOf (vs.take j))) v)
  | [], k, j, v, h => by simp at h
  | u :: r, k, 0, v, h => by simp at h; subst h; simp [openVs, cellsOf, newCount]
  | u :: r, k, j + 1, v, h => by
    simp only [openVs, List.getElem?_cons_succ]
    rw [openVs_get r _ j v (by simpa using h)]
    simp [cellsOf, newCount_append, Nat.add_assoc]

/-- A function's end is a call's end. -/
theorem end_ok {H0 H : HP} {φ0 φ : Phi} {w0 w : World} {s s1 s2 : St} {args bs : List AV} {ids : List (Nat × Kd)} {rsv outs : List AV} {t1 t2 : List Nat} {fn : Func} {ress : List Res} {tmps : Array Value}
    (hs : SR H φ s.st w) (hf : FrR H φ s.st s.fr tmps) (hfr : Fr bs.length (exitSt bs args).length H0 φ0 w0 H φ s.st w) (hle : H0.le H)
    (hids : ∀ (j : Nat) (p : Nat × Kd), ids[j]? = some p → p.1 = j) (hbl : bs.length = ids.length)
    (hres : s.result (List.range ids.length) ress = some (rsv, t1, s1)) (hbox : s1.shutBoxes t1 ids = some (outs, t2, s2)) (hrb : ressB P fn.results.toList ress = true) :
    (∀ r ∈ rsv ++ outs, r.cells.all AV.nilFree = true) ∧ ∃ v, (results fn tmps).run P w = .ok v w ∧ CallEnd H0 φ0 w0 args bs outs rsv v w := by
  obtain ⟨H1, i1, vs, F1, hrun, hall⟩ := result_ok (P := P) hs hf hres hrb
  obtain ⟨H2, i2, us, F2, hul, hol, hok, hob⟩ := shutBoxes_ok F1.step.sr hbox
  have hnv : outs.length = bs.length := by rw [hol, hbl]
  -- the callee's boxes, in the caller's order
  let nv := bs.length
  let μ : Nat → Nat := fun k => if k < nv then k else (i2 ++ i1).getD (k - nv) 0
  have μv : ∀ k, k < nv → μ k = k := fun k h => by simp only [μ, h, if_true]
  have μb : ∀ m i, i2[m]? = some i → μ (nv + m) = i := fun m i hm => by
    have hl := (List.getElem?_eq_some_iff.1 hm).1
    simp only [μ, show ¬ nv + m < nv by omega, if_false, Nat.add_sub_cancel_left]
    simp [List.getD, List.getElem?_append_left hl, hm]
  have μr : ∀ m i, i1[m]? = some i → μ (nv + i2.length + m) = i := fun m i hm => by
    simp only [μ, show ¬ nv + i2.length + m < nv by omega, if_false]
    rw [show nv + i2.length + m - nv = i2.length + m by omega]
    simp [List.getD, List.getElem?_append_right, hm]
  have hnd : (t2).Nodup := F2.nd (F1.nd List.nodup_range)
  have ht2 : t2 = i2.reverse ++ (i1.reverse ++ List.range ids.length) := by rw [F2.tks, F1.tks]
  let est := exitSt outs rsv
  let φ2 : Phi := fun k => φ (μ k)
  have hc2 : newCount (cellsOO outs) = i2.length := F2.cnt
  have hc1 : newCount (cellsOf rsv) = i1.length := F1.cnt
  have elen : est.length = nv + i2.length + i1.length := by
    show (exitSt outs rsv).length = _
    rw [exitSt_length, hnv, hc2, hc1]
  -- each box
  have evar : ∀ k, k < nv → (∃ (b : Nat) (c : Array Value) (el : TypeId) (a : AV), φ k = .pointer (some ⟨b, 0, none⟩) ∧ w.heap[b]? = some (.cells c el (0, 0)) ∧ outs[k]? = some a ∧ varAt s2.st k = true ∧
      est[k]? = some (.var (openC (nv + newCount (cellsOO (outs.take k))) a.cellsO)) ∧
      All2 (fun a u => VC H2 φ s2.st (a.ren μ) u ∧ (a.solid = true ∨ ∃ m, m < i2.length ∧ ((∃ t e, ∃ xs : List (Kd.T e), a = .row (nv + m) ∧ (openB (cellsOO outs))[m]? = some (Box.rows t e xs)) ∨ (∃ ecs, a = .ptr (nv + m) 0 ∧ (openB (cellsOO outs))[m]? = some (Box.var ecs)))))
        (openC (nv + newCount (cellsOO (outs.take k))) a.cellsO) c.toList) ∨ (∃ (t : TypeId) (e : Kd), ∃ xs : List (Kd.T e), s2.st[k]? = some (Box.mrow t e xs) ∧ est[k]? = some (Box.mrow t e xs)) := by
    intro k hk
    have hk2 : k < ids.length := by omega
    have hp : ids[k]? = some ids[k] := by simp
    have hk3 : k < outs.length := by omega
    have ha : outs[k]? = some outs[k] := by simp
    have hget : est[k]? = some (boxO (nv + newCount (cellsOO (outs.take k))) outs[k]) := by
      show (exitSt outs rsv)[k]? = _
      rw [exitSt_eq, List.getElem?_append_left (by rw [openVars_length]; exact hk3), openVars_get outs _ k _ ha, hnv]
    rcases hob k _ hp with ⟨hno, g1, b, c, el, e1, e2, e3⟩ | ⟨t, e, xs, hK, g1, g2⟩
    · rw [hids k _ hp] at g1 e1
      refine .inl ⟨b, c, el, outs[k], e1, e2, ha, g1, ?_, all2_split AV.cellsO hul (F2.vals nv μ μb) k _ _ ha e3⟩
      rw [hget]
      obtain ⟨p, hp2, _, x, hx⟩ := hok k _ ha
      rw [hp] at hp2
      cases hp2
      rw [hx, (av_cellsO x hno).2, (av_cellsO x hno).1]
    · rw [hids k _ hp] at g1
      rw [ha] at g2
      refine .inr ⟨t, e, xs, g1, ?_⟩
      rw [hget, Option.some.inj g2]
      rfl
  have erow : ∀ k b, nv ≤ k → est[k]? = some b → BLike s2.st (μ k) b ∧ (i2 ++ i1)[k - nv]? = some (μ k) := by
    intro k b hk hb
    have hb : (exitSt outs rsv)[k]? = some b := hb
    rw [exitSt_eq, List.getElem?_append_right (by rw [openVars_length, hnv]; exact hk), openVars_length, hnv, openB_append] at hb
    rcases Nat.lt_or_ge (k - bs.length) (openB (cellsOO outs)).length with h | h
    · rw [List.getElem?_append_left h] at hb
      obtain ⟨i, g1, g2⟩ := F2.boxes _ b hb
      have e := μb _ i g1
      rw [show nv + (k - bs.length) = k by omega] at e
      rw [e]
      exact ⟨g2, by rw [List.getElem?_append_left (List.getElem?_eq_some_iff.1 g1).1]; exact g1⟩
    · rw [List.getElem?_append_right h] at hb
      obtain ⟨i, g1, g2⟩ := F1.boxes _ b hb
      rw [openB_length, hc2] at h g1
      have e := μr _ i g1
      rw [show nv + i2.length + (k - bs.length - i2.length) = k by omega] at e
      rw [e]
      refine ⟨?_, by rw [List.getElem?_append_right h]; exact g1⟩
      have hh := F2.held i (by rw [F1.tks]; simp [List.mem_of_getElem? g1])
      unfold BLike at g2 ⊢
      rw [hh]
      exact g2
  have rowsE : ∀ m t e (xs : List (Kd.T e)), (openB (cellsOO outs))[m]? = some (Box.rows t e xs) → est[nv + m]? = some (Box.rows t e xs) := by
    intro m t e xs h
    show (exitSt outs rsv)[nv + m]? = _
    have hl := (List.getElem?_eq_some_iff.1 h).1
    rw [exitSt_eq, List.getElem?_append_right (by rw [openVars_length, hnv]; exact Nat.le_add_right _ _), openVars_length, hnv, openB_append, show nv + m - bs.length = m by simp only [nv]; omega, List.getElem?_append_left hl]
    exact h
  have restE : ∀ m b, (openB (cellsOf rsv))[m]? = some b → est[nv + i2.length + m]? = some b := by
    intro m b h
    show (exitSt outs rsv)[nv + i2.length + m]? = _
    rw [exitSt_eq, List.getElem?_append_right (by rw [openVars_length, hnv]; simp only [nv]; omega), openVars_length, hnv, openB_append, List.getElem?_append_right (by rw [openB_length, hc2]; simp only [nv]; omega), openB_length, hc2,
      show nv + i2.length + m - bs.length - i2.length = m by simp only [nv]; omega]
    exact h
  have hs2 := F2.step.sr
  have μt : ∀ k, k < est.length → (k < nv ∧ μ k = k) ∨ (nv ≤ k ∧ (i2 ++ i1)[k - nv]? = some (μ k)) := by
    intro k hk
    rcases Nat.lt_or_ge k nv with h | h
    · exact .inl ⟨h, μv k h⟩
    · exact .inr ⟨h, (erow k est[k] h (by simp)).2⟩
  have μinj : ∀ k k', k < est.length → k' < est.length → μ k = μ k' → k = k' := by
    intro k k' hk hk' e
    have hndl : (i2 ++ i1).Nodup ∧ ∀ i ∈ i2 ++ i1, ¬ i < ids.length := by
      rw [ht2, ← List.append_assoc] at hnd
      have h1 := List.nodup_append.1 hnd
      constructor
      · have h2 := List.nodup_append.1 h1.1
        exact List.nodup_append.2 ⟨(List.reverse_perm i2).nodup_iff.1 h2.1, (List.reverse_perm i1).nodup_iff.1 h2.2.1, fun a ha b hb => h2.2.2 a (by simpa using ha) b (by simpa using hb)⟩
      · intro i hi hlt
        exact h1.2.2 i (by simpa using hi) i (List.mem_range.2 hlt) rfl
    rcases μt k hk with ⟨h1, e1⟩ | ⟨h1, e1⟩ <;> rcases μt k' hk' with ⟨h2, e2⟩ | ⟨h2, e2⟩
    · omega
    · exact absurd (show μ k' < ids.length by rw [← e, e1]; omega) (hndl.2 _ (List.mem_of_getElem? e2))
    · exact absurd (show μ k < ids.length by rw [e, e2]; omega) (hndl.2 _ (List.mem_of_getElem? e1))
    · rw [← e] at e2
      have := (List.getElem?_inj (List.getElem?_eq_some_iff.1 e1).1 hndl.1).1 (e1.trans e2.symm)
      omega
  -- a value of the callee's, in the caller's numbers
  have vcE : ∀ a u, VC H2 φ s2.st (a.ren μ) u → (a.solid = true ∨ (∃ k t e, ∃ xs : List (Kd.T e), a = .row k ∧ est[k]? = some (Box.rows t e xs)) ∨ ∃ k ecs, a = .ptr k 0 ∧ est[k]? = some (Box.var ecs)) → VC H2 φ2 est a u := by
    intro a u hv hc
    rcases hc with h | ⟨k, t, e, xs, rfl, hk⟩ | ⟨k, ecs, rfl, hk⟩
    · rw [ren_solid h] at hv
      exact VC.of_VF (hv.solid h)
    · obtain ⟨e1, _⟩ := hv
      exact ⟨e1, by simp only [kindAt, hk]; rfl⟩
    · obtain ⟨_, b, e1, e2⟩ := hv
      exact ⟨by simp only [varAt, hk], b, e1, e2⟩
  have hbox2 : ∀ k b, est[k]? = some b → BoxR H2 w (φ2 k) b := by
    intro k b hk
    rcases Nat.lt_or_ge k nv with h | h
    · rcases evar k h with ⟨b0, c, el, a, e1, e2, e3, _, e4, e5⟩ | ⟨t, e, xs, e1, e2⟩
      rotate_left
      · rw [hk] at e2
        cases e2
        rw [show φ2 k = φ k by simp only [φ2, μv k h]]
        exact hs2.box k _ e1
      rw [hk] at e4
      cases e4
      obtain ⟨p, hp, hnr, x, hx⟩ := hok k a e3
      refine ⟨b0, c, el, by simp only [φ2, μv k h]; exact e1, e2, e5.impM fun a' ha' u ⟨g1, g2⟩ => ?_⟩
      have hnp := openC_noptr _ _ (by
        intro c hc
        rw [hx] at hc
        by_cases ho : p.2.isOwn = true
        · revert x
          obtain ⟨t, e, ho⟩ := isOwn_ok ho
          rw [ho]
          intro x _ hc
          simp [own_cellsO x] at hc
        · rw [(av_cellsO x (by simpa using ho)).1] at hc
          exact enc_noptr _ _ hnr c hc) a' ha'
      rcases g2 with g2 | ⟨m, _, ⟨t, e, xs, rfl, _⟩ | ⟨ecs, rfl, g3⟩⟩
      · rw [ren_solid g2] at g1
        exact VW.of_VF (g1.solid g2)
      · trivial
      · cases hnp
    · obtain ⟨g1, _⟩ := erow k b h hk
      rcases g1 with ⟨t, e, xs, g2, rfl⟩ | ⟨cs, ecs, g2, rfl, g3, g4⟩
      · exact hs2.box _ _ g2
      · obtain ⟨b0, c, el, e1, e2, e3⟩ := hs2.box _ _ g2
        refine ⟨b0, c, el, e1, e2, all2_of (by rw [e3.length, g3]) fun o a u ha hu => ?_⟩
        obtain ⟨c0, c1, c2, c3, c4⟩ := g4 o a ha
        have hw := e3.at c1 hu
        have hf : VF H2 c0 u := by cases c0 <;> first | exact hw | cases c3
        exact VW.of_VF (c4 H2 u hf)
  have hlive : ∀ (k : Nat) (b2 : Box), est[k]? = some b2 → b2.live = true → blk (φ2 k) = none ∨ ∃ b, s2.st[μ k]? = some b ∧ b.live = true ∧ φ2 k = φ (μ k) := by
    intro k b hk _
    right
    rcases Nat.lt_or_ge k nv with h | h
    · rw [μv k h]
      rcases evar k h with ⟨_, _, _, _, _, _, _, e3, _⟩ | ⟨t, e, xs, e1, _⟩
      · unfold varAt at e3
        split at e3
        · rename_i cs e; exact ⟨_, e, rfl, by simp only [φ2, μv k h]⟩
        · cases e3
      · exact ⟨_, e1, rfl, by simp only [φ2, μv k h]⟩
    · obtain ⟨g1, _⟩ := erow k b h hk
      rcases g1 with ⟨t, e, xs, g2, _⟩ | ⟨cs, ecs, g2, _⟩
      · exact ⟨_, g2, rfl, rfl⟩
      · exact ⟨_, g2, rfl, rfl⟩
  have hsr : SR H2 φ2 est w := by
    refine Step.pick hs2 μ hbox2 hlive (fun k k' b b' hk hk' _ _ _ _ e => μinj k k' (List.getElem?_eq_some_iff.1 hk).1 (List.getElem?_eq_some_iff.1 hk').1 e) (fun k cs hk o i ho => ?_)
    rcases Nat.lt_or_ge k nv with h | h
    · rcases evar k h with ⟨b0, c, el, a, e1, e2, e3, _, e4, e5⟩ | ⟨t, e, xs, _, e2⟩
      rotate_left
      · rw [hk] at e2; cases e2
      rw [hk] at e4
      cases e4
      obtain ⟨u, hu, g1, g2⟩ := e5.get o _ ho
      rcases g2 with g2 | ⟨m, _, ⟨t, e, xs, g3, g4⟩ | ⟨ecs, g3, _⟩⟩
      · cases g2
      · cases g3
        refine ⟨by simp only [kindAt, rowsE m t e xs g4]; rfl, b0, by simp only [φ2, μv k h]; exact e1, ?_⟩
        obtain ⟨g5, _⟩ := g1
        simp only [World.cell?, e2]
        rw [Array.getElem?_toList] at hu
        simp only [Option.isSome_none, Bool.false_eq_true, if_false, hu]
        rw [g5]
      · cases g3
    · obtain ⟨g1, _⟩ := erow k _ h hk
      rcases g1 with ⟨t, e, xs, _, g3⟩ | ⟨cs0, ecs, g2, g3, _, g4⟩
      · cases g3
      · cases g3
        obtain ⟨_, _, g5, _⟩ := g4 o _ ho
        cases g5
  have hfr2 : Fr bs.length (exitSt bs args).length H0 φ0 w0 H2 φ2 est w := by
    have f2 := F2.step.fr _ _ _ _ _ (F1.step.fr _ _ _ _ _ hfr)
    refine ⟨f2.os, f2.tape, f2.output, f2.size, f2.old, fun j hj => ?_, fun i bi hi hl b hb => ?_, fun j hj => ?_, f2.frz⟩
    · have := f2.same j hj
      simp only [φ2, μv j hj]
      exact this
    · rcases hlive i bi hi hl with e | ⟨b1, g1, g2, g3⟩
      · rw [e] at hb; cases hb
      · rw [g3] at hb
        exact f2.new _ b1 g1 g2 b hb
    · rcases evar j hj with ⟨_, _, _, _, _, _, _, _, e4, _⟩ | ⟨t, e, xs, _, e4⟩
      · simp only [holdAt, e4]; rfl
      · simp only [holdAt, e4]; rfl
  have hhan : handed outs = nv + i2.length := by rw [handed_eq, hnv, hc2]
  have hvals : All2 (VB H2 φ2 est) (openVs (handed outs) rsv) vs := by
    rw [hhan]
    have h1 := F1.vals (nv + i2.length) μ μr
    have h2 : All2 (VC H2 φ2 est) (openC (nv + i2.length) (cellsOf rsv)) (vs.map fun v => v.cells.toList).flatten := by
      rw [← List.flatMap_def]
      refine h1.imp fun a u ⟨g1, g2⟩ => vcE a u (g1.mono F2.step.le F2.keeps) ?_
      rcases g2 with g2 | ⟨m, _, ⟨t, e, xs, g3, g4⟩ | ⟨ecs, g3, g4⟩⟩
      · exact .inl g2
      · exact .inr (.inl ⟨_, t, e, xs, g3, restE m _ g4⟩)
      · exact .inr (.inr ⟨_, ecs, g3, restE m _ g4⟩)
    have h3 : All2 (fun a u => a.cells.length = u.length) rsv (vs.map fun v => v.cells.toList) := by
      refine all2_of (by rw [List.length_map, hall.length]) fun j a u ha hu => ?_
      rw [List.getElem?_map] at hu
      obtain ⟨v, hv, _, _, _, _, hl⟩ := hall.get j a ha
      rw [hv] at hu
      cases hu
      exact hl
    refine all2_of (by rw [openVs_length, hall.length]) fun j a v ha hv => ?_
    have hj : j < rsv.length := by rw [← openVs_length rsv (nv + i2.length)]; exact (List.getElem?_eq_some_iff.1 ha).1
    have hr : rsv[j]? = some rsv[j] := by simp
    rw [openVs_get rsv _ j _ hr] at ha
    cases ha
    have h4 := all2_split AV.cells h3 h2 j rsv[j] v.cells.toList hr (by rw [List.getElem?_map, hv]; rfl)
    obtain ⟨v', hv', K, x, hK, hfit, _⟩ := hall.get j _ hr
    rw [hv] at hv'
    cases hv'
    rw [hK] at h4 ⊢
    change All2 _ (openC (nv + i2.length + newCount (cellsOf (List.take j rsv))) _) _ at h4
    generalize nv + i2.length + newCount (cellsOf (List.take j rsv)) = kk at h4 ⊢
    have single : (K.av x).cells = [K.av x] → v.cells = #[v] → openV kk (K.av x) = (openC kk [K.av x]).headD .undef → VB H2 φ2 est (openV kk (K.av x)) v := by
      intro e1 e2 e3
      rw [e1, e2] at h4
      rw [e3]
      cases hq : openC kk [K.av x] with
      | nil => rw [hq] at h4; simp [All2] at h4
      | cons c r =>
        rw [hq] at h4
        obtain ⟨v', r', e, h5, _⟩ := h4
        cases e
        exact VB.of_VC h5
    cases K with
    | pair k l =>
      obtain ⟨arr, rfl⟩ := hfit
      exact ⟨arr, rfl, h4⟩
    | _ => exact single rfl hfit rfl
  have nfs : ∀ {l : List AV}, (cellsOf l).all AV.nilFree = true → ∀ r ∈ l, r.cells.all AV.nilFree = true := by
    intro l h r hr
    refine List.all_eq_true.2 fun c hc => List.all_eq_true.1 h c ?_
    exact List.mem_flatMap.2 ⟨r, hr, hc⟩
  refine ⟨fun r hr => ?_, match vs with | [v] => v | vs => .tuple vs.toArray, ?_, H2, φ2, HP.le_trans hle (HP.le_trans F1.step.le F2.step.le), hsr, hfr2, ?_⟩
  · rcases List.mem_append.1 hr with h | h
    · exact nfs F1.nf r h
    · obtain ⟨j, hj⟩ := List.mem_iff_getElem?.1 h
      obtain ⟨p, _, _, x, hx⟩ := hok j r hj
      by_cases ho : p.2.isOwn = true
      · subst hx
        revert x
        obtain ⟨t, e, ho⟩ := isOwn_ok ho
        rw [ho]
        intro x
        intros
        rfl
      · refine List.all_eq_true.2 fun c hc => List.all_eq_true.1 F2.nf c (List.mem_flatMap.2 ⟨r, h, ?_⟩)
        subst hx
        rw [(av_cellsO x (by simpa using ho)).1]
        rw [av_cells] at hc
        exact hc
  · have hm : (fn.results.mapM (readRes tmps)).run P w = .ok vs.toArray w := by
      rw [Array.mapM_eq_mapM_toList, ← bind_pure_comp, Sem.run_bind, hrun]
      rfl
    have hr : results fn tmps = (fn.results.mapM (readRes tmps)) >>= fun vs => pure (if h : vs.size = 1 then vs[0] else .tuple vs) := by
      unfold results
      first | rfl | (congr 1; done) | (congr 1; congr 1; done) | (congr 1; congr 1; funext rv; cases rv <;> rfl)
    rw [hr, Sem.run_bind, hm]
    cases vs with
    | nil => rfl
    | cons v vs =>
      cases vs with
      | nil => rfl
      | cons v2 vs => rfl
  · cases vs with
    | nil =>
      have : rsv = [] := by
        have := hall.length
        exact List.length_eq_zero_iff.1 (by simpa using this.symm)
      subst this
      exact ⟨_, rfl, rfl⟩
    | cons v vs =>
      cases vs with
      | nil =>
        have h1 : rsv.length = 1 := by have := hall.length; simpa using this.symm
        obtain ⟨a, rfl⟩ := List.length_eq_one_iff.1 h1
        obtain ⟨v', r, e, h2, _⟩ := hvals
        cases e
        exact h2
      | cons v2 vs =>
        have h1 : rsv.length = vs.length + 2 := by have := hall.length; simpa using this.symm
        obtain ⟨a, b, r, rfl⟩ : ∃ a b r, rsv = a :: b :: r := by
          match rsv, h1 with
          | a :: b :: r, _ => exact ⟨a, b, r, rfl⟩
        exact ⟨_, rfl, hvals⟩

def Kd.sol : Kd → Bool
  | .pair a b => a.sol && b.sol
  | .own _ _ | .ref _ => false
  | _ => true
def Kd.okOut : Kd → Bool
  | .pair a b => a.okOut && b.okOut
  | .ref K => K.sol
  | _ => true
theorem enc_sol : ∀ (K : Kd) (x : K.T), K.sol = true → (K.enc x).all (fun c => c.solid && (match c with | .nil => false | _ => true)) = true
  | .int _, _, _ => rfl
  | .bool, _, _ => rfl
  | .str, _, _ => rfl
  | .slice _, _, _ => rfl
  | .pair a b, x, h => by
    simp only [Kd.sol, Bool.and_eq_true] at h
    simp only [Kd.enc, List.all_append, enc_sol a x.1 h.1, enc_sol b x.2 h.2, Bool.and_self]
  | .own _ _, _, h => by cases h
  | .ref _, _, h => by cases h
  | .fun _, _, _ => rfl
  | .clo _ _, _, _ => rfl
theorem enc_okOut : ∀ (K : Kd) (x : K.T), K.okOut = true → (K.enc x).all AV.nilFree = true
  | .int _, _, _ => rfl
  | .bool, _, _ => rfl
  | .str, _, _ => rfl
  | .slice _, _, _ => rfl
  | .pair a b, x, h => by
    simp only [Kd.okOut, Bool.and_eq_true] at h
    simp only [Kd.enc, List.all_append, enc_okOut a x.1 h.1, enc_okOut b x.2 h.2, Bool.and_self]
  | .own _ _, _, _ => rfl
  | .fun _, _, _ => rfl
  | .clo _ _, _, _ => rfl
  | .ref K, x, h => by
    simp only [Kd.enc, List.all_cons, List.all_nil, Bool.and_true, AV.nilFree]
    exact enc_sol K x h

/-- A loaded function against its annotation. -/
def afnB (P : Program) (f : Nat) (a : AFn) : Bool :=
  match P.funcs[f]? with
  | some fn => (match fn.body with
    | some c => !(fn.name == "runtime.NumGoroutine") && codeB P fn.ntmps c a.body && ressB P fn.results.toList a.res && decide (a.params.length ≤ fn.ntmps) && a.outs.all Kd.okOut
    | none => false)
  | none => false

theorem mutKs_get : ∀ (ks : List Kd) (j0 : Nat), (mutKs ks j0).length = ks.length ∧ ∀ (j : Nat) (p : Nat × Kd), (mutKs ks j0)[j]? = some p → p.1 = j0 + j
  | [], j0 => ⟨rfl, fun j p h => by simp [mutKs] at h⟩
  | k :: ks, j0 => by
    obtain ⟨h1, h2⟩ := mutKs_get ks (j0 + 1)
    refine ⟨by simp [mutKs, h1], fun j p h => ?_⟩
    simp only [mutKs] at h
    cases j with
    | zero => simp at h; subst h; rfl
    | succ j => have := h2 j p (by simpa using h); omega

theorem ptrKinds_get : ∀ (ps : List PK) (j0 j : Nat) (p : Nat × Kd), (ptrKinds ps j0)[j]? = some p → p.1 = j0 + j
  | [], j0, j, p, h => by simp [ptrKinds] at h
  | .val _ :: r, j0, j, p, h => ptrKinds_get r j0 j p h
  | .bor _ :: r, j0, j, p, h => ptrKinds_get r j0 j p h
  | .mov _ :: r, j0, j, p, h => ptrKinds_get r j0 j p h
  | .cap _ _ :: r, j0, j, p, h => ptrKinds_get r j0 j p h
  | .cap0 _ :: r, j0, j, p, h => ptrKinds_get r j0 j p h
  | .ptr K :: r, j0, j, p, h => by
    simp only [ptrKinds] at h
    cases j with
    | zero => simp at h; subst h; rfl
    | succ j => have := ptrKinds_get r (j0 + 1) j p (by simpa using h); omega
  | .mut K :: r, j0, j, p, h => by
    simp only [ptrKinds] at h
    obtain ⟨hl, hm⟩ := mutKs_get K.owns j0
    rcases Nat.lt_or_ge j (mutKs K.owns j0).length with h1 | h1
    · rw [List.getElem?_append_left h1] at h; exact hm j p h
    · rw [List.getElem?_append_right h1, hl] at h
      rw [hl] at h1
      have := ptrKinds_get r _ _ p h
      omega

theorem paramsF_get : ∀ (vs : List AV) (i t : Nat), getT (paramsF i vs) t = if i ≤ t ∧ t < i + vs.length then vs.getD (t - i) .undef else .undef
  | [], i, t => by simp [paramsF, getT]
  | v :: vs, i, t => by
    simp only [paramsF, getT]
    by_cases h : i = t
    · subst h
      rw [if_pos rfl, if_pos ⟨Nat.le_refl _, by simp⟩]
      simp
    · rw [if_neg h, paramsF_get vs (i + 1) t]
      by_cases h1 : i + 1 ≤ t ∧ t < i + 1 + vs.length
      · rw [if_pos h1, if_pos ⟨by omega, by simp; omega⟩, show t - i = (t - (i + 1)) + 1 by omega]
        simp
      · rw [if_neg h1, if_neg (by simp; omega)]

theorem result_kd : ∀ {rs : List Res} {as : List AV} {tk tk' : List Nat} {s s' : St}, s.result tk rs = some (as, tk', s') → as.length = rs.length
  | [], as, tk, tk', s, s', h => by cases h; rfl
  | r :: rs, as, tk, tk', s, s', h => by
    simp only [St.result] at h
    cases h1 : s.resCells r with
    | none => rw [h1] at h; cases h
    | some cs =>
      rw [h1] at h
      simp only [Option.bind_some] at h
      cases h2 : s.shutAll tk r.K.leaves cs with
      | none => rw [h2] at h; cases h
      | some y =>
        rw [h2] at h
        simp only [Option.bind_some] at h
        cases h3 : r.K.ofCells y.1 with
        | none => rw [h3] at h; cases h
        | some x =>
          rw [h3] at h
          simp only [Option.bind_some] at h
          cases h4 : y.2.2.result y.2.1 rs with
          | none => rw [h4] at h; cases h
          | some z =>
            obtain ⟨as', t2, s2⟩ := z
            rw [h4] at h
            cases h
            simp [result_kd h4]

/-- A function's body, carried out by the interpreter, is a call. -/
theorem body_ok {cal : Cal} {k f : Nat} {a : AFn} {args bs rs : List AV} (hcal : CallOk P cal) (hb : afnB P f a = true) (hl : args.length = a.params.length ∧ bs.length = (ptrKinds a.params 0).length)
    (h : (bodyK cal k a args bs).map (encAll a.outs) = some rs) : Enters P f ∧ (∀ r ∈ rs, r.cells.all AV.nilFree = true) ∧ ∃ n, n + bs.length = rs.length ∧
    ∀ (H : HP) (φ : Phi) (w : World) (cargs : List Value), SR H φ (exitSt bs args) w → All2 (VB H φ (exitSt bs args)) (openVs (handed bs) args) cargs →
      Calls P f cargs.toArray w fun out w' => match out with
        | .returned v => CallEnd H φ w args bs (rs.drop n) (rs.take n) v w'
        | _ => False := by
  unfold afnB at hb
  split at hb
  case h_2 => cases hb
  rename_i fn hfn
  split at hb
  case h_2 => cases hb
  rename_i c hc
  simp only [Bool.and_eq_true, Bool.not_eq_true', decide_eq_true_eq] at hb
  obtain ⟨⟨⟨⟨hname, hcode⟩, hress⟩, hlen⟩, hout⟩ := hb
  cases hr : bodyK cal k a args bs with
  | none => rw [hr] at h; cases h
  | some r =>
  rw [hr] at h
  simp only [Option.map_some, Option.some.injEq] at h
  subst h
  have hol : a.outs.length = a.res.length + bs.length := by rw [hl.2]; simp [AFn.outs]
  have el : (encAll a.outs r).length = a.outs.length := by
    have : ∀ (Ks : List Kd) (y : RT Ks), (encAll Ks y).length = Ks.length := by
      intro Ks
      induction Ks with
      | nil => intro y; rfl
      | cons K Ks ih =>
        intro y
        cases Ks with
        | nil => rfl
        | cons L Ks => simp only [encAll, List.length_cons] at ih ⊢; rw [ih y.2]
    exact this _ _
  refine ⟨⟨fn, c, hfn, hname, hc⟩, fun q hq => ?_, a.res.length, by rw [el, hol], fun H φ w cargs hs hargs => ?_⟩
  · obtain ⟨j, hj⟩ := List.mem_iff_getElem?.1 hq
    have hjl : j < a.outs.length := by rw [← el]; exact (List.getElem?_eq_some_iff.1 hj).1
    obtain ⟨x, hx⟩ := encAll_kd a.outs r j a.outs[j] (by simp)
    rw [hx] at hj
    cases hj
    rw [av_cells]
    exact enc_okOut _ _ (List.all_eq_true.1 hout _ (List.getElem_mem hjl))
  · have hcl : cargs.length = args.length := by rw [hargs.length, openVs_length]
    have hsz : (cargs.toArray ++ Array.replicate (fn.ntmps - cargs.toArray.size) undef).size = fn.ntmps := by
      simp only [Array.size_append, List.size_toArray, Array.size_replicate]
      omega
    have hf0 : FrR H φ (exitSt bs args) (paramsF 0 (openVs (handed bs) args)) (cargs.toArray ++ Array.replicate (fn.ntmps - cargs.toArray.size) undef) := by
      intro t
      rw [paramsF_get]
      split
      · rename_i ht
        have ht2 : t < (openVs (handed bs) args).length := by omega
        have h1 : (openVs (handed bs) args)[t]? = some (openVs (handed bs) args)[t] := by simp
        obtain ⟨v, hv, hvb⟩ := hargs.get t _ h1
        have e1 : (openVs (handed bs) args).getD (t - 0) .undef = (openVs (handed bs) args)[t] := by simp [List.getD, ht2]
        have ht3 : t < cargs.length := (List.getElem?_eq_some_iff.1 hv).1
        have e2 : (cargs.toArray ++ Array.replicate (fn.ntmps - cargs.toArray.size) undef).getD t undef = v := by
          rw [Array.getD_eq_getD_getElem?, Array.getElem?_append_left (by simpa using ht3)]
          simp only [List.getElem?_toArray, hv, Option.getD_some]
        rw [e1, e2]
        exact VA.of_VB hvb
      · trivial
    have fr0 : Fr bs.length (exitSt bs args).length H φ w H φ (exitSt bs args) w := by
      refine ⟨rfl, rfl, rfl, Nat.le_refl _, fun _ _ _ => rfl, fun _ _ => rfl, fun i bi hi _ b hb => .inr ⟨i, (List.getElem?_eq_some_iff.1 hi).1, hb⟩, fun j hj => ?_, fun _ _ _ => rfl⟩
      have hv : bs[j]? = some bs[j] := by simp
      unfold holdAt
      rw [exitSt_eq, List.getElem?_append_left (by rw [openVars_length]; exact hj), openVars_get bs _ j _ hv]
      generalize bs[j] = v
      cases v <;> rfl
    have fin : EndOk fn.ntmps (retK a) r ⟨paramsF 0 (openVs (handed bs) args), exitSt bs args⟩ { tmps := cargs.toArray ++ Array.replicate (fn.ntmps - cargs.toArray.size) undef, defers := [] } w H φ
        (fun act' w' => act'.defers = [] ∧ ∃ v, (results fn act'.tmps).run P w' = .ok v w' ∧ CallEnd H φ w args bs ((encAll a.outs r).drop a.res.length) ((encAll a.outs r).take a.res.length) v w') := by
      intro s' act' w' H' φ' hk hst hf' hn' hd'
      refine ⟨hd', ?_⟩
      unfold retK at hk
      cases h1 : s'.result (List.range (ptrKinds a.params 0).length) a.res with
      | none => rw [h1] at hk; cases hk
      | some y =>
        obtain ⟨rsv, t1, s1⟩ := y
        rw [h1] at hk
        simp only [Option.bind_some] at hk
        cases h2 : s1.shutBoxes t1 (ptrKinds a.params 0) with
        | none => rw [h2] at hk; cases hk
        | some z =>
          obtain ⟨outs, t2, s2⟩ := z
          rw [h2] at hk
          simp only [Option.bind_some] at hk
          obtain ⟨nf, v, hv, hend⟩ := end_ok (P := P) (args := args) hst.sr hf' (hst.fr _ _ _ _ _ fr0) hst.le (fun j p hp => by have := ptrKinds_get a.params 0 j p hp; omega) hl.2 h1 h2 hress
          have henc := encAll_of _ _ r hk nf
          have hrl := result_kd h1
          rw [henc, ← hrl, List.drop_left, List.take_left]
          exact ⟨v, hv, hend⟩
    have hwp := code_ok (P := P) (n := fn.ntmps) (k := k) hcal a.body c hcode (RT a.outs) (retK a) (retK a) (fun _ _ => none) r ⟨paramsF 0 (openVs (handed bs) args), exitSt bs args⟩
      { tmps := cargs.toArray ++ Array.replicate (fn.ntmps - cargs.toArray.size) undef, defers := [] } w H φ
      (bodyPost P fn fun out w' => match out with
        | .returned v => CallEnd H φ w args bs ((encAll a.outs r).drop a.res.length) ((encAll a.outs r).take a.res.length) v w'
        | _ => False) hs hf0 hsz hr fin fin (fun i s' act' w' H' φ' hk => by cases hk)
    exact calls_of_wp hfn hc hwp

/-- All calls: annotated functions by their bodies, all others by what is known of them. -/
def Tied (P : Program) (fns : Nat → Option AFn) : Prop := ∀ f a, fns f = some a → afnB P f a = true
theorem callK_ok {fns : Nat → Option AFn} {prims : Cal} (ht : Tied P fns) (hp : CallOk P prims) : ∀ k, CallOk P (callK fns prims k)
  | 0 => fun f args bs rs h => by cases h
  | k + 1 => fun f args bs rs h => by
    simp only [callK] at h
    split at h
    · rename_i a ha
      split at h
      · rename_i hl
        exact body_ok (callK_ok ht hp k) (ht f a ha) hl h
      · cases h
    · exact hp f args bs rs h

end Go.Proofs.Ytnbfkndicldppaa.Core
