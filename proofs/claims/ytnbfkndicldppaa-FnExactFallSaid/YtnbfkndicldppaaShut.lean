/- Cells that leave a function: rows and new variables given away, all else kept for good. -/
import Derived.Test.YtnbfkndicldppaaCode
namespace Go.Proofs.Ytnbfkndicldppaa.Core
open Go

variable {H : HP} {φ : Phi} {st : List Box} {w : World} {P : Program}

/-- A box that is given away, as the caller gets it. -/
def BLike (st : List Box) (i : Nat) (b : Box) : Prop :=
  (∃ (t : TypeId) (e : Kd), ∃ xs : List (Kd.T e), st[i]? = some (Box.rows t e xs) ∧ b = Box.rows t e xs) ∨
  (∃ cs ecs : List AV, st[i]? = some (Box.var cs) ∧ b = Box.var ecs ∧ ecs.length = cs.length ∧ ∀ (o : Nat) (a : AV), ecs[o]? = some a → ∃ c, cs[o]? = some c ∧ a.solid = true ∧ c.solid = true ∧ ∀ (H : HP) (u : Value), VF H c u → VF H a u)

theorem normAll_ok : ∀ {ks : List Kd} {cs cs' : List AV}, normAll ks cs = some cs' → cs'.length = cs.length ∧ (cs'.all fun c => c.solid && (match c with | .nil => false | _ => true)) = true ∧
    ∀ (o : Nat) (a : AV), cs'[o]? = some a → ∃ c, cs[o]? = some c ∧ a.solid = true ∧ c.solid = true ∧ ∀ (H : HP) (u : Value), VF H c u → VF H a u
  | [], [], cs', h => by cases h; exact ⟨rfl, rfl, fun o a h => by simp at h⟩
  | [], _ :: _, cs', h => by simp [normAll] at h
  | _ :: _, [], cs', h => by simp [normAll] at h
  | k :: ks, v :: vs, cs', h => by
    simp only [normAll] at h
    cases h1 : v.norm k with
    | none => rw [h1] at h; cases h
    | some a =>
      rw [h1] at h
      simp only [Option.bind_some] at h
      cases h2 : normAll ks vs with
      | none => rw [h2] at h; cases h
      | some r =>
        rw [h2] at h
        cases h
        obtain ⟨n1, n2, n3, n4⟩ := norm_ok h1
        obtain ⟨l1, l2, l3⟩ := normAll_ok h2
        refine ⟨by simp [l1], ?_, fun o b hb => ?_⟩
        · simp only [List.all_cons, l2, n2, Bool.true_and, Bool.and_true]
          cases a <;> first | rfl | cases n1
        · cases o with
          | zero => simp at hb; subst hb; exact ⟨v, rfl, n2, n3, n4⟩
          | succ o => simpa using l3 o b (by simpa using hb)

theorem keep_other {s s' : St} {a a' : AV} (h : s.keep a = some (a', s')) {i : Nat} (hi : a ≠ .row i) : s'.st[i]? = s.st[i]? := by
  cases a with
  | row id =>
    simp only [St.keep] at h
    split at h
    · cases h
      simp only [List.getElem?_set]
      rw [if_neg (fun e => hi (by rw [e]))]
    · cases h; rfl
    · cases h
  | fn f caps => cases caps <;> first | (cases h; rfl) | cases h
  | _ => first | (cases h; rfl) | cases h
theorem keep_var {s s' : St} {a a' : AV} (h : s.keep a = some (a', s')) {i : Nat} (hi : holdAt s.st i = true) : s'.st[i]? = s.st[i]? := by
  cases a with
  | row id =>
    simp only [St.keep] at h
    split at h
    · rename_i t K xs hb
      cases h
      simp only [List.getElem?_set]
      rw [if_neg (fun e => by subst e; simp only [holdAt, hb] at hi; cases hi)]
    · cases h; rfl
    · cases h
  | fn f caps => cases caps <;> first | (cases h; rfl) | cases h
  | _ => first | (cases h; rfl) | cases h
theorem keep_rowNF {s s' : St} {i : Nat} {a' : AV} (h : s.keep (.row i) = some (a', s')) : a'.nilFree = true ∧ a'.solid = true := by
  simp only [St.keep] at h
  split at h
  · cases h; exact ⟨rfl, rfl⟩
  · cases h; exact ⟨rfl, rfl⟩
  · cases h

structure ShutFacts (H : HP) (φ : Phi) (w : World) (s s' : St) (tk tk' : List Nat) (us : List Value) (cl : List AV) (H' : HP) (ids : List Nat) : Prop where
  step : Step H φ s.st w H' φ s'.st w
  keeps : Keeps φ s.st φ s'.st none
  fr : s'.fr = s.fr
  nf : cl.all AV.nilFree = true
  cnt : newCount cl = ids.length
  tks : tk' = ids.reverse ++ tk
  nd : tk.Nodup → tk'.Nodup
  held : ∀ i ∈ tk, s'.st[i]? = s.st[i]?
  vars : ∀ i, holdAt s.st i = true → s'.st[i]? = s.st[i]?
  boxes : ∀ (m : Nat) (b : Box), (openB cl)[m]? = some b → ∃ i, ids[m]? = some i ∧ BLike s'.st i b
  vals : ∀ (k : Nat) (f : Nat → Nat), (∀ m i, ids[m]? = some i → f (k + m) = i) →
    All2 (fun a u => VC H' φ s'.st (a.ren f) u ∧ (a.solid = true ∨ ∃ m, m < ids.length ∧ ((∃ t e, ∃ xs : List (Kd.T e), a = .row (k + m) ∧ (openB cl)[m]? = some (Box.rows t e xs)) ∨ (∃ ecs, a = .ptr (k + m) 0 ∧ (openB cl)[m]? = some (Box.var ecs))))) (openC k cl) us

theorem ren_solid {a : AV} (h : a.solid = true) (f : Nat → Nat) : a.ren f = a := by cases a <;> first | rfl | cases h

theorem ShutFacts.plain {H : HP} {φ : Phi} {s s1 s' : St} {tk tk' : List Nat} {u : Value} {us : List Value} {cl : List AV} {H1 H' : HP} {ids : List Nat} {a : AV} (F : ShutFacts H1 φ w s1 s' tk tk' us cl H' ids)
    (hst : Step H φ s.st w H1 φ s1.st w) (hk : Keeps φ s.st φ s1.st none) (hfr : s1.fr = s.fr) (hheld : ∀ i ∈ tk, s1.st[i]? = s.st[i]?) (hvars : ∀ i, holdAt s.st i = true → s1.st[i]? = s.st[i]?)
    (hn : a.nilFree = true) (hs : a.solid = true) (hv : VF H1 a u) : ShutFacts H φ w s s' tk tk' (u :: us) (a :: cl) H' ids := by
  have o1 : ∀ k, openC k (a :: cl) = a :: openC k cl := fun k => by cases a <;> first | rfl | cases hs
  have o2 : openB (a :: cl) = openB cl := by cases a <;> first | rfl | cases hs
  have o3 : newCount (a :: cl) = newCount cl := by cases a <;> first | rfl | cases hs
  refine ⟨hst.trans F.step, hk.trans F.keeps, F.fr.trans hfr, by simp [hn, F.nf], by rw [o3]; exact F.cnt, F.tks, F.nd, fun i hi => (F.held i hi).trans (hheld i hi), fun i hi => ?_, by rw [o2]; exact F.boxes, fun k f hf => ?_⟩
  · have h1 := hvars i hi
    rw [F.vars i (by unfold holdAt at hi ⊢; rw [h1]; exact hi), h1]
  · rw [o1, o2]
    exact ⟨u, us, rfl, ⟨by rw [ren_solid hs]; exact VC.of_VF (hv.mono F.step.le), .inl hs⟩, F.vals k f hf⟩

theorem shutAll_ok : ∀ {ks : List Kd} {vs cl : List AV} {tk tk' : List Nat} {s s' : St} {H : HP} {us : List Value}, SR H φ s.st w → All2 (VC H φ s.st) vs us → s.shutAll tk ks vs = some (cl, tk', s') →
    ∃ H' ids, ShutFacts H φ w s s' tk tk' us cl H' ids
  | [], [], cl, tk, tk', s, s', H, us, hs, hv, h => by
    cases h
    cases hv
    exact ⟨H, [], Step.refl hs, Keeps.refl _ _ _, rfl, rfl, rfl, rfl, fun h => h, fun _ _ => rfl, fun _ _ => rfl, fun m b h => by simp [openB] at h, fun k f _ => rfl⟩
  | [], _ :: _, cl, tk, tk', s, s', H, us, hs, hv, h => by simp [St.shutAll] at h
  | _ :: _, [], cl, tk, tk', s, s', H, us, hs, hv, h => by simp [St.shutAll] at h
  | k0 :: ks, v :: vs, cl, tk, tk', s, s', H, us, hs, hv, h => by
    obtain ⟨u, us, rfl, hu, hr⟩ := hv
    have norm : ((v.norm k0).bind fun a => (s.shutAll tk ks vs).bind fun y => some (a :: y.1, y.2)) = some (cl, tk', s') → ∃ H' ids, ShutFacts H φ w s s' tk tk' (u :: us) cl H' ids := by
      intro h
      cases hq : v.norm k0 with
      | none => rw [hq] at h; cases h
      | some a =>
        rw [hq] at h
        simp only [Option.bind_some] at h
        cases hc : s.shutAll tk ks vs with
        | none => rw [hc] at h; cases h
        | some y =>
          obtain ⟨y1, y2, y3⟩ := y
          rw [hc] at h
          cases h
          obtain ⟨n1, n2, n3, n4⟩ := norm_ok hq
          obtain ⟨H', ids, F⟩ := shutAll_ok hs hr hc
          exact ⟨H', ids, F.plain (Step.refl hs) (Keeps.refl _ _ _) rfl (fun _ _ => rfl) (fun _ _ => rfl) n1 n2 (n4 H u (hu.solid n3))⟩
    -- a box is given away
    have away : ∀ (i : Nat) (a : AV) (b : Box) (y : List AV × List Nat × St), hasN tk i = false → s.shutAll (i :: tk) ks vs = some y → (cl, tk', s') = (a :: y.1, y.2) →
        BLike s.st i b → a.nilFree = true → (∀ k r, openC k (a :: r) = (match b with | .var _ => AV.ptr k 0 | _ => AV.row k) :: openC (k + 1) r) → (∀ r, openB (a :: r) = b :: openB r) → (∀ r, newCount (a :: r) = newCount r + 1) →
        (∀ cs, b = .var cs → v = .ptr i 0) → ((∀ cs, b ≠ .var cs) → v = .row i) → ((∀ cs, b ≠ .var cs) → ∃ (t : TypeId) (e : Kd), ∃ xs : List (Kd.T e), b = Box.rows t e xs) → ∃ H' ids, ShutFacts H φ w s s' tk tk' (u :: us) cl H' ids := by
      intro i a b y hn hy e hb hnf o1 o2 o3 e1 e2 e3
      obtain ⟨y1, y2, y3⟩ := y
      cases e
      obtain ⟨H', ids, F⟩ := shutAll_ok hs hr hy
      refine ⟨H', i :: ids, F.step, F.keeps, F.fr, by simp [hnf, F.nf], by rw [o3, F.cnt]; rfl, by rw [F.tks]; simp, fun hnd => F.nd (List.nodup_cons.2 ⟨hasN_false.1 hn, hnd⟩), fun j hj => F.held j (by simp [hj]), F.vars, fun m b' hb' => ?_, fun k f hf => ?_⟩
      · rw [o2] at hb'
        cases m with
        | zero =>
          simp at hb'
          subst hb'
          refine ⟨i, rfl, ?_⟩
          have hh := F.held i (by simp)
          unfold BLike at hb ⊢
          rw [hh]
          exact hb
        | succ m => simpa using F.boxes m b' (by simpa using hb')
      · rw [o1, o2]
        have f0 : f k = i := by simpa using hf 0 i rfl
        refine ⟨u, us, rfl, ⟨?_, .inr ⟨0, by simp, ?_⟩⟩, ?_⟩
        · have hu' := VC.mono F.step.le F.keeps hu
          cases b with
          | var cs =>
            simp only [AV.ren, f0]
            rw [e1 cs rfl] at hu'
            exact hu'
          | _ =>
            simp only [AV.ren, f0]
            rw [e2 (by simp)] at hu'
            exact hu'
        · cases b with
          | var cs => exact .inr ⟨cs, rfl, rfl⟩
          | rows t e xs => exact .inl ⟨t, e, xs, rfl, rfl⟩
          | _ => obtain ⟨_, _, _, e⟩ := e3 (by simp); cases e
        · have := F.vals (k + 1) f fun m j hj => by rw [Nat.add_assoc, Nat.add_comm 1 m]; exact hf (m + 1) j (by simpa using hj)
          refine this.imp fun a' u' ⟨g1, g2⟩ => ⟨g1, ?_⟩
          rcases g2 with g2 | ⟨m, hm, g2⟩
          · exact .inl g2
          · refine .inr ⟨m + 1, by simp; omega, ?_⟩
            rw [show k + (m + 1) = k + 1 + m by omega]
            simpa using g2
    cases v with
    | row i =>
      simp only [St.shutAll] at h
      split at h
      · cases h
      · rename_i hn
        have hn : hasN tk i = false := by simpa using hn
        have kept : ((s.keep (.row i)).bind fun x => (x.2.shutAll tk ks vs).bind fun y => some (x.1 :: y.1, y.2)) = some (cl, tk', s') → ∃ H' ids, ShutFacts H φ w s s' tk tk' (u :: us) cl H' ids := by
          intro h
          cases hk : s.keep (.row i) with
          | none => rw [hk] at h; cases h
          | some x =>
            obtain ⟨a1, s1⟩ := x
            rw [hk] at h
            simp only [Option.bind_some] at h
            cases hc : s1.shutAll tk ks vs with
            | none => rw [hc] at h; cases h
            | some y =>
              obtain ⟨y1, y2, y3⟩ := y
              rw [hc] at h
              cases h
              obtain ⟨H1, g1, k1, f1, r1, _⟩ := keep_step hs hu hk
              obtain ⟨H', ids, F⟩ := shutAll_ok g1.sr (hr.imp fun _ _ h => h.mono g1.le k1) hc
              obtain ⟨n1, n2⟩ := keep_rowNF hk
              refine ⟨H', ids, F.plain g1 k1 r1 (fun j hj => keep_other hk fun e => ?_) (fun j hj => keep_var hk hj) n1 n2 f1⟩
              cases e
              exact hasN_false.1 hn hj
        split at h
        · split at h
          · rename_i t e xs hi
            cases hc : s.shutAll (i :: tk) ks vs with
            | none => rw [hc] at h; cases h
            | some y =>
              rw [hc] at h
              simp only [Option.bind_some, Option.some.injEq] at h
              exact away i (.new t e xs) (.rows t e xs) y hn hc h.symm (.inl ⟨t, e, xs, hi, rfl⟩) rfl (fun k r => rfl) (fun r => rfl) (fun r => by simp [newCount, AV.isNew]) (fun cs e => by cases e) (fun _ => rfl) (fun _ => ⟨t, e, xs, rfl⟩)
          · cases h
        · exact kept h
    | ptr i o =>
      cases o with
      | zero =>
        simp only [St.shutAll] at h
        split at h
        · cases h
        · rename_i hn
          have hn : hasN tk i = false := by simpa using hn
          split at h
          · split at h
            · rename_i K x0 cs hi
              cases hq : normAll K.leaves cs with
              | none => rw [hq] at h; cases h
              | some cs' =>
                rw [hq] at h
                simp only [Option.bind_some] at h
                cases hc : s.shutAll (i :: tk) ks vs with
                | none => rw [hc] at h; cases h
                | some y =>
                  rw [hc] at h
                  simp only [Option.bind_some, Option.some.injEq] at h
                  obtain ⟨l1, l2, l3⟩ := normAll_ok hq
                  exact away i (.ref cs') (.var cs') y hn hc h.symm (.inr ⟨cs, cs', hi, rfl, l1, l3⟩) l2 (fun k r => rfl) (fun r => rfl) (fun r => by simp [newCount, AV.isNew]) (fun _ _ => rfl) (fun h => absurd rfl (h cs')) (fun h => absurd rfl (h cs'))
            · cases h
          · cases h
      | succ o => exact norm h
    | _ => exact norm h

theorem shutAll_append : ∀ {k1 k2 : List Kd} {v1 v2 c1 c2 : List AV} {tk t1 t2 : List Nat} {s s1 s2 : St}, s.shutAll tk k1 v1 = some (c1, t1, s1) → s1.shutAll t1 k2 v2 = some (c2, t2, s2) →
    s.shutAll tk (k1 ++ k2) (v1 ++ v2) = some (c1 ++ c2, t2, s2)
  | [], k2, [], v2, c1, c2, tk, t1, t2, s, s1, s2, h, g => by cases h; exact g
  | [], k2, _ :: _, v2, c1, c2, tk, t1, t2, s, s1, s2, h, g => by simp [St.shutAll] at h
  | _ :: _, k2, [], v2, c1, c2, tk, t1, t2, s, s1, s2, h, g => by simp [St.shutAll] at h
  | k :: k1, k2, v :: v1, v2, c1, c2, tk, t1, t2, s, s1, s2, h, g => by
    have norm : ((v.norm k).bind fun a => (s.shutAll tk k1 v1).bind fun y => some (a :: y.1, y.2)) = some (c1, t1, s1) →
        ((v.norm k).bind fun a => (s.shutAll tk (k1 ++ k2) (v1 ++ v2)).bind fun y => some (a :: y.1, y.2)) = some (c1 ++ c2, t2, s2) := by
      intro h
      cases hq : v.norm k with
      | none => rw [hq] at h; cases h
      | some a =>
        rw [hq] at h
        simp only [Option.bind_some] at h ⊢
        cases hc : s.shutAll tk k1 v1 with
        | none => rw [hc] at h; cases h
        | some y =>
          obtain ⟨y1, y2, y3⟩ := y
          rw [hc] at h
          cases h
          rw [shutAll_append hc g]
          rfl
    cases v with
    | row i =>
      simp only [List.cons_append, St.shutAll] at h ⊢
      split at h
      · cases h
      · rename_i hn
        rw [if_neg hn]
        split at h
        · split at h
          · rename_i t e xs hi
            cases hc : s.shutAll (i :: tk) k1 v1 with
            | none => rw [hc] at h; cases h
            | some y =>
              obtain ⟨y1, y2, y3⟩ := y
              rw [hc] at h
              cases h
              simp only [hi, shutAll_append hc g]
              rfl
          · cases h
        · rename_i hno
          cases hk : s.keep (.row i) with
          | none => rw [hk] at h; cases h
          | some x =>
            rw [hk] at h
            simp only [Option.bind_some] at h
            cases hc : x.2.shutAll tk k1 v1 with
            | none => rw [hc] at h; cases h
            | some y =>
              obtain ⟨y1, y2, y3⟩ := y
              rw [hc] at h
              cases h
              cases k <;> first | exact (hno _ _ rfl).elim | (simp only [hk, Option.bind_some, shutAll_append hc g]; rfl)
    | ptr i o =>
      cases o with
      | zero =>
        simp only [List.cons_append, St.shutAll] at h ⊢
        split at h
        · cases h
        · rename_i hn
          rw [if_neg hn]
          split at h
          · split at h
            · rename_i K x0 cs hi
              cases hq : normAll K.leaves cs with
              | none => rw [hq] at h; cases h
              | some cs' =>
                rw [hq] at h
                simp only [Option.bind_some] at h
                cases hc : s.shutAll (i :: tk) k1 v1 with
                | none => rw [hc] at h; cases h
                | some y =>
                  obtain ⟨y1, y2, y3⟩ := y
                  rw [hc] at h
                  cases h
                  simp only [hi, hq, Option.bind_some, shutAll_append hc g]
                  rfl
            · cases h
          · cases h
      | succ o => exact norm h
    | _ => exact norm h

end Go.Proofs.Ytnbfkndicldppaa.Core
