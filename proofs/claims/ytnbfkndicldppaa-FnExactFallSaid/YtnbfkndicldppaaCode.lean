/- Annotated code against the loaded code. -/
import Derived.Test.YtnbfkndicldppaaDraw
namespace Go.Proofs.Ytnbfkndicldppaa.Core
open Go

variable {P : Program}

theorem older_get {st : List Box} {N k : Nat} {cs : List AV} (h : (st.map (Box.older N))[k]? = some (.var cs)) {o i : Nat} (ho : cs[o]? = some (.row i)) : i < N := by
  rw [List.getElem?_map] at h
  cases hb : st[k]? with
  | none => rw [hb] at h; cases h
  | some b =>
    rw [hb] at h
    cases b with
    | var cs0 =>
      cases h
      rw [List.getElem?_map] at ho
      cases hc : cs0[o]? with
      | none => rw [hc] at ho; cases ho
      | some c =>
        rw [hc] at ho
        simp only [Option.map_some, Option.some.injEq] at ho
        cases c <;> simp only [AV.olderC] at ho <;> try cases ho
        split at ho
        · rename_i hn
          cases ho
          exact hn
        · cases ho
    | _ => cases h

/-- Boxes above are let go of. -/
theorem SR.cut {H : HP} {φ : Phi} {st : List Box} {w : World} (h : SR H φ st w) (N : Nat) : SR H φ ((st.take N).map (Box.older N)) w := by
  have h2 := h.older N
  rw [List.map_take]
  have get : ∀ (i : Nat) (b : Box), ((st.map (Box.older N)).take N)[i]? = some b → (st.map (Box.older N))[i]? = some b := by
    intro i b hi
    rw [List.getElem?_take] at hi
    split at hi
    · exact hi
    · cases hi
  refine ⟨h2.hp, fun i b hi => h2.box i b (get i b hi), fun i j bi bj hi hj => h2.sep i j bi bj (get i bi hi) (get j bj hj), fun i bi hi => h2.out i bi (get i bi hi), fun id cs hid o i ho => ?_⟩
  obtain ⟨h3, h4⟩ := h2.cell id cs (get id _ hid) o i ho
  have hi := older_get (get id _ hid) ho
  refine ⟨?_, h4⟩
  unfold kindAt at h3 ⊢
  rw [List.getElem?_take, if_pos hi]
  exact h3

theorem Step.cut {H H' : HP} {φ φ' : Phi} {st st' : List Box} {w w' : World} (h : Step H φ st w H' φ' st' w') {N : Nat} (hN : st.length ≤ N) : Step H φ st w H' φ' ((st'.take N).map (Box.older N)) w' := by
  refine ⟨h.le, h.sr.cut N, fun mv m0 H0 φ0 w0 f => ?_⟩
  have f2 := h.fr mv m0 H0 φ0 w0 f
  refine { f2 with new := fun i bi hbi hl b hb => ?_, vars := fun j hj => ?_ }
  · rw [List.getElem?_map, List.getElem?_take] at hbi
    split at hbi
    · cases hb0 : st'[i]? with
      | none => rw [hb0] at hbi; cases hbi
      | some b0 =>
        rw [hb0] at hbi
        cases hbi
        exact f2.new i b0 hb0 (by cases b0 <;> exact hl) b hb
    · cases hbi
  · have h1 := holdAt_lt (f.vars j hj)
    have h2 := f2.vars j hj
    rw [holdAt_map (cellsOnly_older N)]
    unfold holdAt at h2 ⊢
    rw [List.getElem?_take, if_pos (by omega)]
    exact h2

theorem FrR.cut {H : HP} {φ : Phi} {st : List Box} {fr : List (Nat × AV)} {tmps : Array Value} (h : FrR H φ st fr tmps) (live : List Nat) (N : Nat) :
    FrR H φ ((st.take N).map (Box.older N)) (live.map fun t => (t, (getT fr t).older N)) tmps := by
  intro t
  rcases getT_live fr (fun a => a.older N) live t with e | e
  · rw [e]; trivial
  · rw [e]; exact (h t).older N

theorem intoRow_len {s s' : St} {i : Nat} {v a : AV} {ids : List Nat} (h : s.intoRow i v = some (a, s', ids)) : s'.st.length = s.st.length := by
  unfold St.intoRow at h
  split at h
  · split at h
    · cases h; rfl
    · split at h
      · split at h
        · cases h; simp
        · cases h
      · cases h
  · split at h
    · cases h; simp
    · cases h
  · cases h

theorem home_ok {H : HP} {φ : Phi} {s : St} {w : World} {tmps : Array Value} (hs : SR H φ s.st w) (hf : FrR H φ s.st s.fr tmps) (n t i : Nat) :
    ∃ φ', Step H φ s.st w H φ' (s.home n t i).st w ∧ FrR H φ' (s.home n t i).st (s.home n t i).fr tmps ∧ (s.home n t i).st.length = s.st.length := by
  have same : ∃ φ', Step H φ s.st w H φ' s.st w ∧ FrR H φ' s.st s.fr tmps ∧ s.st.length = s.st.length := ⟨φ, Step.refl hs, hf, rfl⟩
  unfold St.home
  split
  · rename_i k hk
    split
    · split
      · rename_i x hx
        have hv := hf t
        rw [hk] at hv
        obtain ⟨a, s1, ids⟩ := x
        obtain ⟨φ', h1, _, _, h4, h5, h6⟩ := intoRow_step hs (v := .row k) (u := tmps.getD t undef) hv hx
        exact ⟨φ', h1, FrR.cons (h6 tmps hf) ⟨h5, h4⟩, (intoRow_len hx : s1.st.length = s.st.length)⟩
      · exact same
    · exact same
  · exact same

theorem homes_ok {w : World} {tmps : Array Value} {n : Nat} : ∀ (hs : List (Nat × Nat)) {H : HP} {φ : Phi} {s : St}, SR H φ s.st w → FrR H φ s.st s.fr tmps →
    ∃ φ', Step H φ s.st w H φ' (St.homes n hs s).st w ∧ FrR H φ' (St.homes n hs s).st (St.homes n hs s).fr tmps ∧ (St.homes n hs s).st.length = s.st.length
  | [], H, φ, s, h, hf => ⟨φ, Step.refl h, hf, rfl⟩
  | p :: r, H, φ, s, h, hf => by
    obtain ⟨φ1, a1, a2, a3⟩ := home_ok h hf n p.1 p.2
    obtain ⟨φ2, b1, b2, b3⟩ := homes_ok r a1.sr a2
    exact ⟨φ2, a1.trans b1, b2, b3.trans a3⟩

theorem cutH_ok {H H' : HP} {φ φ' : Phi} {st : List Box} {s' : St} {w w' : World} {tmps : Array Value} (h : Step H φ st w H' φ' s'.st w') (hf : FrR H' φ' s'.st s'.fr tmps) (hs : List (Nat × Nat)) (live : List Nat) {N : Nat} (hN : st.length ≤ N) :
    ∃ φ2, Step H φ st w H' φ2 (s'.cutH hs live N).st w' ∧ FrR H' φ2 (s'.cutH hs live N).st (s'.cutH hs live N).fr tmps := by
  obtain ⟨φ2, a1, a2, _⟩ := homes_ok (n := N) hs h.sr hf
  exact ⟨φ2, (h.trans a1).cut hN, a2.cut live N⟩

/-- A loop, from its head on. -/
def LoopWp (P : Program) (c : Code) (Q : Exit → Act → World → Prop) (a : Act) (w : World) : Prop :=
  ∀ (b : Frame) (k : List Item) (cs : List Frame), ∃ e a' w', Q e a' w' ∧ Arrives P (lone (b.at a (.code c :: .inLoop c :: k)) cs w) b k cs e a' w'

theorem LoopWp.wp {c : Code} {Q : Exit → Act → World → Prop} {a : Act} {w : World} (h : LoopWp P c Q a w) : (Code.loop c).wp P Q a w := by
  intro b k cs
  obtain ⟨e, a', w', hq, harr⟩ := h b k cs
  exact ⟨e, a', w', hq, .of_steps (.one step_loop) harr⟩

theorem LoopWp.round {c : Code} {Q : Exit → Act → World → Prop} {a : Act} {w : World} (h : c.wp P (Exit.then (LoopWp P c Q) Q) a w) : LoopWp P c Q a w := by
  intro b k cs
  obtain ⟨e, a₁, w₁, hq, harr⟩ := h b (.inLoop c :: k) cs
  cases e with
  | normal =>
    obtain ⟨e₂, a₂, w₂, hq₂, harr₂⟩ := hq b k cs
    exact ⟨e₂, a₂, w₂, hq₂, .of_steps (Steps.trans harr (.one step_inLoop)) harr₂⟩
  | exit id => exact ⟨_, a₁, w₁, hq, .pass (x := .inLoop c) rfl (fun _ _ => .inl (by simp)) harr⟩
  | goto l => exact ⟨_, a₁, w₁, hq, .pass (x := .inLoop c) rfl (fun _ _ => .inl (by simp)) harr⟩
  | ret => exact ⟨_, a₁, w₁, hq, .pass (x := .inLoop c) rfl (fun _ _ => .inl (by simp)) harr⟩
  | panic ch => exact ⟨_, a₁, w₁, hq, .pass (x := .inLoop c) rfl (fun _ _ => .inl (by simp)) harr⟩
  | outgrown => exact ⟨_, a₁, w₁, hq, .pass (x := .inLoop c) rfl (fun _ _ => .inl (by simp)) harr⟩

/-- Annotated code against code. -/
def codeB (P : Program) (n : Nat) : Code → ACode → Bool
  | .skip, .skip => true
  | .region _ ops false, .region aos _ => decide (segB P n ops none [] 0 aos = some ops.size)
  | .region _ ops true, .draw anc t _ => drawB P n ops anc t
  | .seq x y, .seq a b => codeB P n x a && codeB P n y b
  | .seq x y, .seqc _ a b => codeB P n x a && codeB P n y b
  | .cond c x y, .cond c' a b => opdB c c' && codeB P n x a && codeB P n y b
  | .block id x, .block id' _ a => id == id' && codeB P n x a
  | .loop x, .loop _ a => codeB P n x a
  | .exit id, .exit id' => id == id'
  | .ret, .ret => true
  | _, _ => false

/-- What is asked of code's end. -/
def EndOk {ρ : Type} (n : Nat) (q : St → Option ρ) (r : ρ) (s : St) (act : Act) (w : World) (H : HP) (φ : Phi) (N : Act → World → Prop) : Prop :=
  ∀ s' act' w' H' φ', q s' = some r → Step H φ s.st w H' φ' s'.st w' → FrR H' φ' s'.st s'.fr act'.tmps → act'.tmps.size = n → act'.defers = act.defers → N act' w'

def CodeOk (P : Program) (n : Nat) (cal : Cal) (k : Nat) (c : Code) (ac : ACode) : Prop :=
  ∀ (ρ : Type) (kn kr : St → Option ρ) (ke : Nat → St → Option ρ) (r : ρ) (s : St) (act : Act) (w : World) (H : HP) (φ : Phi) (Q : Exit → Act → World → Prop),
    SR H φ s.st w → FrR H φ s.st s.fr act.tmps → act.tmps.size = n → codeK cal k ac kn kr ke s = some r →
    EndOk n kn r s act w H φ (Q .normal) → EndOk n kr r s act w H φ (Q .ret) → (∀ i, EndOk n (ke i) r s act w H φ (Q (.exit i))) → c.wp P Q act w

theorem EndOk.step {ρ : Type} {n : Nat} {q : St → Option ρ} {r : ρ} {s s1 : St} {act act1 : Act} {w w1 : World} {H H1 : HP} {φ φ1 : Phi} {N : Act → World → Prop}
    (h : EndOk n q r s act w H φ N) (hst : Step H φ s.st w H1 φ1 s1.st w1) (hd : act1.defers = act.defers) : EndOk n q r s1 act1 w1 H1 φ1 N :=
  fun s' act' w' H' φ' hq hs hf hn hd' => h s' act' w' H' φ' hq (hst.trans hs) hf hn (hd'.trans hd)

theorem region_code {n : Nat} {cal : Cal} {k : Nat} (hcal : CallOk P cal) {id : Nat} {ops : Array Oper} {aos : List AOp} {live : List Nat} (h : segB P n ops none [] 0 aos = some ops.size) :
    CodeOk P n cal k (.region id ops false) (.region aos live) := by
  intro ρ kn kr ke r s act w H φ Q hs hf hn hk hnorm _ _
  simp only [codeK] at hk
  refine region_ok hcal h hs hf hn hk fun s' act' w' H' φ' hk' hst hf' hn' hd' => ?_
  exact hnorm _ act' w' H' φ' hk' hst (hf'.live live) hn' hd'

theorem code_ok {n : Nat} {cal : Cal} {k : Nat} (hcal : CallOk P cal) : ∀ (ac : ACode) (c : Code), codeB P n c ac = true → CodeOk P n cal k c ac := by
  intro ac
  induction ac with
  | skip =>
    intro c h
    cases c <;> first | (simp [codeB] at h; done) | skip
    intro ρ kn kr ke r s act w H φ Q hs hf hn hk h1 _ _
    exact wp_skip (h1 s act w H φ hk (Step.refl hs) hf hn rfl)
  | ret =>
    intro c h
    cases c <;> first | (simp [codeB] at h; done) | skip
    intro ρ kn kr ke r s act w H φ Q hs hf hn hk _ h2 _
    exact wp_ret (h2 s act w H φ hk (Step.refl hs) hf hn rfl)
  | exit id =>
    intro c h
    cases c <;> first | (simp [codeB] at h; done) | skip
    rename_i id'
    simp only [codeB, beq_iff_eq] at h
    subst h
    intro ρ kn kr ke r s act w H φ Q hs hf hn hk _ _ h3
    exact wp_exit (h3 id' s act w H φ hk (Step.refl hs) hf hn rfl)
  | region aos live =>
    intro c h
    cases c <;> first | (simp [codeB] at h; done) | skip
    rename_i id ops draw
    cases draw
    · simp only [codeB, decide_eq_true_eq] at h
      exact region_code hcal h
    · simp [codeB] at h
  | draw anc t live =>
    intro c h
    cases c <;> first | (simp [codeB] at h; done) | skip
    rename_i id ops draw
    cases draw
    · simp [codeB] at h
    · simp only [codeB] at h
      intro ρ kn kr ke r s act w H φ Q hs hf hn hk hnorm _ _
      simp only [codeK] at hk
      exact draw_ok hcal h hs hf hn hk fun s' act' w' H' φ' hk' hst hf' hn' hd' => hnorm _ act' w' H' φ' hk' hst (hf'.live live) hn' hd'
  | seq a b iha ihb =>
    intro c h
    cases c <;> first | (simp [codeB] at h; done) | skip
    rename_i x y
    simp only [codeB, Bool.and_eq_true] at h
    intro ρ kn kr ke r s act w H φ Q hs hf hn hk h1 h2 h3
    simp only [codeK] at hk
    refine wp_seq (iha x h.1 ρ (fun s' => codeK cal k b kn kr ke s') kr ke r s act w H φ _ hs hf hn hk (fun s' act' w' H' φ' hk' hst hf' hn' hd' => ?_) h2 h3)
    exact ihb y h.2 ρ kn kr ke r s' act' w' H' φ' Q hst.sr hf' hn' hk' (h1.step hst hd') (h2.step hst hd') fun i => (h3 i).step hst hd'
  | seqc live a b iha ihb =>
    intro c h
    cases c <;> first | (simp [codeB] at h; done) | skip
    rename_i x y
    simp only [codeB, Bool.and_eq_true] at h
    intro ρ kn kr ke r s act w H φ Q hs hf hn hk h1 h2 h3
    simp only [codeK] at hk
    refine wp_seq (iha x h.1 ρ (fun s' => codeK cal k b kn kr ke (s'.cutH (homesOf s live) live s.st.length)) kr ke r s act w H φ _ hs hf hn hk (fun s' act' w' H' φ' hk' hst hf' hn' hd' => ?_) h2 h3)
    obtain ⟨φ2, hst', hf2⟩ := cutH_ok hst hf' (homesOf s live) live (Nat.le_refl _)
    exact ihb y h.2 ρ kn kr ke r (s'.cutH (homesOf s live) live s.st.length) act' w' H' φ2 Q hst'.sr hf2 hn' hk' (h1.step hst' hd') (h2.step hst' hd') fun i => (h3 i).step hst' hd'
  | cond c' a b iha ihb =>
    intro c h
    cases c <;> first | (simp [codeB] at h; done) | skip
    rename_i co x y
    simp only [codeB, Bool.and_eq_true] at h
    obtain ⟨⟨hc, ha⟩, hb⟩ := h
    intro ρ kn kr ke r s act w H φ Q hs hf hn hk h1 h2 h3
    simp only [codeK] at hk
    cases ht : s.opd c' with
    | bool t =>
      rw [ht] at hk
      simp only at hk
      have hv := (opd_ok hf hc).bool ht
      cases t with
      | true => exact wp_cond_true hv (iha x ha ρ kn kr ke r s act w H φ Q hs hf hn (by simpa using hk) h1 h2 h3)
      | false => exact wp_cond_false hv (ihb y hb ρ kn kr ke r s act w H φ Q hs hf hn (by simpa using hk) h1 h2 h3)
    | _ => rw [ht] at hk; cases hk
  | block id live a iha =>
    intro c h
    cases c <;> first | (simp [codeB] at h; done) | skip
    rename_i id' x
    simp only [codeB, Bool.and_eq_true, beq_iff_eq] at h
    obtain ⟨rfl, h⟩ := h
    intro ρ kn kr ke r s act w H φ Q hs hf hn hk h1 h2 h3
    simp only [codeK] at hk
    have cutOk : EndOk n (fun s' => kn (s'.cutH (homesOf s live) live s.st.length)) r s act w H φ (Q .normal) := fun s' act' w' H' φ' hk' hst hf' hn' hd' => by
      obtain ⟨φ2, hst', hf2⟩ := cutH_ok hst hf' (homesOf s live) live (Nat.le_refl _)
      exact h1 _ act' w' H' φ2 hk' hst' hf2 hn' hd'
    refine wp_block (iha x h ρ (fun s' => kn (s'.cutH (homesOf s live) live s.st.length)) kr (fun i s' => if i = id' then kn (s'.cutH (homesOf s live) live s.st.length) else ke i s') r s act w H φ _ hs hf hn hk cutOk h2 fun i => ?_)
    intro s' act' w' H' φ' hk' hst hf' hn' hd'
    simp only at hk'
    simp only [Exit.inBlock]
    by_cases e : i = id'
    · rw [if_pos e] at hk' ⊢
      exact cutOk s' act' w' H' φ' hk' hst hf' hn' hd'
    · rw [if_neg e] at hk' ⊢
      exact h3 i s' act' w' H' φ' hk' hst hf' hn' hd'
  | loop live a iha =>
    intro c h
    cases c <;> first | (simp [codeB] at h; done) | skip
    rename_i x
    simp only [codeB] at h
    intro ρ kn kr ke r s act w H φ Q hs hf hn hk _ h2 h3
    simp only [codeK] at hk
    have key : ∀ (j : Nat) (s1 : St) (act1 : Act) (w1 : World) (H1 : HP) (φ1 : Phi), s1.st.length ≤ s.st.length → Step H φ s.st w H1 φ1 s1.st w1 → FrR H1 φ1 s1.st s1.fr act1.tmps → act1.tmps.size = n → act1.defers = act.defers →
        loopF j (fun go s' => codeK cal k a (fun s'' => go (s''.cutH (homesOf s live) live s.st.length)) kr ke s') s1 = some r → LoopWp P x Q act1 w1 := by
      intro j
      induction j with
      | zero => intro s1 act1 w1 H1 φ1 _ _ _ _ _ hk; cases hk
      | succ j ihj =>
        intro s1 act1 w1 H1 φ1 hl hst hf1 hn1 hd1 hk
        simp only [loopF] at hk
        refine LoopWp.round (iha x h ρ _ kr ke r s1 act1 w1 H1 φ1 _ hst.sr hf1 hn1 hk (fun s' act' w' H' φ' hk' hst' hf' hn' hd' => ?_) (h2.step hst hd1) fun i => (h3 i).step hst hd1)
        obtain ⟨φ2, hst2, hf2⟩ := cutH_ok hst' hf' (homesOf s live) live hl
        exact ihj (s'.cutH (homesOf s live) live s.st.length) act' w' H' φ2 (by simp [St.cutH, St.cut]; omega) (hst.trans hst2) hf2 hn' (hd'.trans hd1) hk'
    refine (key k (s.cut live s.st.length) act w H φ (by simp [St.cut]) ((Step.refl hs).cut (Nat.le_refl _)) (hf.cut live _) hn rfl hk).wp

end Go.Proofs.Ytnbfkndicldppaa.Core
