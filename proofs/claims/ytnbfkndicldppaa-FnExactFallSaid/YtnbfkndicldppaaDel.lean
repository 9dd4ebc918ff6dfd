/- slices.Delete, of any kind of elements: what a call of it gives. -/
import Derived.Test.YtnbfkndicldppaaIns
set_option linter.unusedVariables false
set_option linter.unusedSimpArgs false
namespace Go.Proofs.Ytnbfkndicldppaa.Core
open Go Go.Shelf Go.RowKit Go.Lib
variable {P : Program} {ρ : Ren}

/-- A row's tail is cleared, of any size of elements. -/
theorem run_clear_sz (w : World) (t e ty : TypeId) (z : Value) (ht : P.underlying t = some (.slice e)) (hz : ∀ w, (zeroValue e).run P w = .ok z w) (g o n c : Nat) (cur : Array Value) (te : TypeId) (hg : w.heap[g]? = some (.cells cur te (0, 0))) (hn : 0 < n)
    (hfit : o + n * z.cells.size ≤ cur.size) (h1 : ∀ v ∈ (Builtin.zeroCells z.cells n).toList, v.oneCell' = true) :
    (Builtin.clear_ #[t] ty #[.slice (some ⟨g, o, none⟩) n c]).run P w = .ok (.tuple #[]) (w.setRow g (cur.toList.take o ++ (Builtin.zeroCells z.cells n).toList ++ cur.toList.drop (o + (Builtin.zeroCells z.cells n).toList.length)).toArray) := by
  have hl : (Builtin.zeroCells z.cells n).toList.length = n * z.cells.size := by rw [Array.length_toList, size_zeroCells]
  have hst := run_storeCells_at P g o te (Builtin.zeroCells z.cells n).toList 0 cur w hg (by rw [hl]; simpa using hfit) h1
  cases n with
  | zero => omega
  | succ n => simp [Builtin.clear_, run_underlying ht, hz, hst]

/-- An append as one step of a region that draws, where its run is known. -/
theorem step_append_runI {ops : Array Oper} {o : Oper} {a : Act} {w : World} {K : Act → World → Prop} {Q : Exit → Act → World → Prop} {E : Prop}
    (hg : o.guard = none) (d x : Operand) (dT sT : TypeId) (hop : o.op = Op.call { callee := Callee.builtin Builtin.append, args := #[d, x], argTypes := #[dT, sT] })
    (v u : Value) (hd : a.eval d = v) (hx : a.eval x = u) {v' : Value} {w' : World} (hr : (Builtin.append_ #[dT, sT] o.type #[v, u]).run P w = .ok v' w') (hK : K (a.put o.dst v') w') :
    if Region.wanted o (yielded ops a.tmps) = true then Oper.wp P o a w K Q else E := by
  have hw : Region.wanted o (yielded ops a.tmps) = true := by simp [Region.wanted, hg]
  rw [if_pos hw]
  unfold Oper.wp
  simp [execOp, hop, resolve, invoke, builtin, hd, hx, hr, Result.andThen]
  exact hK

theorem wpList_clear_runI (w : World) {ops : Array Oper} {rest : List Oper} {o : Oper} {a : Act} {Q : Exit → Act → World → Prop} (hgd : o.guard = none) (s : Operand) (t : TypeId)
    (ho : o.op = .call { callee := .builtin .clear, args := #[s], argTypes := #[t] }) (v : Value) (hs : a.eval s = v) {v' : Value} {w' : World}
    (hr : (Builtin.clear_ #[t] o.type #[v]).run P w = .ok v' w') (h : wpList P ops Q rest (a.put o.dst v') w') : wpList P ops Q (o :: rest) a w :=
  wpList_plain hgd fun K hK => by
    unfold Oper.wp execOp
    simp only [ho, resolve, invoke, builtin, Sem.run_bind, Sem.run_pure, Result.andThen_ok, List.map_toArray, List.map_cons, List.map_nil, hs, hr]
    exact hK _ _ h

set_option maxHeartbeats 8000000 in
set_option maxRecDepth 100000 in
theorem delete_same (L : SlLaysE0.n45 P ρ) (i0 : TypeInfo) (size : Nat) (hi : P.info? (ρ.t 23) = some i0) (hz1 : i0.size = size) (z23 : ∀ w, (Go.sizeOf (ρ.t 23)).run P w = .ok size w) (base : Option Addr) (n cap i : Nat) (w : World) (hin : i ≤ n) (hnc : n ≤ cap) (hcm : cap ≤ maxLen) :
    Calls P (ρ.f 45) #[.slice base n cap, .int .i64 i, .int .i64 i] w fun e w' => e = .returned (.slice base n cap) ∧ w' = w := by
  have mixed := L.mixed; have t0 := L.t0; have a0 := L.a0; have z0 := L.z0; have v0 := L.v0; have t3 := L.t3; have a3 := L.a3; have z3 := L.z3; have v3 := L.v3; have t4 := L.t4; have a4 := L.a4; have z4 := L.z4; have v4 := L.v4; have t22 := L.t22; have a22 := L.a22; have z22 := L.z22; have v22 := L.v22
  obtain ⟨_, _, FG⟩ := L.f45
  go_enter FG, SlBodyN.n45_ntmps ρ
  go_wp2
  all_goals (go_ret; exact ⟨rfl, rfl⟩)

set_option maxHeartbeats 8000000 in
set_option maxRecDepth 100000 in
theorem delete_some (L : SlLaysE0.n45 P ρ) (i0 : TypeInfo) (z : Value) (size bytes : Nat) (hi : P.info? (ρ.t 23) = some i0) (hz0 : i0.zero = some z) (hz1 : i0.size = size) (hzs : z.cells.size = size) (hzo : ∀ v ∈ z.cells.toList, v.oneCell' = true) (hsz : 0 < size)
    (z23 : ∀ w, (Go.sizeOf (ρ.t 23)).run P w = .ok size w) (v23 : ∀ w, (zeroValue (ρ.t 23)).run P w = .ok z w) (g n cap i j : Nat) (cur : Array Value) (w : World) (hg : w.heap[g]? = some (.cells cur (ρ.t 23) (0, 0))) (hcs : cur.size = cap * size) (hij : i < j) (hjn : j ≤ n) (hnc : n ≤ cap) (hcm : cap ≤ maxLen)
    (h1 : ∀ u ∈ cur.toList.take (n * size), u.oneCell' = true) :
    Calls P (ρ.f 45) #[.slice (some ⟨g, 0, none⟩) n cap, .int .i64 i, .int .i64 j] w fun e w' => e = .returned (.slice (some ⟨g, 0, none⟩) (n - (j - i)) cap) ∧
      ∃ cur', w'.heap[g]? = some (.cells cur' (ρ.t 23) (0, 0)) ∧ cur'.size = cap * size ∧ cur'.toList.take ((n - (j - i)) * size) = cur.toList.take (i * size) ++ (cur.toList.take (n * size)).drop (j * size) ∧ w.grownBy w' (some g) := by
  have mixed := L.mixed; have t0 := L.t0; have a0 := L.a0; have z0 := L.z0; have v0 := L.v0; have t3 := L.t3; have a3 := L.a3; have z3 := L.z3; have v3 := L.v3; have t4 := L.t4; have a4 := L.a4; have z4 := L.z4; have v4 := L.v4; have t22 := L.t22; have a22 := L.a22; have z22 := L.z22; have v22 := L.v22
  have hcm' : cap ≤ 9223372036854775807 := hcm
  have hij1 : ¬ ((i : Int) = (j : Int)) := by omega
  have hb1 : (i : Int) ≤ (j : Int) := by omega
  have hb2 : ¬ (cap = 0) := by omega
  have hb3 : (j : Int) ≤ (n : Int) := by omega
  have hb4 : ¬ (cap = i) := by omega
  have e4 : j * size ≤ n * size := Nat.mul_le_mul_right size hjn
  have e5 : n * size ≤ cur.size := by rw [hcs]; exact Nat.mul_le_mul_right size hnc
  have e6 : i * size ≤ j * size := Nat.mul_le_mul_right size (by omega)
  have e3 : (n - j) * size = n * size - j * size := Nat.sub_mul n j size
  have e7 : (i + (n - j)) * size = i * size + (n - j) * size := Nat.add_mul _ _ size
  have hln : cur.toList.length = cur.size := Array.length_toList
  have lm : ((cur.toList.take (n * size)).drop (j * size)).length = (n - j) * size := by rw [List.length_drop, List.length_take, hln, e3]; omega
  have hap : ∀ (A : Addr) (c : Nat), (A = (⟨g, j * size, none⟩ : Addr) ∨ n = j) → ∀ ty, (Builtin.append_ #[(ρ.t 22), (ρ.t 22)] ty #[.slice (some ⟨g, 0, none⟩) i cap, .slice (some A) (n - j) c]).run P w.drew = .ok (.slice (some ⟨g, 0, none⟩) (i + (n - j)) cap) (w.drew.setRow g (cur.toList.take (i * size) ++ (cur.toList.take (n * size)).drop (j * size) ++ cur.toList.drop (i * size + ((cur.toList.take (n * size)).drop (j * size)).length)).toArray) := fun A c hA ty => by
    have := run_append_room (P := P) w.drew (ρ.t 22) ty (ρ.t 23) i0 L.t22 hi g i cap cur hg A (n - j) c ((cur.toList.take (n * size)).drop (j * size)) (by rw [lm, hz1]) (fun k u hk => by
      have hk2 := (List.getElem?_eq_some_iff.1 hk).1
      rw [lm] at hk2
      rcases hA with rfl | rfl
      · rw [Addr.add_none]
        have h5 : w.drew.cell? ⟨g, j * size + k, none⟩ = cur[j * size + k]? := cell_of hg
        rw [h5, ← hk, List.getElem?_drop, List.getElem?_take, if_pos (by omega), Array.getElem?_toList]
      · simp at hk2) (fun u hu => h1 u (List.mem_of_mem_drop hu)) (by omega) (by rw [lm, hz1, e3]; omega)
    rw [hz1] at this
    exact this
  obtain ⟨cur1, hcur1⟩ : ∃ c1, c1 = (cur.toList.take (i * size) ++ (cur.toList.take (n * size)).drop (j * size) ++ cur.toList.drop (i * size + ((cur.toList.take (n * size)).drop (j * size)).length)).toArray := ⟨_, rfl⟩
  rw [← hcur1] at hap
  have hs1 : cur1.size = cap * size := by
    rw [hcur1, List.size_toArray, ← hcs]
    simp only [List.length_append, List.length_take, List.length_drop, hln, lm]
    omega
  have ht1 : cur1.toList.take ((i + (n - j)) * size) = cur.toList.take (i * size) ++ (cur.toList.take (n * size)).drop (j * size) := by
    have l3 : (cur.toList.take (i * size) ++ (cur.toList.take (n * size)).drop (j * size)).length = (i + (n - j)) * size := by
      simp only [List.length_append, List.length_take, hln, lm, e7]
      omega
    rw [hcur1]
    exact (congrArg (fun k => List.take k _) l3.symm).trans (by rw [List.take_left])
  have hg1 : (w.drew.setRow g cur1).heap[g]? = some (.cells cur1 (ρ.t 23) (0, 0)) := setRow_heap w.drew g cur cur1 (ρ.t 23) _ hg
  obtain ⟨d, hd⟩ : ∃ d, d = n - (i + (n - j)) := ⟨_, rfl⟩
  have hdp : 0 < d := by omega
  have e8 : (i + (n - j)) * size + d * size ≤ cur1.size := by rw [hs1, ← Nat.add_mul]; exact Nat.mul_le_mul_right size (by omega)
  have hzc : ∀ v ∈ (Builtin.zeroCells z.cells d).toList, v.oneCell' = true := by
    intro v hv
    simp only [Builtin.zeroCells, Array.toList_map, List.mem_map] at hv
    obtain ⟨k, _, rfl⟩ := hv
    refine hzo _ ?_
    have hk : k % z.cells.size < z.cells.size := Nat.mod_lt _ (by omega)
    rw [getElem!_pos z.cells _ hk]
    exact Array.getElem_mem_toList hk
  have hcl : ∀ ty c, (Builtin.clear_ #[(ρ.t 22)] ty #[.slice (some ⟨g, (i + (n - j)) * size, none⟩) (n - (i + (n - j))) c]).run P (w.drew.setRow g cur1) = .ok (.tuple #[]) ((w.drew.setRow g cur1).setRow g (cur1.toList.take ((i + (n - j)) * size) ++ (Builtin.zeroCells z.cells d).toList ++ cur1.toList.drop ((i + (n - j)) * size + (Builtin.zeroCells z.cells d).toList.length)).toArray) := fun ty c => by
    rw [← hd]
    exact run_clear_sz _ _ (ρ.t 23) ty z L.t22 v23 g _ d c cur1 (ρ.t 23) hg1 hdp (by rw [hzs]; exact e8) hzc
  have lz : (Builtin.zeroCells z.cells d).toList.length = d * size := by rw [Array.length_toList, size_zeroCells, hzs]
  obtain ⟨cur2, hcur2⟩ : ∃ c2, c2 = (cur1.toList.take ((i + (n - j)) * size) ++ (Builtin.zeroCells z.cells d).toList ++ cur1.toList.drop ((i + (n - j)) * size + (Builtin.zeroCells z.cells d).toList.length)).toArray := ⟨_, rfl⟩
  rw [← hcur2] at hcl
  have hs2 : cur2.size = cap * size := by
    rw [hcur2, List.size_toArray, ← hs1]
    simp only [List.length_append, List.length_take, List.length_drop, Array.length_toList, lz]
    rw [Array.length_toList] at lz
    omega
  have ht2 : cur2.toList.take ((i + (n - j)) * size) = cur.toList.take (i * size) ++ (cur.toList.take (n * size)).drop (j * size) := by
    have l4 : (cur1.toList.take ((i + (n - j)) * size)).length = (i + (n - j)) * size := by rw [List.length_take, Array.length_toList]; omega
    rw [hcur2, ← ht1, List.append_assoc]
    exact (congrArg (fun k => List.take k _) l4.symm).trans (by rw [List.take_left])
  have hkn : n - (j - i) = i + (n - j) := by omega
  rw [hkn]
  have hW1s : ((w.drew.setRow g cur1).setRow g cur2).heap[g]? = some (.cells cur2 (ρ.t 23) (0, 0)) := setRow_heap _ g cur1 cur2 _ _ hg1
  have hgr : w.grownBy ((w.drew.setRow g cur1).setRow g cur2) (some g) := by
    refine ⟨rfl, rfl, rfl, by rw [setRow_size2, setRow_size2]; exact Nat.le_refl _, fun k hk hne => ?_⟩
    have hk' : k ≠ g := fun e => hne (by rw [e])
    rw [setRow_other _ g k _ hk', setRow_other _ g k _ hk']
    rfl
  obtain ⟨W1, hW1⟩ : ∃ W1, W1 = w.drew.setRow g cur1 := ⟨_, rfl⟩
  obtain ⟨W2, hW2⟩ : ∃ W2, W2 = W1.setRow g cur2 := ⟨_, rfl⟩
  rw [← hW1, ← hW2] at hcl hW1s hgr
  rw [← hW1] at hap
  have hb6 : ¬ (cap = i + (n - j)) := by omega
  have hb7 : i + (n - j) ≤ n := by omega
  have hb8 : i ≤ cap := by omega
  clear e3 e4 e5 e6 e7 e8 hcur1 hcur2 lm hW1 hW2 hd hkn hs1 ht1 hg1 lz
  obtain ⟨A, hAe, hAd⟩ : ∃ A : Addr, (if cap = j then some (⟨g, 0, none⟩ : Addr) else some ⟨g, j * size, none⟩) = some A ∧ (A = (⟨g, j * size, none⟩ : Addr) ∨ n = j) := by
    by_cases h : cap = j
    · exact ⟨⟨g, 0, none⟩, by simp [h], .inr (by omega)⟩
    · exact ⟨⟨g, j * size, none⟩, by simp [h], .inl rfl⟩
  have hap2 := hap A (cap - j) hAd
  clear hap hAd
  obtain ⟨_, _, FG⟩ := L.f45
  go_enter FG, SlBodyN.n45_ntmps ρ
  go_wp2
  go_region_law_o (refine step_append_runI rfl _ _ (ρ.t 22) (ρ.t 22) rfl _ _ (by simp [Act.eval, Act.put]) (by simp [Act.eval, Act.put, hAe]) (hap2 _) ?_)
  go_wp2_with (at_builtin; refine wpList_clear_runI _ rfl _ (ρ.t 22) rfl _ rfl (hcl _ _) ?_)
  go_ret
  exact ⟨rfl, cur2, hW1s, hs2, ht2, hgr⟩


/-- Behind a call that was given a row, and gives it back. -/
theorem one_one {H : HP} {φ : Phi} {w w' : World} {t : TypeId} {K : Kd} {xs ys : List K.T} {ags : List AV} {v' : Value} {flat : List Value} (hst : exitSt [] (.new t K xs :: ags) = [.rows t K xs])
    (hs : SR H φ (exitSt [] (.new t K xs :: ags)) w) (hg : w.grownBy w' (blk (φ 0))) (hb : ∀ b, blk v' = some b → blk (φ 0) = some b ∨ w.heap.size ≤ b)
    (ho : w'.ownsRow 0 t K.sz v' ys.length flat) (hr : rowRep H K ys flat) : CallEnd H φ w (.new t K xs :: ags) [] [] [.new t K ys] v' w' := by
  have hbx : (exitSt [] (.new t K xs :: ags))[0]? = some (.rows t K xs) := by rw [hst]; rfl
  have hout : ∀ b, blk (φ 0) = some b → H b = none := fun b h => hs.out 0 (.rows t K xs) hbx rfl b h
  have hlt : ∀ b o, H b = some o → b < w.heap.size := fun b o h => (Array.getElem?_eq_some_iff.1 (hs.hp b o h)).1
  refine ⟨H, fun _ => v', HP.le_refl H, ⟨fun b o h => ?_, fun id bx hid => ?_, fun i j bi bj hi hj _ _ hne => ?_, fun i bi hi _ b hv => ?_, fun id cs hid => ?_⟩, ⟨hg.os, hg.tape, hg.output, hg.size, fun b hlt hne => hg.block b hlt (fun e => hne 0 (by rw [hst]; show 0 < 1; omega) e.symm), fun j hj => by simp at hj, fun i bi hi _ b hv => ?_, fun j hj => by simp at hj, fun _ _ _ => rfl⟩, ⟨rfl, rfl⟩⟩
  · rw [hg.block b (hlt b o h) (fun e => by rw [hout b e.symm] at h; cases h)]
    exact hs.hp b o h
  · cases id with
    | zero => cases hid; exact ⟨flat, ho, hr⟩
    | succ k => cases hid
  · cases i with
    | succ k => cases hi
    | zero =>
      cases j with
      | succ k => cases hj
      | zero => exact absurd rfl hne
  · cases hh : H b with
    | none => rfl
    | some o =>
      rcases hb b hv with h | h
      · rw [hout b h] at hh; cases hh
      · have := hlt b o hh; omega
  · cases id with
    | zero => cases hid
    | succ k => cases hid
  · rcases hb b hv with h | h
    · exact .inr ⟨0, (by rw [hst]; show 0 < 1; omega), h⟩
    · exact .inl h

/-- What a call gives: the list without those from one place to another. -/
theorem delete_is {K : Kd} (L : SlLaysE0.n45 P ρ) (he : elB P (ρ.t 23) K = true) {xs : List K.T} {i j : Nat} (hij : i ≤ j) (hj : j ≤ xs.length) :
    CallIs P (ρ.f 45) [.new (ρ.t 23) K xs, .int .i64 i, .int .i64 j] [] [.new (ρ.t 23) K (xs.take i ++ xs.drop j)] := by
  obtain ⟨i0, z, hi0, hz, h1, h2, h3, h4⟩ := elB_spec he
  have hsz := Kd.sz_pos K
  have z23 : ∀ w, (Go.sizeOf (ρ.t 23)).run P w = .ok K.sz w := fun w => by simp [sizeOf, typeInfo, hi0, h1]
  have v23 : ∀ w, (zeroValue (ρ.t 23)).run P w = .ok z w := fun w => by simp [zeroValue, typeInfo, hi0, hz]
  refine ⟨?_, ?_, 1, rfl, fun H φ w cargs hs ha => ?_⟩
  · obtain ⟨nm, hnm, hf⟩ := L.f45
    exact ⟨_, _, hf, hnm, rfl⟩
  · intro r hr
    simp only [List.mem_singleton] at hr
    subst hr
    rfl
  · obtain ⟨v0, r0, rfl, hv0, ha⟩ := ha
    obtain ⟨v1, r1, rfl, hv1, ha⟩ := ha
    obtain ⟨v2, r2, rfl, hv2, ha⟩ := ha
    have hr2 : r2 = [] := ha
    subst hr2
    have e0 : v0 = φ 0 := hv0.1
    have e1 : v1 = .int .i64 i := hv1
    have e2 : v2 = .int .i64 j := hv2
    subst e0 e1 e2
    obtain ⟨flat, ho, hr⟩ := hs.box 0 (.rows (ρ.t 23) K xs) rfl
    have hnew : (xs.take i ++ xs.drop j).length = xs.length - (j - i) := by simp only [List.length_append, List.length_take, List.length_drop]; omega
    have hstk : exitSt [] [AV.new (ρ.t 23) K xs, .int .i64 i, .int .i64 j] = [.rows (ρ.t 23) K xs] := rfl
    by_cases hlt : i = j
    · subst hlt
      obtain ⟨base, n, cap, e0, hnn, hcap, hcm⟩ : ∃ base n cap, φ 0 = .slice base n cap ∧ n = xs.length ∧ n ≤ cap ∧ cap ≤ maxLen := by
        rcases ho.2 with ⟨e, h⟩ | ⟨g, cap, cur, e, _, _, hc, hm, _⟩
        · exact ⟨none, 0, 0, e, h.symm, Nat.le_refl _, Nat.zero_le _⟩
        · exact ⟨_, _, _, e, rfl, hc, hm⟩
      subst hnn
      rw [e0]
      refine Calls.mono (delete_same L i0 K.sz hi0 h1 z23 base _ cap i w hj hcap hcm) fun out w' h => ?_
      obtain ⟨rfl, rfl⟩ := h
      refine one_one hstk hs ⟨rfl, rfl, rfl, Nat.le_refl _, fun _ _ _ => rfl⟩ (fun b hb => .inl (by rw [e0]; exact hb)) (flat := flat) ?_ ?_
      · rw [List.take_append_drop, ← e0]; exact ho
      · rw [List.take_append_drop]; exact hr
    · obtain ⟨g, cap, cur, e0, _, hg, hc, hcm, hsc, ht⟩ := ho.2.resolve_left (fun h => by omega)
      rw [e0]
      have hzo : ∀ v ∈ z.cells.toList, v.oneCell' = true := oneCell_of_rep (h4 H)
      refine Calls.mono (delete_some L i0 z K.sz i0.bytes hi0 hz h1 h3 hzo hsz z23 v23 g xs.length cap i j cur w hg hsc (by omega) hj hc hcm (by rw [ht]; exact rowRep_oneCell hr ho.1)) fun out w' h => ?_
      obtain ⟨rfl, cur', g1, g2, g3, g4⟩ := h
      have htk : cur.toList.take (i * K.sz) = flat.take (i * K.sz) := by
        rw [← ht, List.take_take, Nat.min_eq_left (Nat.mul_le_mul_right _ (by omega))]
      have l1 : (flat.take (i * K.sz)).length = (xs.take i).length * K.sz := by
        have h5 := ho.1
        have h7 : i * K.sz ≤ xs.length * K.sz := Nat.mul_le_mul_right _ (by omega)
        rw [List.length_take, List.length_take, Nat.min_eq_left (show i ≤ xs.length by omega), h5]; omega
      have l2 : (flat.drop (j * K.sz)).length = (xs.drop j).length * K.sz := by rw [List.length_drop, List.length_drop, ho.1, Nat.sub_mul]
      refine one_one hstk hs (by rw [e0]; exact g4) (fun b hb => .inl (by rw [e0]; exact hb)) (flat := flat.take (i * K.sz) ++ flat.drop (j * K.sz)) ?_ (rowRep_append (rowRep_take hr i) l1 (rowRep_drop hr j))
      rw [hnew]
      refine ⟨?_, .inr ⟨g, cap, cur', rfl, Nat.zero_le _, g1, by omega, hcm, g2, by rw [g3, htk, ht]⟩⟩
      rw [List.length_append, l1, l2, ← Nat.add_mul, ← hnew, List.length_append]

def delE (t : TypeId) (K : Kd) (args bs : List AV) : Option (List AV) :=
  match args, bs with
  | [.new t1 K1 xs, .int k i, .int k2 j], [] => if h1 : K1 = K then (if t1 = t ∧ k = .i64 ∧ k2 = .i64 ∧ 0 ≤ i ∧ i ≤ j ∧ j ≤ xs.length then
      some [.new t K ((h1 ▸ xs).take i.toNat ++ (h1 ▸ xs).drop j.toNat)] else none) else none
  | _, _ => none
theorem delE_at {t : TypeId} {K : Kd} {xs : List K.T} {i j : Nat} (hi : i ≤ j) (hj : j ≤ xs.length) : delE t K [.new t K xs, .int .i64 i, .int .i64 j] [] = some [.new t K (xs.take i ++ xs.drop j)] := by
  have h0 : (0 : Int) ≤ (i : Int) := by omega
  have h1 : (i : Int) ≤ (j : Int) := by omega
  have h2 : (j : Int) ≤ (xs.length : Int) := by omega
  simp only [delE, dif_pos, true_and]
  rw [if_pos ⟨h0, h1, h2⟩, Int.toNat_natCast, Int.toNat_natCast]
theorem delE_ok {K : Kd} (L : SlLaysE0.n45 P ρ) (he : elB P (ρ.t 23) K = true) {args bs rs : List AV} (h : delE (ρ.t 23) K args bs = some rs) : CallIs P (ρ.f 45) args bs rs := by
  unfold delE at h
  split at h
  · split at h
    · rename_i hk
      subst hk
      split at h
      · rename_i hc
        obtain ⟨rfl, rfl, rfl, h0, hij, hj⟩ := hc
        cases h
        rename_i i _ j _
        obtain ⟨a, rfl⟩ := Int.eq_ofNat_of_zero_le h0
        obtain ⟨b, rfl⟩ := Int.eq_ofNat_of_zero_le (Int.le_trans h0 hij)
        exact delete_is L he (by omega) (by omega)
      · cases h
    · cases h
  · cases h

end Go.Proofs.Ytnbfkndicldppaa.Core
