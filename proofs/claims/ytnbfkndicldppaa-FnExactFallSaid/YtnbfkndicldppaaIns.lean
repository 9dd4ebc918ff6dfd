/- slices.Insert, of any kind of elements: what a call of it gives. -/
import Derived.Test.YtnbfkndicldppaaPrim
import Derived.Shelf.Lays2
import Derived.Lib.JoinLaws
import Derived.Lib.AppendZeros
import Derived.Lib.Overlaps
import Derived.Laws.Externs
import Derived.Laws.IdiomCopy
import Derived.Laws.CopyRow
import Derived.Maps.AppendAt
import Derived.Shelf.Small.Strs
import Derived.Shelf.Spec.SlicesInsert
set_option linter.unusedVariables false
set_option linter.unusedSimpArgs false
namespace Go.Proofs.Ytnbfkndicldppaa.Core
open Go Go.Shelf Go.RowKit Go.Lib
variable {P : Program} {ρ : Ren}

/-- Cells are copied into a row, of any size of elements. -/
theorem run_copy_sz (w : World) (dT sT ty elem : TypeId) (g o dLen dCap : Nat) (a : Addr) (sLen sCap : Nat) (cur : Array Value) (t : TypeId) (cs : List Value) (k : Nat) (i : TypeInfo)
    (hu : P.underlying dT = some (.slice elem)) (hi : P.info? elem = some i) (hg : w.heap[g]? = some (.cells cur t (0, 0))) (hk : Nat.min sLen dLen = k) (hn : cs.length = k * i.size)
    (hsrc : ∀ j v, cs[j]? = some v → w.cell? (a.add j) = some v) (hfit : o + cs.length ≤ cur.size) (h1 : ∀ v ∈ cs, v.oneCell' = true) :
    (Builtin.copy_ #[dT, sT] ty #[.slice (some ⟨g, o, none⟩) dLen dCap, .slice (some a) sLen sCap]).run P w =
      .ok (goInt k) (w.setRow g (cur.toList.take o ++ cs ++ cur.toList.drop (o + cs.length)).toArray) := by
  have hl := run_loadCells_list (P := P) w a cs hsrc
  have hst := run_storeCells_at P g o t cs 0 cur w hg (by simpa using hfit) h1
  simp [Builtin.copy_, run_underlying hu, Builtin.lenOf, Builtin.firstCells, sizeOf, typeInfo, hi, hk, ← hn, hl, hst]

/-- A row is copied to a larger place, zeros behind it. -/
theorem run_append_zeros (w : World) (t tn ty e : TypeId) (i : TypeInfo) (z : Value) (kn : IntKind) (ht : P.underlying t = some (.slice e)) (htn : P.underlying tn = some (.int kn)) (hi : P.info? e = some i) (hz : i.zero = some z)
    (b : Addr) (sLen sCap : Nat) (olds : List Value) (hlo : olds.length = sLen * i.size) (holds : ∀ j v, olds[j]? = some v → w.cell? (b.add j) = some v) (n : Nat) (h0 : 0 < n) (hs : 0 < i.size)
    (hg : sCap < sLen + n) (h63 : ((sLen + n : Nat) : Int) ≤ 9223372036854775807) (h48 : n * i.bytes ≤ 281474976710656) (hfit : Builtin.nextslicecap (sLen + n) sCap * i.bytes ≤ 281474976710656) (k : IntKind) :
    (Builtin.append_ #[t, tn] ty #[.slice (some b) sLen sCap, .int k n]).run P w =
      .ok (.slice (some ⟨w.heap.size, 0, none⟩) (sLen + n) (grownCap w (sLen + n) sCap e))
        (w.drew.alloc (.cells (olds.toArray ++ Builtin.zeroCells z.cells n ++ Builtin.zeroCells z.cells (grownCap w (sLen + n) sCap e - (sLen + n))) e)) := by
  have hn : ¬ (sLen + n ≤ sCap) := by omega
  have hw : IntKind.i64.wrap (n : Int) = n := by rw [IntKind.wrap_i64]; omega
  have h63' : ¬ (9223372036854775807 < ((sLen : Int) + (n : Int))) := by omega
  have h48' : ¬ (281474976710656 < Builtin.nextslicecap (sLen + n) sCap * i.bytes) := by omega
  have h48i : ¬ (281474976710656 < (n : Int) * (i.bytes : Int)) := by
    rw [← Int.natCast_mul]
    omega
  have hneg : ¬ ((n : Int) < 0) := by omega
  have hn0 : n ≠ 0 := by omega
  have hns : ¬ (n * i.size = 0) := Nat.mul_ne_zero hn0 (by omega)
  have hfo := run_firstCells_some (P := P) w.drew i.size sLen b sLen sCap olds hlo (by simpa using holds)
  simp [Builtin.append_, run_underlying ht, run_underlying htn, sizeOf, typeInfo, zeroValue, hi, hz, asInt, asIntOf, hw, hn, hn0, hneg, hns, h63', h48', h48i, Question.forced, hfo, newRow, grownCap]
  try (congr 2; apply Array.ext'; simp [List.append_assoc])

/-- What is asked of the program for slices.Insert at some kind of elements. -/
structure InsL (P : Program) (ρ : Ren) : Prop where
  mixed : P.follows .mixedOrders = true
  f22 : Bears P (ρ.f 22) (Body2.n22 ρ)
  ov : ∀ args w, (callFunc (ρ.f 29) args).run P w = ((Extern.SlicesOverlaps.overlaps #[(ρ.t 24), (ρ.t 24)] #[(ρ.t 4)] args).run P w).andThen fun v w' => .ok (.value v) w'
  t3 : P.underlying (ρ.t 3) = some (TypeDesc.int IntKind.i64)
  a3 : ∀ w, (isAgg (ρ.t 3)).run P w = .ok false w
  z3 : ∀ w, (Go.sizeOf (ρ.t 3)).run P w = .ok 1 w
  v3 : ∀ w, (zeroValue (ρ.t 3)).run P w = .ok (Value.int IntKind.i64 0) w
  t4 : P.underlying (ρ.t 4) = some (TypeDesc.bool)
  a4 : ∀ w, (isAgg (ρ.t 4)).run P w = .ok false w
  z4 : ∀ w, (Go.sizeOf (ρ.t 4)).run P w = .ok 1 w
  v4 : ∀ w, (zeroValue (ρ.t 4)).run P w = .ok (Value.bool false) w
  t24 : P.underlying (ρ.t 24) = some (TypeDesc.slice (ρ.t 9))
  a24 : ∀ w, (isAgg (ρ.t 24)).run P w = .ok false w
  z24 : ∀ w, (Go.sizeOf (ρ.t 24)).run P w = .ok 1 w
  v24 : ∀ w, (zeroValue (ρ.t 24)).run P w = .ok (Value.slice none 0 0) w

set_option maxHeartbeats 4000000 in
set_option maxRecDepth 100000 in
/-- At the end: an append. -/
theorem insert_end (L : InsL P ρ) (i0 : TypeInfo) (z : Value) (size bytes : Nat) (hi : P.info? (ρ.t 9) = some i0) (hz0 : i0.zero = some z) (hz1 : i0.size = size) (hz2 : i0.bytes = bytes) (hzs : z.cells.size = size) (hsz : 0 < size)
    (z9 : ∀ w, (Go.sizeOf (ρ.t 9)).run P w = .ok size w) (v : Value) (base : Option Addr) (n cap : Nat) (hv : v = .slice base n cap) (xs : List Value) (w : World) (hown : w.ownsRow 0 (ρ.t 9) size v n xs) (ad : Addr) (m vc : Nat) (news : List Value) (hm : 0 < m)
    (hl : news.length = m * size) (hn : n + m ≤ maxLen) (hbig : (n + m) * bytes ≤ 140737488355328) (hnews : ∀ j u, news[j]? = some u → w.cell? (ad.add j) = some u) (h1 : ∀ u ∈ news, u.oneCell' = true) :
    Calls P (ρ.f 22) #[v, .int .i64 n, .slice (some ad) m vc] w fun e w' => ∃ v', e = .returned v' ∧ w'.ownsRow 0 (ρ.t 9) size v' (n + m) (xs ++ news) ∧ w.grownBy w' v.ownBlock ∧ (v'.ownBlock = v.ownBlock ∨ v'.ownBlock = some w.heap.size) := by
  subst hv
  have mixed := L.mixed; have t3 := L.t3; have a3 := L.a3; have z3 := L.z3; have v3 := L.v3; have t4 := L.t4; have a4 := L.a4; have z4 := L.z4; have v4 := L.v4; have t24 := L.t24; have a24 := L.a24; have z24 := L.z24; have v24 := L.v24
  have u3 := run_underlying L.t3; have u4 := run_underlying L.t4; have u24 := run_underlying L.t24
  have hz1' : ¬ ((m : Int) = 0) := by omega
  have hob : ∀ c, (Value.slice base n c).ownBlock = (Value.slice base n cap).ownBlock := fun c => by cases base <;> rfl
  have hcap : n ≤ cap := by
    rcases hown.2 with ⟨e, e2⟩ | ⟨g, c, cur, e, _, _, h, _⟩
    · omega
    · cases e; exact h
  have A : Aside (∀ j u, news[j]? = some u → w.cell? (ad.add j) = some u) := hnews
  clear hnews
  obtain ⟨_, _, FG⟩ := L.f22
  go_enter FG, Body2.n22_ntmps ρ
  go_wp2_with (at_builtin; refine wpList_append_own_at _ rfl _ _ (ρ.t 24) rfl 0 (ρ.t 9) i0 z size bytes t24 hi hz0 hz1 hz2 hzs hsz _ _ _ rfl hown ad m vc news rfl ?qc1 ?qc2 ?qc3 ?qc4 ?qc5 ?qc6 ?_)
  all_goals first
    | exact hl
    | exact A.out
    | exact h1
    | exact hn
    | exact hbig
    | exact Nat.zero_le _
    | (intro v' w1 ho hgrow hnil hblk
       go_wp2
       go_ret
       exact ⟨v', rfl, ho, by rw [← hob]; exact hgrow, by rw [← hob]; exact hblk⟩)

theorem ins_list {α : Type} (c V : List α) (I M N : Nat) (hI : I ≤ N) (hV : V.length = M) (hN : N + M ≤ c.length) :
    (((c.take (I + M) ++ (c.take N).drop I ++ c.drop (I + M + (N - I))).take I ++ V ++ (c.take (I + M) ++ (c.take N).drop I ++ c.drop (I + M + (N - I))).drop (I + M)).take (N + M)) = c.take I ++ V ++ (c.take N).drop I := by
  have l1 : (c.take (I + M)).length = I + M := by rw [List.length_take]; omega
  have l2 : ((c.take N).drop I).length = N - I := by rw [List.length_drop, List.length_take]; omega
  have e1 : (c.take (I + M) ++ (c.take N).drop I ++ c.drop (I + M + (N - I))).take I = c.take I := by
    rw [List.append_assoc, List.take_append_of_le_length (by omega), List.take_take, Nat.min_eq_left (by omega)]
  have e2 : (c.take (I + M) ++ (c.take N).drop I ++ c.drop (I + M + (N - I))).drop (I + M) = (c.take N).drop I ++ c.drop (I + M + (N - I)) := by
    rw [List.append_assoc, List.drop_append_of_le_length (by omega), List.drop_of_length_le (by omega), List.nil_append]
  rw [e1, e2, ← List.append_assoc]
  have l3 : (c.take I ++ V ++ (c.take N).drop I).length = N + M := by simp only [List.length_append, l2, hV, List.length_take]; omega
  rw [List.take_append_of_le_length (by omega), ← l3, List.take_length]

theorem setRow_size2 (w : World) (g : Nat) (c : Array Value) : (w.setRow g c).heap.size = w.heap.size := by
  unfold World.setRow
  exact Array.size_modify

theorem shape_of {w : World} {b : Nat} {c : Array Value} {t : TypeId} {fz : Nat × Nat} (h : w.heap[b]? = some (.cells c t fz)) : w.shape? b = some (t, c.size) := by simp [World.shape?, h]
theorem frozen_of {w : World} {b o : Nat} {c : Array Value} {t : TypeId} (h : w.heap[b]? = some (.cells c t (0, 0))) : w.frozen? ⟨b, o, none⟩ = false := by simp [World.frozen?, h]
theorem cell_of {w : World} {b o : Nat} {c : Array Value} {t : TypeId} {fz : Nat × Nat} (h : w.heap[b]? = some (.cells c t fz)) : w.cell? ⟨b, o, none⟩ = c[o]? := by simp [World.cell?, h]

set_option maxHeartbeats 8000000 in
set_option maxRecDepth 100000 in
/-- In the middle, in place. -/
theorem insert_shift (L : InsL P ρ) (i0 : TypeInfo) (z : Value) (size bytes : Nat) (hi : P.info? (ρ.t 9) = some i0) (hz0 : i0.zero = some z) (hz1 : i0.size = size) (hz2 : i0.bytes = bytes) (hzs : z.cells.size = size) (hsz : 0 < size)
    (z9 : ∀ w, (Go.sizeOf (ρ.t 9)).run P w = .ok size w) (g n cap i : Nat) (cur : Array Value) (w : World) (hg : w.heap[g]? = some (.cells cur (ρ.t 9) (0, 0))) (hcs : cur.size = cap * size) (hin : i < n) (vb m vc : Nat) (vcur : Array Value) (hgv : w.heap[vb]? = some (.cells vcur (ρ.t 9) (0, 0))) (hvb : vb ≠ g)
    (hm : 0 < m) (hroom : n + m ≤ cap) (hcm : cap ≤ maxLen) (hvl : m * size ≤ vcur.size) (h1 : ∀ u ∈ cur.toList.take (n * size), u.oneCell' = true) (h1v : ∀ u ∈ vcur.toList.take (m * size), u.oneCell' = true) (hkB : cur.size ≠ 0) :
    Calls P (ρ.f 22) #[.slice (some ⟨g, 0, none⟩) n cap, .int .i64 i, .slice (some ⟨vb, 0, none⟩) m vc] w fun e w' => e = .returned (.slice (some ⟨g, 0, none⟩) (n + m) cap) ∧
      ∃ cur', w'.heap[g]? = some (.cells cur' (ρ.t 9) (0, 0)) ∧ cur'.size = cap * size ∧ cur'.toList.take ((n + m) * size) = cur.toList.take (i * size) ++ vcur.toList.take (m * size) ++ (cur.toList.take (n * size)).drop (i * size) ∧ w.grownBy w' (some g) := by
  have mixed := L.mixed; have t3 := L.t3; have a3 := L.a3; have z3 := L.z3; have v3 := L.v3; have t4 := L.t4; have a4 := L.a4; have z4 := L.z4; have v4 := L.v4; have t24 := L.t24; have a24 := L.a24; have z24 := L.z24; have v24 := L.v24
  have u3 := run_underlying L.t3; have u4 := run_underlying L.t4; have u24 := run_underlying L.t24
  have hcm' : cap ≤ 9223372036854775807 := hcm
  have hz1' : ¬ ((m : Int) = 0) := by omega
  have hz2' : ¬ ((i : Int) = (n : Int)) := by omega
  have hw1 : IntKind.i64.wrap ((i : Int) + (m : Int)) = (i : Int) + (m : Int) := by rw [IntKind.wrap_i64]; omega
  have hw2 : IntKind.i64.wrap ((n : Int) + (m : Int)) = (n : Int) + (m : Int) := by rw [IntKind.wrap_i64]; omega
  have hb1 : (0 : Int) ≤ (i : Int) + (m : Int) := by omega
  have hin' : i ≤ n := by omega
  have htn : ((i : Int) + (m : Int)).toNat = i + m := by omega
  have htn2 : ((n : Int) + (m : Int)).toNat = n + m := by omega
  have hb2 : ¬ (cap = i + m) := by omega
  have hb3 : (i : Int) ≤ (n : Int) + (m : Int) := by omega
  have hb4 : ¬ (cap = i) := by omega
  have hb5 : ¬ ((n : Int) + (m : Int) > (cap : Int)) := by omega
  have hov : ∀ o lb cb, (callFunc (ρ.f 29) #[.slice (some ⟨vb, 0, none⟩) m vc, .slice (some ⟨g, o, none⟩) lb cb]).run P w = .ok (.value (.bool false)) w := fun o lb cb => by
    rw [L.ov, Lib.run_overlaps_apart w (ρ.t 24) (ρ.t 4) (ρ.t 9) L.t24 size z9 ⟨vb, 0, none⟩ ⟨g, o, none⟩ m vc lb cb hvb _ _ _ _ (shape_of hgv) (shape_of hg) hkB (frozen_of hgv) (frozen_of hgv)]
    rfl
  have e1 : (i + m) * size = i * size + m * size := Nat.add_mul i m size
  have e2 : (n + m) * size = n * size + m * size := Nat.add_mul n m size
  have e3 : (n - i) * size = n * size - i * size := Nat.sub_mul n i size
  have e4 : i * size ≤ n * size := Nat.mul_le_mul_right size hin'
  have e5 : n * size + m * size ≤ cur.size := by rw [hcs, ← e2]; exact Nat.mul_le_mul_right size hroom
  have lm : ((cur.toList.take (n * size)).drop (i * size)).length = (n - i) * size := by rw [List.length_drop, List.length_take, Array.length_toList, e3]; omega
  have hcp1 : ∀ ty dc sc, (Builtin.copy_ #[(ρ.t 24), (ρ.t 24)] ty #[.slice (some ⟨g, (i + m) * size, none⟩) (n + m - (i + m)) dc, .slice (some ⟨g, i * size, none⟩) (n + m - i) sc]).run P w.drew = .ok (goInt ((n - i : Nat) : Int)) (w.drew.setRow g (cur.toList.take ((i + m) * size) ++ (cur.toList.take (n * size)).drop (i * size) ++ cur.toList.drop ((i + m) * size + ((cur.toList.take (n * size)).drop (i * size)).length)).toArray) := fun ty dc sc =>
    run_copy_sz w.drew _ _ ty (ρ.t 9) g ((i + m) * size) (n + m - (i + m)) dc ⟨g, i * size, none⟩ (n + m - i) sc cur (ρ.t 9) _ (n - i) i0 L.t24 hi hg (by simp only [Nat.min_def]; split <;> omega) (by rw [lm, hz1])
      (fun j v hj => by
        rw [Addr.add_none]
        have : w.drew.cell? ⟨g, i * size + j, none⟩ = cur[i * size + j]? := cell_of hg
        rw [this, ← hj, List.getElem?_drop, List.getElem?_take]
        have : i * size + j < n * size := by
          have := (List.getElem?_eq_some_iff.1 hj).1
          omega
        rw [if_pos this, Array.getElem?_toList])
      (by rw [lm, e1, e3]; omega) (fun v hv => h1 v (List.mem_of_mem_drop hv))
  obtain ⟨cur1, hcur1⟩ : ∃ c1, c1 = (cur.toList.take ((i + m) * size) ++ (cur.toList.take (n * size)).drop (i * size) ++ cur.toList.drop ((i + m) * size + ((cur.toList.take (n * size)).drop (i * size)).length)).toArray := ⟨_, rfl⟩
  rw [← hcur1] at hcp1
  have hs1 : cur1.size = cap * size := by
    rw [hcur1, List.size_toArray]
    simp only [List.length_append, List.length_take, List.length_drop, Array.length_toList, e1]
    omega
  have hg1 : (w.drew.setRow g cur1).heap[g]? = some (.cells cur1 (ρ.t 9) (0, 0)) := setRow_heap w.drew g cur cur1 (ρ.t 9) _ hg
  have hgv1 : (w.drew.setRow g cur1).heap[vb]? = some (.cells vcur (ρ.t 9) (0, 0)) := by rw [setRow_other w.drew g vb cur1 hvb]; exact hgv
  have lv : (vcur.toList.take (m * size)).length = m * size := by rw [List.length_take, Array.length_toList]; omega
  have hcp2 : ∀ (W : World), W.heap = (w.drew.setRow g cur1).heap → ∀ ty dc, (Builtin.copy_ #[(ρ.t 24), (ρ.t 24)] ty #[.slice (some ⟨g, i * size, none⟩) (n + m - i) dc, .slice (some ⟨vb, 0, none⟩) m vc]).run P W = .ok (goInt m) (W.setRow g (cur1.toList.take (i * size) ++ vcur.toList.take (m * size) ++ cur1.toList.drop (i * size + (vcur.toList.take (m * size)).length)).toArray) := fun W hW ty dc =>
    run_copy_sz W _ _ ty (ρ.t 9) g (i * size) (n + m - i) dc ⟨vb, 0, none⟩ m vc cur1 (ρ.t 9) _ m i0 L.t24 hi (by rw [hW]; exact hg1) (by simp only [Nat.min_def]; split <;> omega) (by rw [lv, hz1])
      (fun j v hj => by
        rw [Addr.add_none, cell_of (by rw [hW]; exact hgv1), ← hj, List.getElem?_take, Nat.zero_add]
        have : j < m * size := by
          have := (List.getElem?_eq_some_iff.1 hj).1
          omega
        rw [if_pos this, Array.getElem?_toList])
      (by rw [lv]; omega) h1v
  clear e1 e2 e3
  obtain ⟨_, _, FG⟩ := L.f22
  go_enter FG, Body2.n22_ntmps ρ
  go_wp2_with (simp only [hov])
  go_region_law_o (refine step_copy_runI rfl _ _ (ρ.t 24) (ρ.t 24) rfl _ _ (by simp [Act.eval, Act.put]) (by simp [Act.eval, Act.put]) (hcp1 _ _ _) ?_)
  go_wp2_with (at_builtin; refine wpList_copy_runI _ rfl _ _ (ρ.t 24) (ρ.t 24) rfl _ _ rfl rfl (hcp2 _ rfl _ _) ?_)
  go_ret
  have e1 : (i + m) * size = i * size + m * size := Nat.add_mul i m size
  have e2 : (n + m) * size = n * size + m * size := Nat.add_mul n m size
  have e3 : (n - i) * size = n * size - i * size := Nat.sub_mul n i size
  have e6 : cur.toList.length = cap * size := by rw [Array.length_toList, hcs]
  have e7 : vcur.toList.length = vcur.size := Array.length_toList
  refine ⟨rfl, _, setRow_heap _ g _ _ _ _ (setRow_heap w.drew g cur _ (ρ.t 9) _ hg), ?_, ?_, ⟨rfl, rfl, rfl, by rw [setRow_size2, setRow_size2]; exact Nat.le_refl _, fun k hk hne => ?_⟩⟩
  · simp only [List.size_toArray, List.length_append, List.length_take, List.length_drop, e1, e3, e6, e7]
    omega
  · have := ins_list cur.toList (vcur.toList.take (m * size)) (i * size) (m * size) (n * size) e4 lv (by omega)
    simp only [e1, e2, e3]
    simpa only [List.append_assoc] using this
  · have hk' : k ≠ g := fun e => hne (by rw [e])
    rw [setRow_other _ g k _ hk', setRow_other _ g k _ hk']
    rfl

set_option maxHeartbeats 8000000 in
set_option maxRecDepth 100000 in
/-- In the middle, into a new row. -/
theorem insert_grow (L : InsL P ρ) (i0 : TypeInfo) (z : Value) (size bytes : Nat) (hi : P.info? (ρ.t 9) = some i0) (hz0 : i0.zero = some z) (hz1 : i0.size = size) (hz2 : i0.bytes = bytes) (hzs : z.cells.size = size) (hsz : 0 < size)
    (z9 : ∀ w, (Go.sizeOf (ρ.t 9)).run P w = .ok size w) (g n cap i : Nat) (cur : Array Value) (w : World) (hg : w.heap[g]? = some (.cells cur (ρ.t 9) (0, 0))) (hcs : cur.size = cap * size) (hin : i < n) (vb m vc : Nat) (vcur : Array Value) (hgv : w.heap[vb]? = some (.cells vcur (ρ.t 9) (0, 0))) (hvb : vb ≠ g)
    (hm : 0 < m) (hnc : n ≤ cap) (hroom : cap < n + m) (hcm : n + m ≤ 68719476736) (hby : bytes ≤ 2048) (hvl : m * size ≤ vcur.size) (h1 : ∀ u ∈ cur.toList.take (n * size), u.oneCell' = true) (h1v : ∀ u ∈ vcur.toList.take (m * size), u.oneCell' = true) :
    Calls P (ρ.f 22) #[.slice (some ⟨g, 0, none⟩) n cap, .int .i64 i, .slice (some ⟨vb, 0, none⟩) m vc] w fun e w' => ∃ cap', e = .returned (.slice (some ⟨w.heap.size, 0, none⟩) (n + m) cap') ∧ n + m ≤ cap' ∧ cap' ≤ maxLen ∧
      ∃ cur', w'.heap[w.heap.size]? = some (.cells cur' (ρ.t 9) (0, 0)) ∧ cur'.size = cap' * size ∧ cur'.toList.take ((n + m) * size) = cur.toList.take (i * size) ++ vcur.toList.take (m * size) ++ (cur.toList.take (n * size)).drop (i * size) ∧ w.grownBy w' none := by
  have mixed := L.mixed; have t3 := L.t3; have a3 := L.a3; have z3 := L.z3; have v3 := L.v3; have t4 := L.t4; have a4 := L.a4; have z4 := L.z4; have v4 := L.v4; have t24 := L.t24; have a24 := L.a24; have z24 := L.z24; have v24 := L.v24
  have u3 := run_underlying L.t3; have u4 := run_underlying L.t4; have u24 := run_underlying L.t24
  have hcm' : n + m ≤ 9223372036854775807 := by omega
  have hz1' : ¬ ((m : Int) = 0) := by omega
  have hz2' : ¬ ((i : Int) = (n : Int)) := by omega
  have hw1 : IntKind.i64.wrap ((i : Int) + (m : Int)) = (i : Int) + (m : Int) := by rw [IntKind.wrap_i64]; omega
  have hw2 : IntKind.i64.wrap ((n : Int) + (m : Int)) = (n : Int) + (m : Int) := by rw [IntKind.wrap_i64]; omega
  have hw3 : IntKind.i64.wrap ((n : Int) + (m : Int) - (i : Int)) = (n : Int) + (m : Int) - (i : Int) := by rw [IntKind.wrap_i64]; omega
  have hb1 : (0 : Int) ≤ (i : Int) + (m : Int) := by omega
  have hin' : i ≤ n := by omega
  have htn : ((i : Int) + (m : Int)).toNat = i + m := by omega
  have htn2 : ((n : Int) + (m : Int)).toNat = n + m := by omega
  have hb4 : ¬ (cap = i) := by omega
  have hb5 : (n : Int) + (m : Int) > (cap : Int) := by omega
  have hb6 : ¬ (cap = 0) := by omega
  have e1 : (i + m) * size = i * size + m * size := Nat.add_mul i m size
  have e2 : (n + m) * size = n * size + m * size := Nat.add_mul n m size
  have e3 : (n - i) * size = n * size - i * size := Nat.sub_mul n i size
  have e4 : i * size ≤ n * size := Nat.mul_le_mul_right size hin'
  have e5 : n * size ≤ cur.size := by rw [hcs]; exact Nat.mul_le_mul_right size hnc
  have lo : (cur.toList.take (i * size)).length = i * size := by rw [List.length_take, Array.length_toList]; omega
  have lv : (vcur.toList.take (m * size)).length = m * size := by rw [List.length_take, Array.length_toList]; omega
  have lm : ((cur.toList.take (n * size)).drop (i * size)).length = (n - i) * size := by rw [List.length_drop, List.length_take, Array.length_toList, e3]; omega
  have hgl : g < w.heap.size := (Array.getElem?_eq_some_iff.1 hg).1
  have hvl2 : vb < w.heap.size := (Array.getElem?_eq_some_iff.1 hgv).1
  have hbb : (n + m) * bytes ≤ 140737488355328 := Nat.le_trans (Nat.mul_le_mul hcm hby) (by omega)
  obtain ⟨C, new, hap, hC1, hC2, hns, hnt⟩ : ∃ (C : Nat) (new : Array Value), (∀ ty, (Builtin.append_ #[(ρ.t 24), (ρ.t 3)] ty #[.slice (some ⟨g, 0, none⟩) i cap, .int .i64 ((n : Int) + (m : Int) - (i : Int))]).run P w = .ok (.slice (some ⟨w.heap.size, 0, none⟩) (n + m) C) (w.drew.alloc (.cells new (ρ.t 9)))) ∧
      n + m ≤ C ∧ C ≤ maxLen ∧ new.size = C * size ∧ new.toList.take (i * size) = cur.toList.take (i * size) := by
    have hsum : i + (n + m - i) = n + m := by omega
    have hge := grownCap_ge w (n + m) cap (ρ.t 9)
    refine ⟨grownCap w (n + m) cap (ρ.t 9), (cur.toList.take (i * size)).toArray ++ Builtin.zeroCells z.cells (n + m - i) ++ Builtin.zeroCells z.cells (grownCap w (n + m) cap (ρ.t 9) - (n + m)), fun ty => ?_, hge, grownCap_le_maxLen _ _ _ _ (by unfold maxLen; omega), ?_, ?_⟩
    · have := run_append_zeros (P := P) w (ρ.t 24) (ρ.t 3) ty (ρ.t 9) i0 z .i64 L.t24 L.t3 hi hz0 ⟨g, 0, none⟩ i cap (cur.toList.take (i * size)) (by rw [lo, hz1]) (fun j v hj => by
          rw [Addr.add_none, cell_of hg, ← hj, List.getElem?_take, Nat.zero_add]
          have : j < i * size := by
            have := (List.getElem?_eq_some_iff.1 hj).1
            omega
          rw [if_pos this, Array.getElem?_toList]) (n + m - i) (by omega) (by omega) (by omega) (by omega) (by rw [hz2]; exact Nat.le_trans (Nat.mul_le_mul_right bytes (Nat.sub_le _ _)) (by omega)) (by rw [hsum, hz2]; exact growslice_fits hroom hbb) .i64
      rw [hsum, show ((n + m - i : Nat) : Int) = (n : Int) + (m : Int) - (i : Int) by omega] at this
      exact this
    · simp only [Array.size_append, List.size_toArray, size_zeroCells, hzs, lo, ← Nat.add_mul]
      congr 1
      omega
    · simp only [Array.toList_append, List.append_assoc]
      exact (congrArg (fun k => List.take k _) lo.symm).trans (by rw [List.take_left])
  have hW1 : (w.drew.alloc (.cells new (ρ.t 9))).heap[w.heap.size]? = some (.cells new (ρ.t 9) (0, 0)) := heap_alloc_new w.drew _
  have hW1o : ∀ k, k < w.heap.size → (w.drew.alloc (.cells new (ρ.t 9))).heap[k]? = w.heap[k]? := fun k hk => heap_alloc_old w.drew _ hk
  have e8 : i * size + m * size ≤ new.size := by rw [hns, ← e1]; exact Nat.mul_le_mul_right size (by omega)
  have e9 : n * size + m * size ≤ new.size := by rw [hns, ← e2]; exact Nat.mul_le_mul_right size (by omega)
  have hcp1 : ∀ (W : World), W.heap = (w.drew.alloc (.cells new (ρ.t 9))).heap → ∀ ty dc, (Builtin.copy_ #[(ρ.t 24), (ρ.t 24)] ty #[.slice (some ⟨w.heap.size, i * size, none⟩) (n + m - i) dc, .slice (some ⟨vb, 0, none⟩) m vc]).run P W = .ok (goInt m) (W.setRow w.heap.size (new.toList.take (i * size) ++ vcur.toList.take (m * size) ++ new.toList.drop (i * size + (vcur.toList.take (m * size)).length)).toArray) := fun W hW ty dc =>
    run_copy_sz W _ _ ty (ρ.t 9) w.heap.size (i * size) (n + m - i) dc ⟨vb, 0, none⟩ m vc new (ρ.t 9) _ m i0 L.t24 hi (by rw [hW]; exact hW1) (by simp only [Nat.min_def]; split <;> omega) (by rw [lv, hz1])
      (fun j v hj => by
        rw [Addr.add_none, cell_of (by rw [hW, hW1o vb hvl2]; exact hgv), ← hj, List.getElem?_take, Nat.zero_add]
        have : j < m * size := by
          have := (List.getElem?_eq_some_iff.1 hj).1
          omega
        rw [if_pos this, Array.getElem?_toList])
      (by rw [lv]; omega) h1v
  obtain ⟨cur1, hcur1⟩ : ∃ c1, c1 = (new.toList.take (i * size) ++ vcur.toList.take (m * size) ++ new.toList.drop (i * size + (vcur.toList.take (m * size)).length)).toArray := ⟨_, rfl⟩
  rw [← hcur1] at hcp1
  have hln : new.toList.length = new.size := Array.length_toList
  have hs1 : cur1.size = C * size := by
    rw [hcur1, List.size_toArray, ← hns]
    simp only [List.length_append, List.length_take, List.length_drop, hln, lv]
    omega
  have hcp2 : ∀ (W : World), W.heap = ((w.drew.alloc (.cells new (ρ.t 9))).setRow w.heap.size cur1).heap → ∀ ty dc sc, (Builtin.copy_ #[(ρ.t 24), (ρ.t 24)] ty #[.slice (some ⟨w.heap.size, (i + m) * size, none⟩) (n + m - (i + m)) dc, .slice (some ⟨g, i * size, none⟩) (n - i) sc]).run P W = .ok (goInt ((n - i : Nat) : Int)) (W.setRow w.heap.size (cur1.toList.take ((i + m) * size) ++ (cur.toList.take (n * size)).drop (i * size) ++ cur1.toList.drop ((i + m) * size + ((cur.toList.take (n * size)).drop (i * size)).length)).toArray) := fun W hW ty dc sc =>
    run_copy_sz W _ _ ty (ρ.t 9) w.heap.size ((i + m) * size) (n + m - (i + m)) dc ⟨g, i * size, none⟩ (n - i) sc cur1 (ρ.t 9) _ (n - i) i0 L.t24 hi (by rw [hW]; exact setRow_heap _ _ new cur1 _ _ hW1) (by simp only [Nat.min_def]; split <;> omega) (by rw [lm, hz1])
      (fun j v hj => by
        rw [Addr.add_none, cell_of (by rw [hW, setRow_other _ _ g _ (by omega), hW1o g hgl]; exact hg), ← hj, List.getElem?_drop, List.getElem?_take]
        have : i * size + j < n * size := by
          have := (List.getElem?_eq_some_iff.1 hj).1
          omega
        rw [if_pos this, Array.getElem?_toList])
      (by rw [lm, hs1, ← hns, e1, e3]; omega) (fun v hv => h1 v (List.mem_of_mem_drop hv))
  have fin : (cur1.toList.take ((i + m) * size) ++ (cur.toList.take (n * size)).drop (i * size) ++ cur1.toList.drop ((i + m) * size + ((cur.toList.take (n * size)).drop (i * size)).length)).take ((n + m) * size) = cur.toList.take (i * size) ++ vcur.toList.take (m * size) ++ (cur.toList.take (n * size)).drop (i * size) := by
    have l1 : (new.toList.take (i * size)).length = i * size := by rw [List.length_take, hln]; omega
    have t1 : cur1.toList.take ((i + m) * size) = cur.toList.take (i * size) ++ vcur.toList.take (m * size) := by
      rw [hcur1, ← hnt, e1]
      have l2 : (new.toList.take (i * size) ++ vcur.toList.take (m * size)).length = i * size + m * size := by rw [List.length_append, l1, lv]
      exact (congrArg (fun k => List.take k _) l2.symm).trans (by rw [List.take_left])
    rw [t1]
    have l3 : (cur.toList.take (i * size) ++ vcur.toList.take (m * size) ++ (cur.toList.take (n * size)).drop (i * size)).length = (n + m) * size := by
      simp only [List.length_append, lo, lv, lm, e2, e3]
      omega
    exact (congrArg (fun k => List.take k _) l3.symm).trans (by rw [List.take_left])
  obtain ⟨cur2, hcur2⟩ : ∃ c2, c2 = (cur1.toList.take ((i + m) * size) ++ (cur.toList.take (n * size)).drop (i * size) ++ cur1.toList.drop ((i + m) * size + ((cur.toList.take (n * size)).drop (i * size)).length)).toArray := ⟨_, rfl⟩
  rw [← hcur2] at hcp2
  have hs2 : cur2.size = C * size := by
    rw [hcur2, List.size_toArray, ← hs1]
    simp only [List.length_append, List.length_take, List.length_drop, Array.length_toList, lm, e1, e3]
    omega
  have fin2 : cur2.toList.take ((n + m) * size) = cur.toList.take (i * size) ++ vcur.toList.take (m * size) ++ (cur.toList.take (n * size)).drop (i * size) := by rw [hcur2]; exact fin
  clear e1 e2 e3 hcur1 hcur2 fin
  obtain ⟨W1, hW1d⟩ : ∃ W1, W1 = w.drew.alloc (.cells new (ρ.t 9)) := ⟨_, rfl⟩
  have hWs : W1.heap.size = w.heap.size + 1 := by rw [hW1d]; exact Array.size_push _
  have hWos : W1.os = w.os ∧ W1.tape = w.tape ∧ W1.output = w.output := by rw [hW1d]; exact ⟨rfl, rfl, rfl⟩
  rw [← hW1d] at hW1 hW1o hcp1 hcp2 hap
  clear hW1d
  have hcp3 := hcp2 (W1.setRow w.heap.size cur1).drew rfl
  clear hcp2
  have hb7 : ¬ (C = i + m) := by omega
  have hb8 : ¬ (C = i) := by omega
  obtain ⟨_, _, FG⟩ := L.f22
  go_enter FG, Body2.n22_ntmps ρ
  go_wp2_with (at_builtin; refine Lib.wpList_append_run _ rfl _ _ (ρ.t 24) (ρ.t 3) rfl _ _ rfl rfl _ _ (hap _) ?_)
  go_region_law_o (refine step_copy_runI rfl _ _ (ρ.t 24) (ρ.t 24) rfl _ _ (by simp [Act.eval, Act.put]) (by simp [Act.eval, Act.put]) (hcp3 _ _ _) ?_)
  go_wp2
  go_ret
  refine ⟨C, rfl, hC1, hC2, cur2, setRow_heap _ _ cur1 cur2 _ _ (setRow_heap _ _ new cur1 _ _ hW1), hs2, fin2, ⟨hWos.1, hWos.2.1, hWos.2.2, ?_, fun k hk _ => ?_⟩⟩
  · rw [setRow_size2]
    show w.heap.size ≤ (W1.setRow w.heap.size cur1).heap.size
    rw [setRow_size2, hWs]
    omega
  · rw [setRow_other _ _ k _ (by omega)]
    show (W1.setRow w.heap.size cur1).heap[k]? = _
    rw [setRow_other _ _ k _ (by omega), hW1o k hk]

theorem rowRep_take {H : HP} {K : Kd} {xs : List K.T} {f : List Value} (h : rowRep H K xs f) (i : Nat) : rowRep H K (xs.take i) (f.take (i * K.sz)) := by
  intro j x hx
  rw [List.getElem?_take] at hx
  split at hx
  · rename_i hj
    have := h j x hx
    have hle : (j + 1) * K.sz ≤ i * K.sz := Nat.mul_le_mul_right _ hj
    rw [Nat.succ_mul] at hle
    rw [List.drop_take, List.take_take, Nat.min_eq_left (by omega)]
    exact this
  · cases hx
theorem rowRep_drop {H : HP} {K : Kd} {xs : List K.T} {f : List Value} (h : rowRep H K xs f) (i : Nat) : rowRep H K (xs.drop i) (f.drop (i * K.sz)) := by
  intro j x hx
  rw [List.getElem?_drop] at hx
  have := h _ x hx
  rw [List.drop_drop, ← Nat.add_mul]
  exact this

/-- Behind a call that was given two rows and gives one back. -/
theorem two_one {H : HP} {φ : Phi} {w w' : World} {t : TypeId} {K : Kd} {xs vs ys : List K.T} {n : Int} {v' : Value} {flat : List Value}
    (hs : SR H φ (exitSt [] [.new t K xs, .int .i64 n, .new t K vs]) w) (hg : w.grownBy w' (blk (φ 0))) (hb : ∀ b, blk v' = some b → blk (φ 0) = some b ∨ w.heap.size ≤ b)
    (ho : w'.ownsRow 0 t K.sz v' ys.length flat) (hr : rowRep H K ys flat) : CallEnd H φ w [.new t K xs, .int .i64 n, .new t K vs] [] [] [.new t K ys] v' w' := by
  have hout : ∀ b, blk (φ 0) = some b → H b = none := fun b h => hs.out 0 (.rows t K xs) rfl rfl b h
  have hlt : ∀ b o, H b = some o → b < w.heap.size := fun b o h => (Array.getElem?_eq_some_iff.1 (hs.hp b o h)).1
  refine ⟨H, fun _ => v', HP.le_refl H, ⟨fun b o h => ?_, fun id bx hid => ?_, fun i j bi bj hi hj _ _ hne => ?_, fun i bi hi _ b hv => ?_, fun id cs hid => ?_⟩, ⟨hg.os, hg.tape, hg.output, hg.size, fun b hlt hne => hg.block b hlt (fun e => hne 0 (by show 0 < 2; omega) e.symm), fun j hj => by simp at hj, fun i bi hi _ b hv => ?_, fun j hj => by simp at hj, fun _ _ _ => rfl⟩, ⟨rfl, rfl⟩⟩
  · rw [hg.block b (hlt b o h) (fun e => by rw [hout b e.symm] at h; cases h)]
    exact hs.hp b o h
  · cases id with
    | zero => cases hid; exact ⟨flat, ho, hr⟩
    | succ k => cases hid
  · cases i with
    | succ k => cases hi
    | zero =>
      cases j with
      | succ k => cases hj
      | zero => exact absurd rfl hne
  · cases hh : H b with
    | none => rfl
    | some o =>
      rcases hb b hv with h | h
      · rw [hout b h] at hh; cases hh
      · have := hlt b o hh; omega
  · cases id with
    | zero => cases hid
    | succ k => cases hid
  · rcases hb b hv with h | h
    · exact .inr ⟨0, (by show 0 < 2; omega), h⟩
    · exact .inl h

/-- What a call gives: the list with the others put in. -/
theorem insert_is {K : Kd} (L : InsL P ρ) (he : elB P (ρ.t 9) K = true) {xs vs : List K.T} {i : Nat} (hx : xs.length + vs.length ≤ 68719476736) (hv : vs ≠ []) (hi : i ≤ xs.length) :
    CallIs P (ρ.f 22) [.new (ρ.t 9) K xs, .int .i64 i, .new (ρ.t 9) K vs] [] [.new (ρ.t 9) K (xs.take i ++ vs ++ xs.drop i)] := by
  obtain ⟨i0, z, hi0, hz, h1, h2, h3, h4⟩ := elB_spec he
  have hm : 0 < vs.length := List.length_pos_iff.2 hv
  have hsz := Kd.sz_pos K
  refine ⟨?_, ?_, 1, rfl, fun H φ w cargs hs ha => ?_⟩
  · obtain ⟨nm, hnm, hf⟩ := L.f22
    exact ⟨_, _, hf, hnm, rfl⟩
  · intro r hr
    simp only [List.mem_singleton] at hr
    subst hr
    rfl
  · obtain ⟨v0, r0, rfl, hv0, ha⟩ := ha
    obtain ⟨v1, r1, rfl, hv1, ha⟩ := ha
    obtain ⟨v2, r2, rfl, hv2, ha⟩ := ha
    have hr2 : r2 = [] := ha
    subst hr2
    have e0 : v0 = φ 0 := hv0.1
    have e1 : v1 = .int .i64 i := hv1
    have e2 : v2 = φ 1 := hv2.1
    subst e0 e1 e2
    obtain ⟨flat, ho, hr⟩ := hs.box 0 (.rows (ρ.t 9) K xs) rfl
    obtain ⟨flatv, hov, hrv⟩ := hs.box 1 (.rows (ρ.t 9) K vs) rfl
    have hnew : (xs.take i ++ vs ++ xs.drop i).length = xs.length + vs.length := by simp only [List.length_append, List.length_take, List.length_drop]; omega
    have hnil : vs.length ≠ 0 := by omega
    obtain ⟨gv, capv, curv, ev, _, hgv, hcv, hcmv, hsv, htv⟩ := hov.2.resolve_left (fun h => hnil h.2)
    have hlv : vs.length * K.sz ≤ curv.size := by rw [hsv]; exact Nat.mul_le_mul_right _ hcv
    have hn : xs.length + vs.length ≤ maxLen := by unfold maxLen; omega
    have hbb : (xs.length + vs.length) * i0.bytes ≤ 140737488355328 := Nat.le_trans (Nat.mul_le_mul hx h2) (by omega)
    have hcv2 : ∀ j u, flatv[j]? = some u → w.cell? ((⟨gv, 0, none⟩ : Addr).add j) = some u := fun j u hj => by
      rw [Addr.add_none, cell_of hgv, Nat.zero_add]
      rw [← htv, List.getElem?_take] at hj
      split at hj
      · rwa [Array.getElem?_toList] at hj
      · cases hj
    have one : (w.ownsRow 0 (ρ.t 9) K.sz (φ 1) vs.length flatv) := hov
    rw [ev]
    by_cases hin : i = xs.length
    · subst hin
      obtain ⟨base, n, cap, e0, hnn⟩ : ∃ base n cap, φ 0 = .slice base n cap ∧ n = xs.length := by
        rcases ho.2 with ⟨e, h⟩ | ⟨g, cap, cur, e, _⟩
        · exact ⟨none, 0, 0, e, h.symm⟩
        · exact ⟨_, _, _, e, rfl⟩
      subst hnn
      refine Calls.mono (insert_end L i0 z K.sz i0.bytes hi0 hz h1 rfl h3 hsz (fun w => by simp [sizeOf, typeInfo, hi0, h1]) (φ 0) base _ cap e0 flat w ho ⟨gv, 0, none⟩ vs.length capv flatv hm hov.1 hn hbb hcv2 (rowRep_oneCell hrv hov.1)) fun out w' h => ?_
      obtain ⟨v', rfl, ho', hg, hbk⟩ := h
      have hbv : ∀ {v : Value} {n : Nat} {fl : List Value} {ww : World}, ww.ownsRow 0 (ρ.t 9) K.sz v n fl → blk v = v.ownBlock := fun h => by
        rcases h.2 with ⟨e, _⟩ | ⟨g, c, cu, e, _⟩ <;> rw [e] <;> rfl
      have hbl : blk (φ 0) = (φ 0).ownBlock := by rw [e0]; cases base <;> rfl
      refine two_one (flat := flat ++ flatv) hs (by rw [hbl]; exact hg) (fun b hb => ?_) (by rw [hnew]; exact ho') ?_
      · rw [hbv ho'] at hb
        rcases hbk with h | h
        · exact .inl (by rw [hbl, ← h]; exact hb)
        · rw [h] at hb
          cases hb
          exact .inr (Nat.le_refl _)
      · rw [List.take_length, List.drop_length, List.append_nil]
        exact rowRep_append hr ho.1 hrv
    · have hlt : i < xs.length := by omega
      obtain ⟨g, cap, cur, e0, _, hg, hc, hcm, hsc, ht⟩ := ho.2.resolve_left (fun h => by omega)
      have hne : gv ≠ g := fun e => hs.sep 0 1 _ _ rfl rfl rfl rfl (by decide) g (by rw [e0]; rfl) (by rw [ev, e]; rfl)
      rw [e0]
      have z9 : ∀ w, (Go.sizeOf (ρ.t 9)).run P w = .ok K.sz w := fun w => by simp [sizeOf, typeInfo, hi0, h1]
      have hcap0 : cur.size ≠ 0 := by
        have := Nat.mul_le_mul_right K.sz hc
        have h5 : 0 < xs.length * K.sz := Nat.mul_pos (by omega) hsz
        omega
      have htk : cur.toList.take (i * K.sz) = flat.take (i * K.sz) := by
        rw [← ht, List.take_take, Nat.min_eq_left (Nat.mul_le_mul_right _ hi)]
      have hrow : ∀ (cur' : Array Value), cur'.toList.take ((xs.length + vs.length) * K.sz) = cur.toList.take (i * K.sz) ++ curv.toList.take (vs.length * K.sz) ++ (cur.toList.take (xs.length * K.sz)).drop (i * K.sz) → cur'.toList.take ((xs.length + vs.length) * K.sz) = flat.take (i * K.sz) ++ flatv ++ flat.drop (i * K.sz) := fun cur' h => by rw [h, htk, htv, ht]
      have hlf : (flat.take (i * K.sz) ++ flatv ++ flat.drop (i * K.sz)).length = (xs.length + vs.length) * K.sz := by
        have h5 := ho.1
        have h6 := hov.1
        have h7 : i * K.sz ≤ xs.length * K.sz := Nat.mul_le_mul_right _ hi
        simp only [List.length_append, List.length_take, List.length_drop, h5, h6, Nat.add_mul]
        omega
      have hrr : rowRep H K (xs.take i ++ vs ++ xs.drop i) (flat.take (i * K.sz) ++ flatv ++ flat.drop (i * K.sz)) := by
        have h5 := ho.1
        have h7 : i * K.sz ≤ xs.length * K.sz := Nat.mul_le_mul_right _ hi
        have l1 : (flat.take (i * K.sz)).length = (xs.take i).length * K.sz := by rw [List.length_take, List.length_take, Nat.min_eq_left hi, h5]; omega
        refine rowRep_append (rowRep_append (rowRep_take hr i) l1 hrv) ?_ (rowRep_drop hr i)
        rw [List.length_append, List.length_append, l1, hov.1, Nat.add_mul]
      by_cases hroom : xs.length + vs.length ≤ cap
      · refine Calls.mono (insert_shift L i0 z K.sz i0.bytes hi0 hz h1 rfl h3 hsz z9 g xs.length cap i cur w hg hsc hlt gv vs.length capv curv hgv hne hm hroom hcm hlv (by rw [ht]; exact rowRep_oneCell hr ho.1) (by rw [htv]; exact rowRep_oneCell hrv hov.1) hcap0) fun out w' h => ?_
        obtain ⟨rfl, cur', g1, g2, g3, g4⟩ := h
        refine two_one hs (by rw [e0]; exact g4) (fun b hb => .inl (by rw [e0]; exact hb)) (flat := flat.take (i * K.sz) ++ flatv ++ flat.drop (i * K.sz)) ?_ hrr
        rw [hnew]
        exact ⟨hlf, .inr ⟨g, cap, cur', rfl, Nat.zero_le _, g1, hroom, hcm, g2, hrow cur' g3⟩⟩
      · refine Calls.mono (insert_grow L i0 z K.sz i0.bytes hi0 hz h1 rfl h3 hsz z9 g xs.length cap i cur w hg hsc hlt gv vs.length capv curv hgv hne hm hc (by omega) hx h2 hlv (by rw [ht]; exact rowRep_oneCell hr ho.1) (by rw [htv]; exact rowRep_oneCell hrv hov.1)) fun out w' h => ?_
        obtain ⟨cap', rfl, g5, g6, cur', g1, g2, g3, g4⟩ := h
        refine two_one hs ⟨g4.os, g4.tape, g4.output, g4.size, fun k hk _ => g4.block k hk (by simp)⟩ (fun b hb => .inr (by cases hb; exact Nat.le_refl _)) (flat := flat.take (i * K.sz) ++ flatv ++ flat.drop (i * K.sz)) ?_ hrr
        rw [hnew]
        exact ⟨hlf, .inr ⟨w.heap.size, cap', cur', rfl, Nat.zero_le _, g1, g5, g6, g2, hrow cur' g3⟩⟩

/-! The answers, as the interpreter asks for them. -/
def clonE (t : TypeId) (K : Kd) (args bs : List AV) : Option (List AV) :=
  match args, bs with
  | [.lst K' xs], [] => if h : K' = K then (if xs.length ≤ 68719476736 then some [.new t K (h ▸ xs)] else none) else none
  | _, _ => none
theorem clonE_at {t : TypeId} {K : Kd} {xs : List K.T} (h : xs.length ≤ 68719476736) : clonE t K [.lst K xs] [] = some [.new t K xs] := by simp [clonE, h]
theorem clonE_ok {K : Kd} (L : SlLaysE0.n41 P ρ) (he : elB P (ρ.t 23) K = true) {args bs rs : List AV} (h : clonE (ρ.t 23) K args bs = some rs) : CallIs P (ρ.f 41) args bs rs := by
  unfold clonE at h
  split at h
  · split at h
    · rename_i hk
      subst hk
      split at h
      · cases h
        exact clone_is L he (by assumption)
      · cases h
    · cases h
  · cases h

def insE (t : TypeId) (K : Kd) (args bs : List AV) : Option (List AV) :=
  match args, bs with
  | [.new t1 K1 xs, .int k i, .new t2 K2 vs], [] => if h1 : K1 = K then (if h2 : K2 = K then (if t1 = t ∧ t2 = t ∧ k = .i64 ∧ 0 ≤ i ∧ i ≤ xs.length ∧ vs.length ≠ 0 ∧ xs.length + vs.length ≤ 68719476736 then
      some [.new t K ((h1 ▸ xs).take i.toNat ++ (h2 ▸ vs) ++ (h1 ▸ xs).drop i.toNat)] else none) else none) else none
  | _, _ => none
theorem insE_at {t : TypeId} {K : Kd} {xs vs : List K.T} {i : Nat} (h : xs.length + vs.length ≤ 68719476736) (hi : i ≤ xs.length) (hv : vs.length ≠ 0) : insE t K [.new t K xs, .int .i64 i, .new t K vs] [] = some [.new t K (xs.take i ++ vs ++ xs.drop i)] := by
  have hi' : (i : Int) ≤ (xs.length : Int) := by omega
  have h0 : (0 : Int) ≤ (i : Int) := by omega
  simp only [insE, dif_pos, true_and]
  rw [if_pos ⟨h0, hi', hv, h⟩, Int.toNat_natCast]
theorem insE_ok {K : Kd} (L : InsL P ρ) (he : elB P (ρ.t 9) K = true) {args bs rs : List AV} (h : insE (ρ.t 9) K args bs = some rs) : CallIs P (ρ.f 22) args bs rs := by
  unfold insE at h
  split at h
  · split at h
    · rename_i hk
      subst hk
      split at h
      · rename_i hk2
        subst hk2
        split at h
        · rename_i hc
          obtain ⟨rfl, rfl, rfl, h0, hi, hv, hx⟩ := hc
          cases h
          rename_i n _
          obtain ⟨m, rfl⟩ := Int.eq_ofNat_of_zero_le h0
          exact insert_is L he hx (fun e => hv (by rw [e]; rfl)) (by omega)
        · cases h
      · cases h
    · cases h
  · cases h

def cmpE (args bs : List AV) : Option (List AV) :=
  match args, bs with
  | [.str a, .str b], [] => some [.int .i64 (Lib.compareBytes a.data.toList b.data.toList)]
  | _, _ => none
theorem cmpE_ok (L : Lays.n106 P ρ) {args bs rs : List AV} (h : cmpE args bs = some rs) : CallIs P (ρ.f 106) args bs rs := by
  unfold cmpE at h
  split at h
  · cases h
    rename_i a b
    refine ⟨⟨_, _, L.f106, by rfl, rfl⟩, ?_, 1, rfl, fun H φ w cargs hs ha => ?_⟩
    · intro r hr
      simp only [List.mem_singleton] at hr
      subst hr
      rfl
    · obtain ⟨v0, r0, rfl, hv0, ha⟩ := ha
      obtain ⟨v1, r1, rfl, hv1, ha⟩ := ha
      have hr1 : r1 = [] := ha
      subst hr1
      have e0 : v0 = .string a := hv0
      have e1 : v1 = .string b := hv1
      subst e0 e1
      refine Calls.mono (Any.strings_Compare L a b w) fun out w' h => ?_
      obtain ⟨rfl, rfl⟩ := h
      exact step_end (rs := [.int .i64 (Lib.compareBytes a.data.toList b.data.toList)]) (Step.refl hs) rfl
  · cases h

end Go.Proofs.Ytnbfkndicldppaa.Core
