/- slices.Clone, of any kind of elements: what a call of it gives, as the interpreter's calls are told. -/
import Derived.Test.YtnbfkndicldppaaBody
import Derived.Shelf.SlLaysE0
import Derived.Shelf.RegionOpenPlain
import Derived.WalkKit
import Derived.Deep.LoopGhost
import Derived.Lib.Walk
import Derived.Lib.SliceRun
namespace Go.Proofs.Ytnbfkndicldppaa.Core
open Go Go.Shelf Go.RowKit Go.Lib
variable {P : Program} {ρ : Ren}

set_option maxHeartbeats 2000000 in
set_option maxRecDepth 100000 in
theorem clone_at (L : SlLaysE0.n41 P ρ) (i0 : TypeInfo) (z : Value) (size bytes : Nat) (hi : P.info? (ρ.t 23) = some i0) (hz0 : i0.zero = some z) (hz1 : i0.size = size) (hz2 : i0.bytes = bytes) (hzs : z.cells.size = size) (hsz : 0 < size)
    (z23 : ∀ w, (Go.sizeOf (ρ.t 23)).run P w = .ok size w) (ad : Addr) (n c : Nat) (news : List Value) (w : World) (hl : news.length = n * size) (hn : n ≤ maxLen) (hbig : n * bytes ≤ 140737488355328)
    (hc : ∀ j u, news[j]? = some u → w.cell? (ad.add j) = some u) (h1 : ∀ u ∈ news, u.oneCell' = true) :
    Calls P (ρ.f 41) #[.slice (some ad) n c] w fun e w' => ∃ v', e = .returned v' ∧ w'.ownsRow w.heap.size (ρ.t 23) size v' n news ∧ w.grownBy w' none := by
  have mixed := L.mixed; have t4 := L.t4; have a4 := L.a4; have z4 := L.z4; have v4 := L.v4; have t22 := L.t22; have a22 := L.a22; have z22 := L.z22; have v22 := L.v22
  have q22 : ∀ (w : World) (a : Option Addr) (n c n' c' : Nat), (binOp .eql (ρ.t 22) (.slice a n c) (.slice none n' c')).run P w = .ok (.bool a.isNone) w := fun w a n c n' c' => Lib.run_eql_slice_nil w _ _ a n c n' c' L.t22
  have u22 : ∀ w, Sem.run P (underlying (ρ.t 22)) w = .ok (TypeDesc.slice (ρ.t 23)) w := run_underlying t22
  have A : Aside (∀ j u, news[j]? = some u → w.cell? (ad.add j) = some u) := hc
  clear hc
  obtain ⟨_, _, FG⟩ := L.f41
  go_enter FG, SlBodyN.n41_ntmps ρ
  go_wp2_with (at_builtin; refine wpList_append_own _ rfl _ _ (ρ.t 22) rfl w.heap.size (ρ.t 23) i0 z size bytes t22 hi hz0 hz1 hz2 hzs hsz _ _ _ rfl (World.ownsRow_made w #[] 0 (Nat.le_refl _) (Nat.zero_le _) (by simp)) ad n c news rfl ?qc1 ?qc2 ?qc3 ?qc4 ?qc5 ?qc6 ?_)
  case qc1 => exact hl
  case qc2 =>
    intro j u hj
    exact Lib.cell?_alloc_some _ (A.out j u hj)
  case qc3 => exact h1
  case qc4 => rw [Nat.zero_add]; exact hn
  case qc5 => rw [Nat.zero_add]; exact hbig
  case qc6 => simp
  intro v' w1 hown hgrow hnil
  go_wp2
  go_ret
  refine ⟨v', rfl, by simpa using hown, ⟨hgrow.os, hgrow.tape, hgrow.output, ?_, fun k hk _ => ?_⟩⟩
  · have := hgrow.size
    simp at this
    omega
  · rw [hgrow.block k (by simp; omega) (by simp [Value.ownBlock]; omega)]
    simp only [World.alloc, Array.getElem?_push]
    rw [if_neg (by omega)]

set_option maxHeartbeats 1000000 in
theorem clone_nil (L : SlLaysE0.n41 P ρ) (n c : Nat) (w : World) :
    Calls P (ρ.f 41) #[.slice none n c] w fun e w' => e = .returned (.slice none 0 0) ∧ w' = w := by
  have mixed := L.mixed; have t4 := L.t4; have a4 := L.a4; have z4 := L.z4; have v4 := L.v4; have t22 := L.t22; have a22 := L.a22; have z22 := L.z22; have v22 := L.v22
  have q22 : ∀ (w : World) (a : Option Addr) (n c n' c' : Nat), (binOp .eql (ρ.t 22) (.slice a n c) (.slice none n' c')).run P w = .ok (.bool a.isNone) w := fun w a n c n' c' => Lib.run_eql_slice_nil w _ _ a n c n' c' L.t22
  obtain ⟨_, _, FG⟩ := L.f41
  go_enter FG, SlBodyN.n41_ntmps ρ
  go_wp2
  go_ret
  exact ⟨rfl, rfl⟩

/-- What a call gives. -/
def CallIs (P : Program) (f : Nat) (args bs rs : List AV) : Prop :=
  Enters P f ∧ (∀ r ∈ rs, r.cells.all AV.nilFree = true) ∧ ∃ n, n + bs.length = rs.length ∧
    ∀ (H : HP) (φ : Phi) (w : World) (cargs : List Value), SR H φ (exitSt bs args) w → All2 (VB H φ (exitSt bs args)) (openVs (handed bs) args) cargs →
      Calls P f cargs.toArray w fun out w' => match out with
        | .returned v => CallEnd H φ w args bs (rs.drop n) (rs.take n) v w'
        | _ => False

theorem step_end {H H' : HP} {φ φ' : Phi} {w w' : World} {args rs : List AV} {v : Value} (h : Step H φ (exitSt [] args) w H' φ' (exitSt [] rs) w') (hr : ResR H' φ' (exitSt [] rs) (openVs (handed []) rs) v) : CallEnd H φ w args [] [] rs v w' := by
  refine ⟨H', φ', h.le, h.sr, h.fr _ _ _ _ _ ⟨rfl, rfl, rfl, Nat.le_refl _, fun _ _ _ => rfl, fun _ _ => rfl, fun i bi hi _ b hb => .inr ⟨i, (List.getElem?_eq_some_iff.1 hi).1, hb⟩, fun j hj => ?_, fun _ _ _ => rfl⟩, hr⟩
  simp at hj

theorem clone_is {K : Kd} (L : SlLaysE0.n41 P ρ) (he : elB P (ρ.t 23) K = true) {xs : List K.T} (hx : xs.length ≤ 68719476736) : CallIs P (ρ.f 41) [.lst K xs] [] [.new (ρ.t 23) K xs] := by
  obtain ⟨i, z, hi, hz, h1, h2, h3, h4⟩ := elB_spec he
  have hn : xs.length ≤ maxLen := by unfold maxLen; omega
  refine ⟨?_, ?_, 1, rfl, fun H φ w cargs hs ha => ?_⟩
  · obtain ⟨nm, hnm, hf⟩ := L.f41
    exact ⟨_, _, hf, hnm, rfl⟩
  · intro r hr
    simp only [List.mem_singleton] at hr
    subst hr
    rfl
  · obtain ⟨v, rest, rfl, hv, hrest⟩ := ha
    have hrest : rest = [] := hrest
    subst hrest
    · · obtain ⟨sl, cap, e, hc, hr⟩ := (show reps (Rep H K) K.sz H xs v from hv)
        subst e
        have fin : ∀ (v' : Value) (w' : World) (flat : List Value), w'.ownsRow w.heap.size (ρ.t 23) K.sz v' xs.length flat → rowRep H K xs flat → w.grownBy w' none → CallEnd H φ w [.lst K xs] [] [] [.new (ρ.t 23) K xs] v' w' := by
          intro v' w' flat ho hrr hg
          have hst := newRow_step (st := exitSt [] [.lst K xs]) hs hg ho hrr
          refine step_end (rs := [.new (ρ.t 23) K xs]) hst ?_
          exact ⟨rfl, rfl⟩
        cases sl with
        | none =>
          have : xs = [] := by
            rcases hr with h | ⟨_, _, _, _, _, h, _⟩
            · exact h
            · cases h
          subst this
          refine Calls.mono (clone_nil L _ _ w) fun out w' h => ?_
          obtain ⟨rfl, rfl⟩ := h
          exact fin _ _ [] ⟨by simp, .inl ⟨rfl, rfl⟩⟩ (fun j x h => by simp at h) ⟨rfl, rfl, rfl, Nat.le_refl _, fun _ _ _ => rfl⟩
        | some ad =>
          obtain ⟨sl2, cap2, flat, e2, _, hl, hrr, hcl⟩ := reps_flat hs.hp (show reps (Rep H K) K.sz H xs (.slice (some ad) xs.length cap) from ⟨some ad, cap, rfl, hc, hr⟩)
          cases e2
          refine Calls.mono (clone_at L i z K.sz i.bytes hi hz h1 rfl h3 (Kd.sz_pos K) (fun w => by simp [sizeOf, typeInfo, hi, h1]) ad xs.length cap flat w hl hn (Nat.le_trans (Nat.mul_le_mul hx h2) (by omega)) ?_ (rowRep_oneCell hrr hl)) fun out w' h => ?_
          · intro j u hj
            rcases hcl with rfl | ⟨b, off, c, el, fz, ea, hb, hcc⟩
            · have : flat = [] := List.length_eq_zero_iff.1 (by rw [hl]; simp)
              rw [this] at hj
              simp at hj
            · cases ea
              rw [Addr.add_none]
              have := hs.hp _ _ hb
              have h5 := hcc j u hj
              simp only [World.cell?, this]
              simpa using h5
          · obtain ⟨v', rfl, ho, hg⟩ := h
            exact fin v' w' flat ho hrr hg

end Go.Proofs.Ytnbfkndicldppaa.Core
