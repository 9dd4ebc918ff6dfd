/- The law FnExactRunGroup: whatever comes in, it answers true and touches nothing that was there. -/
import Derived.Test.YtfcgblnlopemkaaGreatP5
import Derived.Test.YtfcgblnlopemkaaGreatRows
import Derived.WalkKit
import Derived.ProofKit
import Derived.OpenShut
import Derived.Below
import Derived.SizedLaws
namespace Go.Proofs.YtfcgblnlopemkaaGreat.fnExactRunGroup
open Go.ChangeShapes Go.WideShapes Go.ChangeAt Go.RowKit
set_option linter.unusedVariables false
theorem own : ownKnob Tryz.prog.godebug = none := by kernel_rfl
theorem laidOut : laidOutB Tryz.prog = true := Core.xR
set_option maxRecDepth 100000 in
theorem lifted (os : Os) (started : os.Started) (H : Type) (enc : TypeId × Value → H) :
    ReturnsInHanded {} Tryz.checked os 3 .any (Rows.fnExactRunGroupSpec.pre6 enc Tryz.prog Tryz.f3 Rows.fnExactRunGroupRow.domain false) (Rows.fnExactRunGroupSpec.post enc Tryz.prog Tryz.f3 false true false false) := by
  refine returnsInHanded_of_change (C := Tryz.checked) own started (by kernel_rfl) Tryz.func3
    (ChangeSpec.witness6 (enc := enc) (C := Tryz.checked) false ⟨#[], #[.slice none 0 0, .slice none 0 0], []⟩ 8 (by kernel_rfl) (by kernel_rfl) (by kernel_rfl) (by kernel_rfl)) ?_
  intro W base args ds gs before hval0 hW hcnd hres
  have hval : ∀ (j : Nat) t v, Tryz.f3.params[j]? = some t → args[j]? = some v → Value.okWide Tryz.prog W .any base t v := hval0
  have hW' := hW
  obtain ⟨p, q, hA0, hV, rfl, hfz, hnd⟩ := hW
  have hA : DataW.TrodAll enc Tryz.prog W 0 (fun _ => true) true Tryz.f3.params.toList args.toList ds p := hA0
  rw [Tryz.params3] at hA hval
  obtain ⟨v0, vs0, d0, ds0, p0, q0, hargs0, rfl, rfl, h0, r0⟩ := trodAll_cons hA
  obtain ⟨v1, vs1, d1, ds1, p1, q1, hargs1, rfl, rfl, h1, r1⟩ := trodAll_cons r0
  obtain ⟨rfl, rfl, rfl⟩ := trodAll_nil r1
  obtain rfl : args = #[v0, v1] := by cases args; simp_all
  obtain ⟨rfl, rfl⟩ := trodVars_none hV
  have lt0 : ∀ x ∈ p0, x.block < W.heap.size := by obtain ⟨m, hm⟩ := h0; exact DataW.trod_lt m _ _ _ hm
  have ht0 : Core.Y4 Tryz.prog 40 22 (.slice (.slice (.int .i64))) = true := by kernel_rfl
  obtain ⟨x0, e0, o0⟩ := Core.wN ht0 (Core.yq ht0 (hval 0 22 v0 rfl rfl)) h0
  have lt1 : ∀ x ∈ p1, x.block < W.heap.size := by obtain ⟨m, hm⟩ := h1; exact DataW.trod_lt m _ _ _ hm
  have ht1 : Core.Y4 Tryz.prog 40 23 (.slice Core.AO) = true := by kernel_rfl
  obtain ⟨x1, e1, o1⟩ := Core.wN ht1 (Core.yq ht1 (hval 1 23 v1 rfl rfl)) h1
  clear hA0 hval0
  refine (Core.AA2 (P := Tryz.prog) Core.ADo Core.ACQ (f := 3) (args := [Core.Kd.av (.slice (.slice (.int .i64))) x0, Core.Kd.av (.slice Core.AO) x1]) (Core.cH x0 o0 x1 o1) (W := W) (cargs := [v0, v1]) ⟨v0, [v1], rfl, e0, v1, [], rfl, e1, rfl⟩).mono fun e W' ⟨he, bel⟩ => ?_
  subst he
  exact ⟨_, rfl, _, _, _, [], _, [], hW', trodAll_mk1 (shut_bool Tryz.underlying4 _), (trodAll_cons_mk (Below.trod laidOut (by kernel_rfl) (of_decide_eq_true (by kernel_rfl)) h0 bel lt0) (trodAll_cons_mk (Below.trod laidOut (by kernel_rfl) (of_decide_eq_true (by kernel_rfl)) h1 bel lt1) trodAll_mk0)), rfl, bel.frame _, fun h => by cases h⟩
theorem k0 : (Rows.fnExactRunGroupRow.wf (OpenSpec.ofChange Rows.fnExactRunGroupSpec)) = true := by kernel_rfl
theorem k1 : (laidOutB Tryz.prog) = true := Core.xR
theorem k2 : (mapsRowed Tryz.prog) = true := Core.yO
theorem k3 : (Tryz.f3.params.all (Tryz.prog.readableRec ·)) = true := by kernel_rfl
theorem k4 : (namedTie Tryz.prog Rows.fnExactRunGroupRow.named Rows.fnExactRunGroupSpec.vars) = true := by kernel_rfl
theorem k5 : ((Rows.fnExactRunGroupRow.stops == [])) = true := by kernel_rfl
theorem k6 : ((Tryz.prog.stops == [])) = true := by kernel_rfl
theorem k7 : ((Rows.fnExactRunGroupRow.knobs == [])) = true := by kernel_rfl
theorem k8 : ((Tryz.prog.stopKnobs == [])) = true := by kernel_rfl
theorem k9 : ((Rows.fnExactRunGroupRow.inPlace == Tryz.prog.inPlace 3)) = true := by kernel_rfl
theorem k10 : ((Rows.fnExactRunGroupRow.unfollowed == Tryz.prog.unfollowed 3)) = true := by kernel_rfl
theorem k11 : ((Rows.fnExactRunGroupRow.recurses == Tryz.prog.recurses 3)) = true := by kernel_rfl
theorem k12 : ((Rows.fnExactRunGroupRow.named == Tryz.prog.varsNamed 3)) = true := by kernel_rfl
theorem k13 : ((Rows.fnExactRunGroupRow.maps == (Tryz.f3.params.toList ++ Rows.fnExactRunGroupSpec.plain.varTypes Tryz.prog).any (Tryz.prog.mapsRec ·))) = true := by kernel_rfl
theorem k14 : ((Rows.fnExactRunGroupRow.ifaces == (Tryz.f3.params.toList ++ Rows.fnExactRunGroupSpec.plain.varTypes Tryz.prog).any (Tryz.prog.ifacesRec ·))) = true := by kernel_rfl
theorem k15 : ((Rows.fnExactRunGroupRow.mapsOut == Tryz.prog.mapsAmong Tryz.f3.resultTypes.toList)) = true := by kernel_rfl
theorem k16 : ((Rows.fnExactRunGroupRow.loops == (Tryz.f3.params.toList ++ Rows.fnExactRunGroupSpec.plain.varTypes Tryz.prog).any (Tryz.prog.loopsFrom ·))) = true := by kernel_rfl
theorem k17 : ((Rows.fnExactRunGroupRow.wideKeys == (Tryz.f3.params.toList ++ Rows.fnExactRunGroupSpec.plain.varTypes Tryz.prog ++ Tryz.f3.resultTypes.toList).any (Tryz.prog.wideKeysFrom ·))) = true := by kernel_rfl
theorem k18 : (Rows.fnExactRunGroupSpec.vars.all (Tryz.prog.varReadable ·)) = true := by kernel_rfl
theorem k19 : (Tryz.f3.resultTypes.all (fun t => Tryz.prog.readableRec t && decide (t < Tryz.prog.types.size))) = true := by kernel_rfl
theorem k20 : ((Rows.fnExactRunGroupRow.ifacesOut == Tryz.f3.resultTypes.toList.any (Tryz.prog.ifacesRec ·))) = true := by kernel_rfl
theorem k21 : ((Rows.fnExactRunGroupRow.loopsOut == Tryz.f3.resultTypes.toList.any (Tryz.prog.loopsFrom ·))) = true := by kernel_rfl
theorem k22 : ((Rows.fnExactRunGroupRow.plainKeys == Tryz.prog.plainKeys)) = true := by kernel_rfl
theorem k23 : (Rows.fnExactRunGroupRow.shortTexts.isNone) = true := by kernel_rfl
theorem k24 : (Tryz.prog.stopsHeard) = true := Core.ADN
theorem k25 : (Tryz.prog.mayEnter) = true := Core.enters
theorem k26 : ((Rows.fnExactRunGroupRow.lifted == Tryz.prog.liftsFinal)) = true := Core.ABX (Core.ACf.symm)
theorem k27 : ((Tryz.prog.make == some Rows.fnExactRunGroupRow.make)) = true := Core.ABX (a := Tryz.prog.make) Core.ADq
theorem k28 : ((Rows.fnExactRunGroupRow.kinds == (if Rows.fnExactRunGroupRow.domain.isEmpty then [] else Tryz.f3.params.toList.map fun t => match Tryz.prog.underlying t with | some (.int k) => some k | _ => none))) = true := by kernel_rfl
theorem k29 : ((Rows.fnExactRunGroupRow.pinned == Rows.fnExactRunGroupRow.pinnedBy)) = true := by kernel_rfl
theorem k30 : ((Rows.fnExactRunGroupRow.veiled == (Tryz.f3.params.toList ++ Rows.fnExactRunGroupSpec.plain.varTypes Tryz.prog ++ Tryz.f3.resultTypes.toList).any (Tryz.prog.veiledRec ·))) = true := by kernel_rfl
theorem k31 : (Rows.fnExactRunGroupRow.veiledFits Tryz.prog Tryz.f3.params.toList (Tryz.f3.params.toList ++ Rows.fnExactRunGroupSpec.plain.varTypes Tryz.prog ++ Tryz.f3.resultTypes.toList)) = true := by kernel_rfl
set_option maxRecDepth 100000 in
theorem closed : joinedFacts Tryz.prog 3 Tryz.f3 Rows.fnExactRunGroupSpec Rows.fnExactRunGroupRow = true := by
  unfold joinedFacts
  exact Core.Li (Core.Li (Core.Li (Core.Li (Core.Li (Core.Li (Core.Li (Core.Li (Core.Li (Core.Li (Core.Li (Core.Li (Core.Li (Core.Li (Core.Li (Core.Li (Core.Li (Core.Li (Core.Li (Core.Li (Core.Li (Core.Li (Core.Li (Core.Li (Core.Li (Core.Li (Core.Li (Core.Li (Core.Li (Core.Li (Core.Li k0 k1) k2) k3) k4) k5) k6) k7) k8) k9) k10) k11) k12) k13) k14) k15) k16) k17) k18) k19) k20) k21) k22) k23) k24) k25) k26) k27) k28) k29) k30) k31
theorem over : Rows.fnExactRunGroupRow.holds Tryz.pinned (OpenSpec.ofChange Rows.fnExactRunGroupSpec) :=
  OpenClaim.holds_of_wide 3 Tryz.f3 rfl rfl rfl rfl rfl rfl rfl ⟨rfl, rfl, rfl, rfl, rfl⟩ rfl rfl rfl rfl rfl (by kernel_rfl) Tryz.func3 closed
    (of_decide_eq_true (by kernel_rfl)) (by unfold Func.isWrapper; first | (rw [if_pos (by decide +kernel)]; kernel_rfl) | (rw [if_neg (by decide +kernel)]; exact ⟨rfl, rfl⟩))
    (fun os started H enc _ => lifted os started H enc)
theorem proved : Rows.FnExactRunGroupSaid := over
#print axioms proved
end Go.Proofs.YtfcgblnlopemkaaGreat.fnExactRunGroup
