/- The law FnInTime: whatever comes in, it answers true and touches nothing that was there. -/
import Derived.Test.YtokiohnjegbnpaaGreatP4
import Derived.Test.YtokiohnjegbnpaaGreatRows
import Derived.WalkKit
import Derived.ProofKit
import Derived.OpenShut
import Derived.Below
import Derived.SizedLaws
namespace Go.Proofs.YtokiohnjegbnpaaGreat.fnInTime
open Go.ChangeShapes Go.WideShapes Go.ChangeAt Go.RowKit
set_option linter.unusedVariables false
theorem own : ownKnob Tryz.prog.godebug = none := by kernel_rfl
theorem laidOut : laidOutB Tryz.prog = true := Core.qW
set_option maxRecDepth 100000 in
theorem lifted (os : Os) (started : os.Started) (H : Type) (enc : TypeId × Value → H) :
    ReturnsInHanded {} Tryz.checked os 4 .any (Rows.fnInTimeSpec.pre6 enc Tryz.prog Tryz.f4 Rows.fnInTimeRow.domain false) (Rows.fnInTimeSpec.post enc Tryz.prog Tryz.f4 false true false false) := by
  refine returnsInHanded_of_change (C := Tryz.checked) own started (by kernel_rfl) Tryz.func4
    (ChangeSpec.witness6 (enc := enc) (C := Tryz.checked) false ⟨#[], #[.slice none 0 0], []⟩ 8 (by kernel_rfl) (by kernel_rfl) (by kernel_rfl) (by kernel_rfl)) ?_
  intro W base args ds gs before hval0 hW hcnd hres
  have hval : ∀ (j : Nat) t v, Tryz.f4.params[j]? = some t → args[j]? = some v → Value.okWide Tryz.prog W .any base t v := hval0
  have hW' := hW
  obtain ⟨p, q, hA0, hV, rfl, hfz, hnd⟩ := hW
  have hA : DataW.TrodAll enc Tryz.prog W 0 (fun _ => true) true Tryz.f4.params.toList args.toList ds p := hA0
  rw [Tryz.params4] at hA hval
  obtain ⟨v0, vs0, d0, ds0, p0, q0, hargs0, rfl, rfl, h0, r0⟩ := trodAll_cons hA
  obtain ⟨rfl, rfl, rfl⟩ := trodAll_nil r0
  obtain rfl : args = #[v0] := by cases args; simp_all
  obtain ⟨rfl, rfl⟩ := trodVars_none hV
  have lt0 : ∀ x ∈ p0, x.block < W.heap.size := by obtain ⟨m, hm⟩ := h0; exact DataW.trod_lt m _ _ _ hm
  have ht0 : Core.ZG Tryz.prog 40 22 (.slice (.int .u8)) = true := by kernel_rfl
  obtain ⟨x0, e0, o0⟩ := Core.td ht0 (Core.vP ht0 (hval 0 22 v0 rfl rfl)) h0
  clear hA0 hval0
  refine (Core.ts (P := Tryz.prog) Core.xm Core.vg (f := 4) (args := [Core.Kd.av (.slice (.int .u8)) x0]) (Core.pN x0 o0) (W := W) (cargs := [v0]) ⟨v0, [], rfl, e0, rfl⟩).mono fun e W' ⟨he, bel⟩ => ?_
  subst he
  exact ⟨_, rfl, _, _, _, [], _, [], hW', trodAll_mk1 (shut_bool Tryz.underlying4 _), (trodAll_cons_mk (Below.trod laidOut (by kernel_rfl) (of_decide_eq_true (by kernel_rfl)) h0 bel lt0) trodAll_mk0), rfl, bel.frame _, fun h => by cases h⟩
theorem k0 : (Rows.fnInTimeRow.wf (OpenSpec.ofChange Rows.fnInTimeSpec)) = true := by kernel_rfl
theorem k1 : (laidOutB Tryz.prog) = true := Core.qW
theorem k2 : (mapsRowed Tryz.prog) = true := Core.rC
theorem k3 : (Tryz.f4.params.all (Tryz.prog.readableRec ·)) = true := by kernel_rfl
theorem k4 : (namedTie Tryz.prog Rows.fnInTimeRow.named Rows.fnInTimeSpec.vars) = true := by kernel_rfl
theorem k5 : ((Rows.fnInTimeRow.stops == [])) = true := by kernel_rfl
theorem k6 : ((Tryz.prog.stops == [])) = true := by kernel_rfl
theorem k7 : ((Rows.fnInTimeRow.knobs == [])) = true := by kernel_rfl
theorem k8 : ((Tryz.prog.stopKnobs == [])) = true := by kernel_rfl
theorem k9 : ((Rows.fnInTimeRow.inPlace == Tryz.prog.inPlace 4)) = true := by kernel_rfl
theorem k10 : ((Rows.fnInTimeRow.unfollowed == Tryz.prog.unfollowed 4)) = true := by kernel_rfl
theorem k11 : ((Rows.fnInTimeRow.recurses == Tryz.prog.recurses 4)) = true := by kernel_rfl
theorem k12 : ((Rows.fnInTimeRow.named == Tryz.prog.varsNamed 4)) = true := by kernel_rfl
theorem k13 : ((Rows.fnInTimeRow.maps == (Tryz.f4.params.toList ++ Rows.fnInTimeSpec.plain.varTypes Tryz.prog).any (Tryz.prog.mapsRec ·))) = true := by kernel_rfl
theorem k14 : ((Rows.fnInTimeRow.ifaces == (Tryz.f4.params.toList ++ Rows.fnInTimeSpec.plain.varTypes Tryz.prog).any (Tryz.prog.ifacesRec ·))) = true := by kernel_rfl
theorem k15 : ((Rows.fnInTimeRow.mapsOut == Tryz.prog.mapsAmong Tryz.f4.resultTypes.toList)) = true := by kernel_rfl
theorem k16 : ((Rows.fnInTimeRow.loops == (Tryz.f4.params.toList ++ Rows.fnInTimeSpec.plain.varTypes Tryz.prog).any (Tryz.prog.loopsFrom ·))) = true := by kernel_rfl
theorem k17 : ((Rows.fnInTimeRow.wideKeys == (Tryz.f4.params.toList ++ Rows.fnInTimeSpec.plain.varTypes Tryz.prog ++ Tryz.f4.resultTypes.toList).any (Tryz.prog.wideKeysFrom ·))) = true := by kernel_rfl
theorem k18 : (Rows.fnInTimeSpec.vars.all (Tryz.prog.varReadable ·)) = true := by kernel_rfl
theorem k19 : (Tryz.f4.resultTypes.all (fun t => Tryz.prog.readableRec t && decide (t < Tryz.prog.types.size))) = true := by kernel_rfl
theorem k20 : ((Rows.fnInTimeRow.ifacesOut == Tryz.f4.resultTypes.toList.any (Tryz.prog.ifacesRec ·))) = true := by kernel_rfl
theorem k21 : ((Rows.fnInTimeRow.loopsOut == Tryz.f4.resultTypes.toList.any (Tryz.prog.loopsFrom ·))) = true := by kernel_rfl
theorem k22 : ((Rows.fnInTimeRow.plainKeys == Tryz.prog.plainKeys)) = true := by kernel_rfl
theorem k23 : (Rows.fnInTimeRow.shortTexts.isNone) = true := by kernel_rfl
theorem k24 : (Tryz.prog.stopsHeard) = true := Core.xB
theorem k25 : (Tryz.prog.mayEnter) = true := Core.enters
theorem k26 : ((Rows.fnInTimeRow.lifted == Tryz.prog.liftsFinal)) = true := Core.uY (Core.v5.symm)
theorem k27 : ((Tryz.prog.make == some Rows.fnInTimeRow.make)) = true := Core.uY (a := Tryz.prog.make) Core.xp
theorem k28 : ((Rows.fnInTimeRow.kinds == (if Rows.fnInTimeRow.domain.isEmpty then [] else Tryz.f4.params.toList.map fun t => match Tryz.prog.underlying t with | some (.int k) => some k | _ => none))) = true := by kernel_rfl
theorem k29 : ((Rows.fnInTimeRow.pinned == Rows.fnInTimeRow.pinnedBy)) = true := by kernel_rfl
theorem k30 : ((Rows.fnInTimeRow.veiled == (Tryz.f4.params.toList ++ Rows.fnInTimeSpec.plain.varTypes Tryz.prog ++ Tryz.f4.resultTypes.toList).any (Tryz.prog.veiledRec ·))) = true := by kernel_rfl
theorem k31 : (Rows.fnInTimeRow.veiledFits Tryz.prog Tryz.f4.params.toList (Tryz.f4.params.toList ++ Rows.fnInTimeSpec.plain.varTypes Tryz.prog ++ Tryz.f4.resultTypes.toList)) = true := by kernel_rfl
set_option maxRecDepth 100000 in
theorem closed : joinedFacts Tryz.prog 4 Tryz.f4 Rows.fnInTimeSpec Rows.fnInTimeRow = true := by
  unfold joinedFacts
  exact Core.J6 (Core.J6 (Core.J6 (Core.J6 (Core.J6 (Core.J6 (Core.J6 (Core.J6 (Core.J6 (Core.J6 (Core.J6 (Core.J6 (Core.J6 (Core.J6 (Core.J6 (Core.J6 (Core.J6 (Core.J6 (Core.J6 (Core.J6 (Core.J6 (Core.J6 (Core.J6 (Core.J6 (Core.J6 (Core.J6 (Core.J6 (Core.J6 (Core.J6 (Core.J6 (Core.J6 k0 k1) k2) k3) k4) k5) k6) k7) k8) k9) k10) k11) k12) k13) k14) k15) k16) k17) k18) k19) k20) k21) k22) k23) k24) k25) k26) k27) k28) k29) k30) k31
theorem over : Rows.fnInTimeRow.holds Tryz.pinned (OpenSpec.ofChange Rows.fnInTimeSpec) :=
  OpenClaim.holds_of_wide 4 Tryz.f4 rfl rfl rfl rfl rfl rfl rfl ⟨rfl, rfl, rfl, rfl, rfl⟩ rfl rfl rfl rfl rfl (by kernel_rfl) Tryz.func4 closed
    (of_decide_eq_true (by kernel_rfl)) (by unfold Func.isWrapper; first | (rw [if_pos (by decide +kernel)]; kernel_rfl) | (rw [if_neg (by decide +kernel)]; exact ⟨rfl, rfl⟩))
    (fun os started H enc _ => lifted os started H enc)
theorem proved : Rows.FnInTimeSaid := over
#print axioms proved
end Go.Proofs.YtokiohnjegbnpaaGreat.fnInTime
