/- The law FnExactCouncilNew: whatever comes in, it answers true and touches nothing that was there. -/
import Derived.Test.YtffahmnodgnohaaP2
import Derived.Test.YtffahmnodgnohaaRows
import Derived.WalkKit
import Derived.ProofKit
import Derived.OpenShut
import Derived.Below
import Derived.SizedLaws
namespace Go.Proofs.Ytffahmnodgnohaa.fnExactCouncilNew
open Go.ChangeShapes Go.WideShapes Go.ChangeAt Go.RowKit
set_option linter.unusedVariables false
theorem own : ownKnob Try.prog.godebug = none := by kernel_rfl
theorem laidOut : laidOutB Try.prog = true := Core.M9
set_option maxRecDepth 100000 in
theorem lifted (os : Os) (started : os.Started) (H : Type) (enc : TypeId × Value → H) :
    ReturnsInHanded {} Try.checked os 7 .any (Rows.fnExactCouncilNewSpec.pre6 enc Try.prog Try.f7 Rows.fnExactCouncilNewRow.domain false) (Rows.fnExactCouncilNewSpec.post enc Try.prog Try.f7 false true false false) := by
  refine returnsInHanded_of_change (C := Try.checked) own started (by kernel_rfl) Try.func7
    (ChangeSpec.witness6 (enc := enc) (C := Try.checked) false ⟨#[], #[.int .i64 0, .int .i64 0], []⟩ 8 (by kernel_rfl) (by kernel_rfl) (by kernel_rfl) (by kernel_rfl)) ?_
  intro W base args ds gs before hval0 hW hcnd hres
  have hval : ∀ (j : Nat) t v, Try.f7.params[j]? = some t → args[j]? = some v → Value.okWide Try.prog W .any base t v := hval0
  have hW' := hW
  obtain ⟨p, q, hA0, hV, rfl, hfz, hnd⟩ := hW
  have hA : DataW.TrodAll enc Try.prog W 0 (fun _ => true) true Try.f7.params.toList args.toList ds p := hA0
  rw [Try.params7] at hA hval
  obtain ⟨v0, vs0, d0, ds0, p0, q0, hargs0, rfl, rfl, h0, r0⟩ := trodAll_cons hA
  obtain ⟨v1, vs1, d1, ds1, p1, q1, hargs1, rfl, rfl, h1, r1⟩ := trodAll_cons r0
  obtain ⟨rfl, rfl, rfl⟩ := trodAll_nil r1
  obtain rfl : args = #[v0, v1] := by cases args; simp_all
  obtain ⟨rfl, rfl⟩ := trodVars_none hV
  have lt0 : ∀ x ∈ p0, x.block < W.heap.size := by obtain ⟨m, hm⟩ := h0; exact DataW.trod_lt m _ _ _ hm
  have ht0 : Core.Gu Try.prog 40 3 (.int .i64) = true := by kernel_rfl
  obtain ⟨x0, e0, o0⟩ := Core.M2 ht0 (Core.Nl ht0 (hval 0 3 v0 rfl rfl)) h0
  have lt1 : ∀ x ∈ p1, x.block < W.heap.size := by obtain ⟨m, hm⟩ := h1; exact DataW.trod_lt m _ _ _ hm
  have ht1 : Core.Gu Try.prog 40 3 (.int .i64) = true := by kernel_rfl
  obtain ⟨x1, e1, o1⟩ := Core.M2 ht1 (Core.Nl ht1 (hval 1 3 v1 rfl rfl)) h1
  clear hA0 hval0
  refine (Core.O0 (P := Try.prog) Core.Qy Core.Po (f := 7) (args := [Core.Kd.av (.int .i64) x0, Core.Kd.av (.int .i64) x1]) (Core.Gi x0 o0 x1 o1) (W := W) (cargs := [v0, v1]) ⟨v0, [v1], rfl, e0, v1, [], rfl, e1, rfl⟩).mono fun e W' ⟨he, bel⟩ => ?_
  subst he
  exact ⟨_, rfl, _, _, _, [], _, [], hW', trodAll_mk1 (shut_bool Try.underlying4 _), (trodAll_cons_mk (Below.trod laidOut (by kernel_rfl) (of_decide_eq_true (by kernel_rfl)) h0 bel lt0) (trodAll_cons_mk (Below.trod laidOut (by kernel_rfl) (of_decide_eq_true (by kernel_rfl)) h1 bel lt1) trodAll_mk0)), rfl, bel.frame _, fun h => by cases h⟩
theorem k0 : (Rows.fnExactCouncilNewRow.wf (OpenSpec.ofChange Rows.fnExactCouncilNewSpec)) = true := by kernel_rfl
theorem k1 : (laidOutB Try.prog) = true := Core.M9
theorem k2 : (mapsRowed Try.prog) = true := Core.NR
theorem k3 : (Try.f7.params.all (Try.prog.readableRec ·)) = true := by kernel_rfl
theorem k4 : (namedTie Try.prog Rows.fnExactCouncilNewRow.named Rows.fnExactCouncilNewSpec.vars) = true := by kernel_rfl
theorem k5 : ((Rows.fnExactCouncilNewRow.stops == [])) = true := by kernel_rfl
theorem k6 : ((Try.prog.stops == [])) = true := by kernel_rfl
theorem k7 : ((Rows.fnExactCouncilNewRow.knobs == [])) = true := by kernel_rfl
theorem k8 : ((Try.prog.stopKnobs == [])) = true := by kernel_rfl
theorem k9 : ((Rows.fnExactCouncilNewRow.inPlace == Try.prog.inPlace 7)) = true := by kernel_rfl
theorem k10 : ((Rows.fnExactCouncilNewRow.unfollowed == Try.prog.unfollowed 7)) = true := by kernel_rfl
theorem k11 : ((Rows.fnExactCouncilNewRow.recurses == Try.prog.recurses 7)) = true := by kernel_rfl
theorem k12 : ((Rows.fnExactCouncilNewRow.named == Try.prog.varsNamed 7)) = true := by kernel_rfl
theorem k13 : ((Rows.fnExactCouncilNewRow.maps == (Try.f7.params.toList ++ Rows.fnExactCouncilNewSpec.plain.varTypes Try.prog).any (Try.prog.mapsRec ·))) = true := by kernel_rfl
theorem k14 : ((Rows.fnExactCouncilNewRow.ifaces == (Try.f7.params.toList ++ Rows.fnExactCouncilNewSpec.plain.varTypes Try.prog).any (Try.prog.ifacesRec ·))) = true := by kernel_rfl
theorem k15 : ((Rows.fnExactCouncilNewRow.mapsOut == Try.prog.mapsAmong Try.f7.resultTypes.toList)) = true := by kernel_rfl
theorem k16 : ((Rows.fnExactCouncilNewRow.loops == (Try.f7.params.toList ++ Rows.fnExactCouncilNewSpec.plain.varTypes Try.prog).any (Try.prog.loopsFrom ·))) = true := by kernel_rfl
theorem k17 : ((Rows.fnExactCouncilNewRow.wideKeys == (Try.f7.params.toList ++ Rows.fnExactCouncilNewSpec.plain.varTypes Try.prog ++ Try.f7.resultTypes.toList).any (Try.prog.wideKeysFrom ·))) = true := by kernel_rfl
theorem k18 : (Rows.fnExactCouncilNewSpec.vars.all (Try.prog.varReadable ·)) = true := by kernel_rfl
theorem k19 : (Try.f7.resultTypes.all (fun t => Try.prog.readableRec t && decide (t < Try.prog.types.size))) = true := by kernel_rfl
theorem k20 : ((Rows.fnExactCouncilNewRow.ifacesOut == Try.f7.resultTypes.toList.any (Try.prog.ifacesRec ·))) = true := by kernel_rfl
theorem k21 : ((Rows.fnExactCouncilNewRow.loopsOut == Try.f7.resultTypes.toList.any (Try.prog.loopsFrom ·))) = true := by kernel_rfl
theorem k22 : ((Rows.fnExactCouncilNewRow.plainKeys == Try.prog.plainKeys)) = true := by kernel_rfl
theorem k23 : (Rows.fnExactCouncilNewRow.shortTexts.isNone) = true := by kernel_rfl
theorem k24 : (Try.prog.stopsHeard) = true := Core.QO
theorem k25 : (Try.prog.mayEnter) = true := Core.QN
theorem k26 : ((Rows.fnExactCouncilNewRow.lifted == Try.prog.liftsFinal)) = true := Core.O4 (Core.Pp.symm)
theorem k27 : ((Try.prog.make == some Rows.fnExactCouncilNewRow.make)) = true := Core.O4 (a := Try.prog.make) Core.Q0
theorem k28 : ((Rows.fnExactCouncilNewRow.kinds == (if Rows.fnExactCouncilNewRow.domain.isEmpty then [] else Try.f7.params.toList.map fun t => match Try.prog.underlying t with | some (.int k) => some k | _ => none))) = true := by kernel_rfl
theorem k29 : ((Rows.fnExactCouncilNewRow.pinned == Rows.fnExactCouncilNewRow.pinnedBy)) = true := by kernel_rfl
theorem k30 : ((Rows.fnExactCouncilNewRow.veiled == (Try.f7.params.toList ++ Rows.fnExactCouncilNewSpec.plain.varTypes Try.prog ++ Try.f7.resultTypes.toList).any (Try.prog.veiledRec ·))) = true := by kernel_rfl
theorem k31 : (Rows.fnExactCouncilNewRow.veiledFits Try.prog Try.f7.params.toList (Try.f7.params.toList ++ Rows.fnExactCouncilNewSpec.plain.varTypes Try.prog ++ Try.f7.resultTypes.toList)) = true := by kernel_rfl
set_option maxRecDepth 100000 in
theorem closed : joinedFacts Try.prog 7 Try.f7 Rows.fnExactCouncilNewSpec Rows.fnExactCouncilNewRow = true := by
  unfold joinedFacts
  exact Core.DH (Core.DH (Core.DH (Core.DH (Core.DH (Core.DH (Core.DH (Core.DH (Core.DH (Core.DH (Core.DH (Core.DH (Core.DH (Core.DH (Core.DH (Core.DH (Core.DH (Core.DH (Core.DH (Core.DH (Core.DH (Core.DH (Core.DH (Core.DH (Core.DH (Core.DH (Core.DH (Core.DH (Core.DH (Core.DH (Core.DH k0 k1) k2) k3) k4) k5) k6) k7) k8) k9) k10) k11) k12) k13) k14) k15) k16) k17) k18) k19) k20) k21) k22) k23) k24) k25) k26) k27) k28) k29) k30) k31
theorem over : Rows.fnExactCouncilNewRow.holds Try.pinned (OpenSpec.ofChange Rows.fnExactCouncilNewSpec) :=
  OpenClaim.holds_of_wide 7 Try.f7 rfl rfl rfl rfl rfl rfl rfl ⟨rfl, rfl, rfl, rfl, rfl⟩ rfl rfl rfl rfl rfl (by kernel_rfl) Try.func7 closed
    (of_decide_eq_true (by kernel_rfl)) (by unfold Func.isWrapper; first | (rw [if_pos (by decide +kernel)]; kernel_rfl) | (rw [if_neg (by decide +kernel)]; exact ⟨rfl, rfl⟩))
    (fun os started H enc _ => lifted os started H enc)
theorem proved : Rows.FnExactCouncilNewSaid := over
#print axioms proved
end Go.Proofs.Ytffahmnodgnohaa.fnExactCouncilNew
