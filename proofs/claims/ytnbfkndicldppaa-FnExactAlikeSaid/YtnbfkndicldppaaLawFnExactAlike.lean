/- The law FnExactAlike: whatever comes in, it answers true and touches nothing that was there. -/
import Derived.Test.YtnbfkndicldppaaRows
import Derived.Test.YtnbfkndicldppaaAlike
import Derived.Test.YtnbfkndicldppaaClosed
import Derived.WalkKit
import Derived.ProofKit
import Derived.OpenShut
import Derived.Below
import Derived.SizedLaws
namespace Go.Proofs.Ytnbfkndicldppaa.fnExactAlike
open Go.ChangeShapes Go.WideShapes Go.ChangeAt Go.RowKit
set_option linter.unusedVariables false
theorem own : ownKnob Try.prog.godebug = none := by kernel_rfl
theorem laidOut : laidOutB Try.prog = true := Core.laidOutP
set_option maxRecDepth 100000 in
theorem lifted (os : Os) (started : os.Started) (H : Type) (enc : TypeId × Value → H) :
    ReturnsInHanded {} Try.checked os 18 .any (Rows.fnExactAlikeSpec.pre6 enc Try.prog Try.f18 Rows.fnExactAlikeRow.domain false) (Rows.fnExactAlikeSpec.post enc Try.prog Try.f18 false true false false) := by
  refine returnsInHanded_of_change (C := Try.checked) own started (by kernel_rfl) Try.func18
    (ChangeSpec.witness6 (enc := enc) (C := Try.checked) false ⟨#[], #[.agg #[.slice none 0 0, .slice none 0 0, .slice none 0 0, .slice none 0 0]], []⟩ 8 (by kernel_rfl) (by kernel_rfl) (by kernel_rfl) (by kernel_rfl)) ?_
  intro W base args ds gs before hval0 hW hcnd hres
  have hval : ∀ (j : Nat) t v, Try.f18.params[j]? = some t → args[j]? = some v → Value.okWide Try.prog W .any base t v := hval0
  have hW' := hW
  obtain ⟨p, q, hA0, hV, rfl, hfz, hnd⟩ := hW
  have hA : DataW.TrodAll enc Try.prog W 0 (fun _ => true) true Try.f18.params.toList args.toList ds p := hA0
  rw [Try.params18] at hA hval
  obtain ⟨v0, vs0, d0, ds0, p0, q0, hargs0, rfl, rfl, h0, r0⟩ := trodAll_cons hA
  obtain ⟨rfl, rfl, rfl⟩ := trodAll_nil r0
  obtain rfl : args = #[v0] := by cases args; simp_all
  obtain ⟨rfl, rfl⟩ := trodVars_none hV
  have lt0 : ∀ x ∈ p0, x.block < W.heap.size := by obtain ⟨m, hm⟩ := h0; exact DataW.trod_lt m _ _ _ hm
  have ht0 : Core.typeB Try.prog 40 132 Core.k_Group = true := by kernel_rfl
  obtain ⟨x0, e0, o0⟩ := Core.open_arg ht0 (Core.fits_ok ht0 (hval 0 132 v0 rfl rfl)) h0
  clear hA0 hval0
  refine (Core.law_true (P := Try.prog) Core.tied Core.primsOk (f := 18) (args := [Core.Kd.av Core.k_Group x0]) (Core.law_FnExactAlike x0 o0) (W := W) (cargs := [v0]) ⟨v0, [], rfl, e0, rfl⟩).mono fun e W' ⟨he, bel⟩ => ?_
  subst he
  exact ⟨_, rfl, _, _, _, [], _, [], hW', trodAll_mk1 (shut_bool Try.underlying4 _), (trodAll_cons_mk (Below.trod laidOut (by kernel_rfl) (of_decide_eq_true (by kernel_rfl)) h0 bel lt0) trodAll_mk0), rfl, bel.frame _, fun h => by cases h⟩
theorem k0 : (Rows.fnExactAlikeRow.wf (OpenSpec.ofChange Rows.fnExactAlikeSpec)) = true := by kernel_rfl
theorem k1 : (laidOutB Try.prog) = true := Core.laidOutP
theorem k2 : (mapsRowed Try.prog) = true := Core.mapsRowedP
theorem k3 : (Try.f18.params.all (Try.prog.readableRec ·)) = true := by kernel_rfl
theorem k4 : (namedTie Try.prog Rows.fnExactAlikeRow.named Rows.fnExactAlikeSpec.vars) = true := by kernel_rfl
theorem k5 : ((Rows.fnExactAlikeRow.stops == [])) = true := by kernel_rfl
theorem k6 : ((Try.prog.stops == [])) = true := by kernel_rfl
theorem k7 : ((Rows.fnExactAlikeRow.knobs == [])) = true := by kernel_rfl
theorem k8 : ((Try.prog.stopKnobs == [])) = true := by kernel_rfl
theorem k9 : ((Rows.fnExactAlikeRow.inPlace == Try.prog.inPlace 18)) = true := by kernel_rfl
theorem k10 : ((Rows.fnExactAlikeRow.unfollowed == Try.prog.unfollowed 18)) = true := by kernel_rfl
theorem k11 : ((Rows.fnExactAlikeRow.recurses == Try.prog.recurses 18)) = true := by kernel_rfl
theorem k12 : ((Rows.fnExactAlikeRow.named == Try.prog.varsNamed 18)) = true := by kernel_rfl
theorem k13 : ((Rows.fnExactAlikeRow.maps == (Try.f18.params.toList ++ Rows.fnExactAlikeSpec.plain.varTypes Try.prog).any (Try.prog.mapsRec ·))) = true := by kernel_rfl
theorem k14 : ((Rows.fnExactAlikeRow.ifaces == (Try.f18.params.toList ++ Rows.fnExactAlikeSpec.plain.varTypes Try.prog).any (Try.prog.ifacesRec ·))) = true := by kernel_rfl
theorem k15 : ((Rows.fnExactAlikeRow.mapsOut == Try.prog.mapsAmong Try.f18.resultTypes.toList)) = true := by kernel_rfl
theorem k16 : ((Rows.fnExactAlikeRow.loops == (Try.f18.params.toList ++ Rows.fnExactAlikeSpec.plain.varTypes Try.prog).any (Try.prog.loopsFrom ·))) = true := by kernel_rfl
theorem k17 : ((Rows.fnExactAlikeRow.wideKeys == (Try.f18.params.toList ++ Rows.fnExactAlikeSpec.plain.varTypes Try.prog ++ Try.f18.resultTypes.toList).any (Try.prog.wideKeysFrom ·))) = true := by kernel_rfl
theorem k18 : (Rows.fnExactAlikeSpec.vars.all (Try.prog.varReadable ·)) = true := by kernel_rfl
theorem k19 : (Try.f18.resultTypes.all (fun t => Try.prog.readableRec t && decide (t < Try.prog.types.size))) = true := by kernel_rfl
theorem k20 : ((Rows.fnExactAlikeRow.ifacesOut == Try.f18.resultTypes.toList.any (Try.prog.ifacesRec ·))) = true := by kernel_rfl
theorem k21 : ((Rows.fnExactAlikeRow.loopsOut == Try.f18.resultTypes.toList.any (Try.prog.loopsFrom ·))) = true := by kernel_rfl
theorem k22 : ((Rows.fnExactAlikeRow.plainKeys == Try.prog.plainKeys)) = true := by kernel_rfl
theorem k23 : (Rows.fnExactAlikeRow.shortTexts.isNone) = true := by kernel_rfl
theorem k24 : (Try.prog.stopsHeard) = true := Core.heardP
theorem k25 : (Try.prog.mayEnter) = true := Core.enters
theorem k26 : ((Rows.fnExactAlikeRow.lifted == Try.prog.liftsFinal)) = true := Core.beq_of (Core.noFinal.symm)
theorem k27 : ((Try.prog.make == some Rows.fnExactAlikeRow.make)) = true := Core.beq_of (a := Try.prog.make) Core.made
theorem k28 : ((Rows.fnExactAlikeRow.kinds == (if Rows.fnExactAlikeRow.domain.isEmpty then [] else Try.f18.params.toList.map fun t => match Try.prog.underlying t with | some (.int k) => some k | _ => none))) = true := by kernel_rfl
theorem k29 : ((Rows.fnExactAlikeRow.pinned == Rows.fnExactAlikeRow.pinnedBy)) = true := by kernel_rfl
theorem k30 : ((Rows.fnExactAlikeRow.veiled == (Try.f18.params.toList ++ Rows.fnExactAlikeSpec.plain.varTypes Try.prog ++ Try.f18.resultTypes.toList).any (Try.prog.veiledRec ·))) = true := by kernel_rfl
theorem k31 : (Rows.fnExactAlikeRow.veiledFits Try.prog Try.f18.params.toList (Try.f18.params.toList ++ Rows.fnExactAlikeSpec.plain.varTypes Try.prog ++ Try.f18.resultTypes.toList)) = true := by kernel_rfl
set_option maxRecDepth 100000 in
theorem closed : joinedFacts Try.prog 18 Try.f18 Rows.fnExactAlikeSpec Rows.fnExactAlikeRow = true := by
  unfold joinedFacts
  exact Core.band (Core.band (Core.band (Core.band (Core.band (Core.band (Core.band (Core.band (Core.band (Core.band (Core.band (Core.band (Core.band (Core.band (Core.band (Core.band (Core.band (Core.band (Core.band (Core.band (Core.band (Core.band (Core.band (Core.band (Core.band (Core.band (Core.band (Core.band (Core.band (Core.band (Core.band k0 k1) k2) k3) k4) k5) k6) k7) k8) k9) k10) k11) k12) k13) k14) k15) k16) k17) k18) k19) k20) k21) k22) k23) k24) k25) k26) k27) k28) k29) k30) k31
theorem over : Rows.fnExactAlikeRow.holds Try.pinned (OpenSpec.ofChange Rows.fnExactAlikeSpec) :=
  OpenClaim.holds_of_wide 18 Try.f18 rfl rfl rfl rfl rfl rfl rfl ⟨rfl, rfl, rfl, rfl, rfl⟩ rfl rfl rfl rfl rfl (by kernel_rfl) Try.func18 closed
    (of_decide_eq_true (by kernel_rfl)) (by unfold Func.isWrapper; first | (rw [if_pos (by decide +kernel)]; kernel_rfl) | (rw [if_neg (by decide +kernel)]; exact ⟨rfl, rfl⟩))
    (fun os started H enc _ => lifted os started H enc)
theorem proved : Rows.FnExactAlikeSaid := over
#print axioms proved
end Go.Proofs.Ytnbfkndicldppaa.fnExactAlike
