/- The law FnExactGroupNew: whatever comes in, it answers true and touches nothing that was there. -/
import Derived.Test.YtffahmnodgnohaaP3
import Derived.Test.YtffahmnodgnohaaRows
import Derived.WalkKit
import Derived.ProofKit
import Derived.OpenShut
import Derived.Below
import Derived.SizedLaws
namespace Go.Proofs.Ytffahmnodgnohaa.fnExactGroupNew
open Go.ChangeShapes Go.WideShapes Go.ChangeAt Go.RowKit
set_option linter.unusedVariables false
theorem own : ownKnob Try.prog.godebug = none := by kernel_rfl
theorem laidOut : laidOutB Try.prog = true := Core.TJ
set_option maxRecDepth 100000 in
theorem lifted (os : Os) (started : os.Started) (H : Type) (enc : TypeId × Value → H) :
    ReturnsInHanded {} Try.checked os 8 .any (Rows.fnExactGroupNewSpec.pre6 enc Try.prog Try.f8 Rows.fnExactGroupNewRow.domain false) (Rows.fnExactGroupNewSpec.post enc Try.prog Try.f8 false true false false) := by
  refine returnsInHanded_of_change (C := Try.checked) own started (by kernel_rfl) Try.func8
    (ChangeSpec.witness6 (enc := enc) (C := Try.checked) false ⟨#[], #[.slice none 0 0], []⟩ 8 (by kernel_rfl) (by kernel_rfl) (by kernel_rfl) (by kernel_rfl)) ?_
  intro W base args ds gs before hval0 hW hcnd hres
  have hval : ∀ (j : Nat) t v, Try.f8.params[j]? = some t → args[j]? = some v → Value.okWide Try.prog W .any base t v := hval0
  have hW' := hW
  obtain ⟨p, q, hA0, hV, rfl, hfz, hnd⟩ := hW
  have hA : DataW.TrodAll enc Try.prog W 0 (fun _ => true) true Try.f8.params.toList args.toList ds p := hA0
  rw [Try.params8] at hA hval
  obtain ⟨v0, vs0, d0, ds0, p0, q0, hargs0, rfl, rfl, h0, r0⟩ := trodAll_cons hA
  obtain ⟨rfl, rfl, rfl⟩ := trodAll_nil r0
  obtain rfl : args = #[v0] := by cases args; simp_all
  obtain ⟨rfl, rfl⟩ := trodVars_none hV
  have lt0 : ∀ x ∈ p0, x.block < W.heap.size := by obtain ⟨m, hm⟩ := h0; exact DataW.trod_lt m _ _ _ hm
  have ht0 : Core.LJ Try.prog 40 46 (.slice (.slice (.int .i64))) = true := by kernel_rfl
  obtain ⟨x0, e0, o0⟩ := Core.Vn ht0 (Core.Ws ht0 (hval 0 46 v0 rfl rfl)) h0
  clear hA0 hval0
  refine (Core.Vv (P := Try.prog) Core.X_ Core.Wv (f := 8) (args := [Core.Kd.av (.slice (.slice (.int .i64))) x0]) (Core.LB x0 o0) (W := W) (cargs := [v0]) ⟨v0, [], rfl, e0, rfl⟩).mono fun e W' ⟨he, bel⟩ => ?_
  subst he
  exact ⟨_, rfl, _, _, _, [], _, [], hW', trodAll_mk1 (shut_bool Try.underlying4 _), (trodAll_cons_mk (Below.trod laidOut (by kernel_rfl) (of_decide_eq_true (by kernel_rfl)) h0 bel lt0) trodAll_mk0), rfl, bel.frame _, fun h => by cases h⟩
theorem k0 : (Rows.fnExactGroupNewRow.wf (OpenSpec.ofChange Rows.fnExactGroupNewSpec)) = true := by kernel_rfl
theorem k1 : (laidOutB Try.prog) = true := Core.TJ
theorem k2 : (mapsRowed Try.prog) = true := Core.Ts
theorem k3 : (Try.f8.params.all (Try.prog.readableRec ·)) = true := by kernel_rfl
theorem k4 : (namedTie Try.prog Rows.fnExactGroupNewRow.named Rows.fnExactGroupNewSpec.vars) = true := by kernel_rfl
theorem k5 : ((Rows.fnExactGroupNewRow.stops == [])) = true := by kernel_rfl
theorem k6 : ((Try.prog.stops == [])) = true := by kernel_rfl
theorem k7 : ((Rows.fnExactGroupNewRow.knobs == [])) = true := by kernel_rfl
theorem k8 : ((Try.prog.stopKnobs == [])) = true := by kernel_rfl
theorem k9 : ((Rows.fnExactGroupNewRow.inPlace == Try.prog.inPlace 8)) = true := by kernel_rfl
theorem k10 : ((Rows.fnExactGroupNewRow.unfollowed == Try.prog.unfollowed 8)) = true := by kernel_rfl
theorem k11 : ((Rows.fnExactGroupNewRow.recurses == Try.prog.recurses 8)) = true := by kernel_rfl
theorem k12 : ((Rows.fnExactGroupNewRow.named == Try.prog.varsNamed 8)) = true := by kernel_rfl
theorem k13 : ((Rows.fnExactGroupNewRow.maps == (Try.f8.params.toList ++ Rows.fnExactGroupNewSpec.plain.varTypes Try.prog).any (Try.prog.mapsRec ·))) = true := by kernel_rfl
theorem k14 : ((Rows.fnExactGroupNewRow.ifaces == (Try.f8.params.toList ++ Rows.fnExactGroupNewSpec.plain.varTypes Try.prog).any (Try.prog.ifacesRec ·))) = true := by kernel_rfl
theorem k15 : ((Rows.fnExactGroupNewRow.mapsOut == Try.prog.mapsAmong Try.f8.resultTypes.toList)) = true := by kernel_rfl
theorem k16 : ((Rows.fnExactGroupNewRow.loops == (Try.f8.params.toList ++ Rows.fnExactGroupNewSpec.plain.varTypes Try.prog).any (Try.prog.loopsFrom ·))) = true := by kernel_rfl
theorem k17 : ((Rows.fnExactGroupNewRow.wideKeys == (Try.f8.params.toList ++ Rows.fnExactGroupNewSpec.plain.varTypes Try.prog ++ Try.f8.resultTypes.toList).any (Try.prog.wideKeysFrom ·))) = true := by kernel_rfl
theorem k18 : (Rows.fnExactGroupNewSpec.vars.all (Try.prog.varReadable ·)) = true := by kernel_rfl
theorem k19 : (Try.f8.resultTypes.all (fun t => Try.prog.readableRec t && decide (t < Try.prog.types.size))) = true := by kernel_rfl
theorem k20 : ((Rows.fnExactGroupNewRow.ifacesOut == Try.f8.resultTypes.toList.any (Try.prog.ifacesRec ·))) = true := by kernel_rfl
theorem k21 : ((Rows.fnExactGroupNewRow.loopsOut == Try.f8.resultTypes.toList.any (Try.prog.loopsFrom ·))) = true := by kernel_rfl
theorem k22 : ((Rows.fnExactGroupNewRow.plainKeys == Try.prog.plainKeys)) = true := by kernel_rfl
theorem k23 : (Rows.fnExactGroupNewRow.shortTexts.isNone) = true := by kernel_rfl
theorem k24 : (Try.prog.stopsHeard) = true := Core.Xb
theorem k25 : (Try.prog.mayEnter) = true := Core.Xa
theorem k26 : ((Rows.fnExactGroupNewRow.lifted == Try.prog.liftsFinal)) = true := Core.WA (Core.W0.symm)
theorem k27 : ((Try.prog.make == some Rows.fnExactGroupNewRow.make)) = true := Core.WA (a := Try.prog.make) Core.YB
theorem k28 : ((Rows.fnExactGroupNewRow.kinds == (if Rows.fnExactGroupNewRow.domain.isEmpty then [] else Try.f8.params.toList.map fun t => match Try.prog.underlying t with | some (.int k) => some k | _ => none))) = true := by kernel_rfl
theorem k29 : ((Rows.fnExactGroupNewRow.pinned == Rows.fnExactGroupNewRow.pinnedBy)) = true := by kernel_rfl
theorem k30 : ((Rows.fnExactGroupNewRow.veiled == (Try.f8.params.toList ++ Rows.fnExactGroupNewSpec.plain.varTypes Try.prog ++ Try.f8.resultTypes.toList).any (Try.prog.veiledRec ·))) = true := by kernel_rfl
theorem k31 : (Rows.fnExactGroupNewRow.veiledFits Try.prog Try.f8.params.toList (Try.f8.params.toList ++ Rows.fnExactGroupNewSpec.plain.varTypes Try.prog ++ Try.f8.resultTypes.toList)) = true := by kernel_rfl
set_option maxRecDepth 100000 in
theorem closed : joinedFacts Try.prog 8 Try.f8 Rows.fnExactGroupNewSpec Rows.fnExactGroupNewRow = true := by
  unfold joinedFacts
  exact Core.Eo (Core.Eo (Core.Eo (Core.Eo (Core.Eo (Core.Eo (Core.Eo (Core.Eo (Core.Eo (Core.Eo (Core.Eo (Core.Eo (Core.Eo (Core.Eo (Core.Eo (Core.Eo (Core.Eo (Core.Eo (Core.Eo (Core.Eo (Core.Eo (Core.Eo (Core.Eo (Core.Eo (Core.Eo (Core.Eo (Core.Eo (Core.Eo (Core.Eo (Core.Eo (Core.Eo k0 k1) k2) k3) k4) k5) k6) k7) k8) k9) k10) k11) k12) k13) k14) k15) k16) k17) k18) k19) k20) k21) k22) k23) k24) k25) k26) k27) k28) k29) k30) k31
theorem over : Rows.fnExactGroupNewRow.holds Try.pinned (OpenSpec.ofChange Rows.fnExactGroupNewSpec) :=
  OpenClaim.holds_of_wide 8 Try.f8 rfl rfl rfl rfl rfl rfl rfl ⟨rfl, rfl, rfl, rfl, rfl⟩ rfl rfl rfl rfl rfl (by kernel_rfl) Try.func8 closed
    (of_decide_eq_true (by kernel_rfl)) (by unfold Func.isWrapper; first | (rw [if_pos (by decide +kernel)]; kernel_rfl) | (rw [if_neg (by decide +kernel)]; exact ⟨rfl, rfl⟩))
    (fun os started H enc _ => lifted os started H enc)
theorem proved : Rows.FnExactGroupNewSaid := over
#print axioms proved
end Go.Proofs.Ytffahmnodgnohaa.fnExactGroupNew
