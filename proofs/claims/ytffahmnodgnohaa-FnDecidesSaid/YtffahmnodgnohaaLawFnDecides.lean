/- The law FnDecides: whatever comes in, it answers true and touches nothing that was there. -/
import Derived.Test.YtffahmnodgnohaaP3
import Derived.Test.YtffahmnodgnohaaRows
import Derived.WalkKit
import Derived.ProofKit
import Derived.OpenShut
import Derived.Below
import Derived.SizedLaws
namespace Go.Proofs.Ytffahmnodgnohaa.fnDecides
open Go.ChangeShapes Go.WideShapes Go.ChangeAt Go.RowKit
set_option linter.unusedVariables false
theorem own : ownKnob Try.prog.godebug = none := by kernel_rfl
theorem laidOut : laidOutB Try.prog = true := Core.Vf
set_option maxRecDepth 100000 in
theorem lifted (os : Os) (started : os.Started) (H : Type) (enc : TypeId × Value → H) :
    ReturnsInHanded {} Try.checked os 11 .any (Rows.fnDecidesSpec.pre6 enc Try.prog Try.f11 Rows.fnDecidesRow.domain false) (Rows.fnDecidesSpec.post enc Try.prog Try.f11 false true false false) := by
  refine returnsInHanded_of_change (C := Try.checked) own started (by kernel_rfl) Try.func11
    (ChangeSpec.witness6 (enc := enc) (C := Try.checked) false ⟨#[], #[.slice none 0 0], []⟩ 8 (by kernel_rfl) (by kernel_rfl) (by kernel_rfl) (by kernel_rfl)) ?_
  intro W base args ds gs before hval0 hW hcnd hres
  have hval : ∀ (j : Nat) t v, Try.f11.params[j]? = some t → args[j]? = some v → Value.okWide Try.prog W .any base t v := hval0
  have hW' := hW
  obtain ⟨p, q, hA0, hV, rfl, hfz, hnd⟩ := hW
  have hA : DataW.TrodAll enc Try.prog W 0 (fun _ => true) true Try.f11.params.toList args.toList ds p := hA0
  rw [Try.params11] at hA hval
  obtain ⟨v0, vs0, d0, ds0, p0, q0, hargs0, rfl, rfl, h0, r0⟩ := trodAll_cons hA
  obtain ⟨rfl, rfl, rfl⟩ := trodAll_nil r0
  obtain rfl : args = #[v0] := by cases args; simp_all
  obtain ⟨rfl, rfl⟩ := trodVars_none hV
  have lt0 : ∀ x ∈ p0, x.block < W.heap.size := by obtain ⟨m, hm⟩ := h0; exact DataW.trod_lt m _ _ _ hm
  have ht0 : Core.N5 Try.prog 40 38 (.slice (.int .u8)) = true := by kernel_rfl
  obtain ⟨x0, e0, o0⟩ := Core.X8 ht0 (Core.Y_ ht0 (hval 0 38 v0 rfl rfl)) h0
  clear hA0 hval0
  refine (Core.YF (P := Try.prog) Core.ae Core.ZG (f := 11) (args := [Core.Kd.av (.slice (.int .u8)) x0]) (Core.Tn x0 o0) (W := W) (cargs := [v0]) ⟨v0, [], rfl, e0, rfl⟩).mono fun e W' ⟨he, bel⟩ => ?_
  subst he
  exact ⟨_, rfl, _, _, _, [], _, [], hW', trodAll_mk1 (shut_bool Try.underlying4 _), (trodAll_cons_mk (Below.trod laidOut (by kernel_rfl) (of_decide_eq_true (by kernel_rfl)) h0 bel lt0) trodAll_mk0), rfl, bel.frame _, fun h => by cases h⟩
theorem k0 : (Rows.fnDecidesRow.wf (OpenSpec.ofChange Rows.fnDecidesSpec)) = true := by kernel_rfl
theorem k1 : (laidOutB Try.prog) = true := Core.Vf
theorem k2 : (mapsRowed Try.prog) = true := Core.WA
theorem k3 : (Try.f11.params.all (Try.prog.readableRec ·)) = true := by kernel_rfl
theorem k4 : (namedTie Try.prog Rows.fnDecidesRow.named Rows.fnDecidesSpec.vars) = true := by kernel_rfl
theorem k5 : ((Rows.fnDecidesRow.stops == [])) = true := by kernel_rfl
theorem k6 : ((Try.prog.stops == [])) = true := by kernel_rfl
theorem k7 : ((Rows.fnDecidesRow.knobs == [])) = true := by kernel_rfl
theorem k8 : ((Try.prog.stopKnobs == [])) = true := by kernel_rfl
theorem k9 : ((Rows.fnDecidesRow.inPlace == Try.prog.inPlace 11)) = true := by kernel_rfl
theorem k10 : ((Rows.fnDecidesRow.unfollowed == Try.prog.unfollowed 11)) = true := by kernel_rfl
theorem k11 : ((Rows.fnDecidesRow.recurses == Try.prog.recurses 11)) = true := by kernel_rfl
theorem k12 : ((Rows.fnDecidesRow.named == Try.prog.varsNamed 11)) = true := by kernel_rfl
theorem k13 : ((Rows.fnDecidesRow.maps == (Try.f11.params.toList ++ Rows.fnDecidesSpec.plain.varTypes Try.prog).any (Try.prog.mapsRec ·))) = true := by kernel_rfl
theorem k14 : ((Rows.fnDecidesRow.ifaces == (Try.f11.params.toList ++ Rows.fnDecidesSpec.plain.varTypes Try.prog).any (Try.prog.ifacesRec ·))) = true := by kernel_rfl
theorem k15 : ((Rows.fnDecidesRow.mapsOut == Try.prog.mapsAmong Try.f11.resultTypes.toList)) = true := by kernel_rfl
theorem k16 : ((Rows.fnDecidesRow.loops == (Try.f11.params.toList ++ Rows.fnDecidesSpec.plain.varTypes Try.prog).any (Try.prog.loopsFrom ·))) = true := by kernel_rfl
theorem k17 : ((Rows.fnDecidesRow.wideKeys == (Try.f11.params.toList ++ Rows.fnDecidesSpec.plain.varTypes Try.prog ++ Try.f11.resultTypes.toList).any (Try.prog.wideKeysFrom ·))) = true := by kernel_rfl
theorem k18 : (Rows.fnDecidesSpec.vars.all (Try.prog.varReadable ·)) = true := by kernel_rfl
theorem k19 : (Try.f11.resultTypes.all (fun t => Try.prog.readableRec t && decide (t < Try.prog.types.size))) = true := by kernel_rfl
theorem k20 : ((Rows.fnDecidesRow.ifacesOut == Try.f11.resultTypes.toList.any (Try.prog.ifacesRec ·))) = true := by kernel_rfl
theorem k21 : ((Rows.fnDecidesRow.loopsOut == Try.f11.resultTypes.toList.any (Try.prog.loopsFrom ·))) = true := by kernel_rfl
theorem k22 : ((Rows.fnDecidesRow.plainKeys == Try.prog.plainKeys)) = true := by kernel_rfl
theorem k23 : (Rows.fnDecidesRow.shortTexts.isNone) = true := by kernel_rfl
theorem k24 : (Try.prog.stopsHeard) = true := Core.Z0
theorem k25 : (Try.prog.mayEnter) = true := Core.Zz
theorem k26 : ((Rows.fnDecidesRow.lifted == Try.prog.liftsFinal)) = true := Core.YQ (Core.ZM.symm)
theorem k27 : ((Try.prog.make == some Rows.fnDecidesRow.make)) = true := Core.YQ (a := Try.prog.make) Core.ag
theorem k28 : ((Rows.fnDecidesRow.kinds == (if Rows.fnDecidesRow.domain.isEmpty then [] else Try.f11.params.toList.map fun t => match Try.prog.underlying t with | some (.int k) => some k | _ => none))) = true := by kernel_rfl
theorem k29 : ((Rows.fnDecidesRow.pinned == Rows.fnDecidesRow.pinnedBy)) = true := by kernel_rfl
theorem k30 : ((Rows.fnDecidesRow.veiled == (Try.f11.params.toList ++ Rows.fnDecidesSpec.plain.varTypes Try.prog ++ Try.f11.resultTypes.toList).any (Try.prog.veiledRec ·))) = true := by kernel_rfl
theorem k31 : (Rows.fnDecidesRow.veiledFits Try.prog Try.f11.params.toList (Try.f11.params.toList ++ Rows.fnDecidesSpec.plain.varTypes Try.prog ++ Try.f11.resultTypes.toList)) = true := by kernel_rfl
set_option maxRecDepth 100000 in
theorem closed : joinedFacts Try.prog 11 Try.f11 Rows.fnDecidesSpec Rows.fnDecidesRow = true := by
  unfold joinedFacts
  exact Core.Fo (Core.Fo (Core.Fo (Core.Fo (Core.Fo (Core.Fo (Core.Fo (Core.Fo (Core.Fo (Core.Fo (Core.Fo (Core.Fo (Core.Fo (Core.Fo (Core.Fo (Core.Fo (Core.Fo (Core.Fo (Core.Fo (Core.Fo (Core.Fo (Core.Fo (Core.Fo (Core.Fo (Core.Fo (Core.Fo (Core.Fo (Core.Fo (Core.Fo (Core.Fo (Core.Fo k0 k1) k2) k3) k4) k5) k6) k7) k8) k9) k10) k11) k12) k13) k14) k15) k16) k17) k18) k19) k20) k21) k22) k23) k24) k25) k26) k27) k28) k29) k30) k31
theorem over : Rows.fnDecidesRow.holds Try.pinned (OpenSpec.ofChange Rows.fnDecidesSpec) :=
  OpenClaim.holds_of_wide 11 Try.f11 rfl rfl rfl rfl rfl rfl rfl ⟨rfl, rfl, rfl, rfl, rfl⟩ rfl rfl rfl rfl rfl (by kernel_rfl) Try.func11 closed
    (of_decide_eq_true (by kernel_rfl)) (by unfold Func.isWrapper; first | (rw [if_pos (by decide +kernel)]; kernel_rfl) | (rw [if_neg (by decide +kernel)]; exact ⟨rfl, rfl⟩))
    (fun os started H enc _ => lifted os started H enc)
theorem proved : Rows.FnDecidesSaid := over
#print axioms proved
end Go.Proofs.Ytffahmnodgnohaa.fnDecides
