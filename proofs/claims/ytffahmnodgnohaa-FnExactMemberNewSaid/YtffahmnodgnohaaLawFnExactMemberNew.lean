/- The law FnExactMemberNew: whatever comes in, it answers true and touches nothing that was there. -/
import Derived.Test.YtffahmnodgnohaaP2
import Derived.Test.YtffahmnodgnohaaRows
import Derived.WalkKit
import Derived.ProofKit
import Derived.OpenShut
import Derived.Below
import Derived.SizedLaws
namespace Go.Proofs.Ytffahmnodgnohaa.fnExactMemberNew
open Go.ChangeShapes Go.WideShapes Go.ChangeAt Go.RowKit
set_option linter.unusedVariables false
theorem own : ownKnob Try.prog.godebug = none := by kernel_rfl
theorem laidOut : laidOutB Try.prog = true := Core.PC
set_option maxRecDepth 100000 in
theorem lifted (os : Os) (started : os.Started) (H : Type) (enc : TypeId × Value → H) :
    ReturnsInHanded {} Try.checked os 6 .any (Rows.fnExactMemberNewSpec.pre6 enc Try.prog Try.f6 Rows.fnExactMemberNewRow.domain false) (Rows.fnExactMemberNewSpec.post enc Try.prog Try.f6 false true false false) := by
  refine returnsInHanded_of_change (C := Try.checked) own started (by kernel_rfl) Try.func6
    (ChangeSpec.witness6 (enc := enc) (C := Try.checked) false ⟨#[], #[.int .i64 0, .slice none 0 0], []⟩ 8 (by kernel_rfl) (by kernel_rfl) (by kernel_rfl) (by kernel_rfl)) ?_
  intro W base args ds gs before hval0 hW hcnd hres
  have hval : ∀ (j : Nat) t v, Try.f6.params[j]? = some t → args[j]? = some v → Value.okWide Try.prog W .any base t v := hval0
  have hW' := hW
  obtain ⟨p, q, hA0, hV, rfl, hfz, hnd⟩ := hW
  have hA : DataW.TrodAll enc Try.prog W 0 (fun _ => true) true Try.f6.params.toList args.toList ds p := hA0
  rw [Try.params6] at hA hval
  obtain ⟨v0, vs0, d0, ds0, p0, q0, hargs0, rfl, rfl, h0, r0⟩ := trodAll_cons hA
  obtain ⟨v1, vs1, d1, ds1, p1, q1, hargs1, rfl, rfl, h1, r1⟩ := trodAll_cons r0
  obtain ⟨rfl, rfl, rfl⟩ := trodAll_nil r1
  obtain rfl : args = #[v0, v1] := by cases args; simp_all
  obtain ⟨rfl, rfl⟩ := trodVars_none hV
  have lt0 : ∀ x ∈ p0, x.block < W.heap.size := by obtain ⟨m, hm⟩ := h0; exact DataW.trod_lt m _ _ _ hm
  have ht0 : Core.Hv Try.prog 40 3 (.int .i64) = true := by kernel_rfl
  obtain ⟨x0, e0, o0⟩ := Core.O3 ht0 (Core.P7 ht0 (hval 0 3 v0 rfl rfl)) h0
  have lt1 : ∀ x ∈ p1, x.block < W.heap.size := by obtain ⟨m, hm⟩ := h1; exact DataW.trod_lt m _ _ _ hm
  have ht1 : Core.Hv Try.prog 40 46 (.slice (.slice (.int .i64))) = true := by kernel_rfl
  obtain ⟨x1, e1, o1⟩ := Core.O3 ht1 (Core.P7 ht1 (hval 1 46 v1 rfl rfl)) h1
  clear hA0 hval0
  refine (Core.Rc (P := Try.prog) Core.To Core.SW (f := 6) (args := [Core.Kd.av (.int .i64) x0, Core.Kd.av (.slice (.slice (.int .i64))) x1]) (Core.ID x0 o0 x1 o1) (W := W) (cargs := [v0, v1]) ⟨v0, [v1], rfl, e0, v1, [], rfl, e1, rfl⟩).mono fun e W' ⟨he, bel⟩ => ?_
  subst he
  exact ⟨_, rfl, _, _, _, [], _, [], hW', trodAll_mk1 (shut_bool Try.underlying4 _), (trodAll_cons_mk (Below.trod laidOut (by kernel_rfl) (of_decide_eq_true (by kernel_rfl)) h0 bel lt0) (trodAll_cons_mk (Below.trod laidOut (by kernel_rfl) (of_decide_eq_true (by kernel_rfl)) h1 bel lt1) trodAll_mk0)), rfl, bel.frame _, fun h => by cases h⟩
theorem k0 : (Rows.fnExactMemberNewRow.wf (OpenSpec.ofChange Rows.fnExactMemberNewSpec)) = true := by kernel_rfl
theorem k1 : (laidOutB Try.prog) = true := Core.PC
theorem k2 : (mapsRowed Try.prog) = true := Core.Pi
theorem k3 : (Try.f6.params.all (Try.prog.readableRec ·)) = true := by kernel_rfl
theorem k4 : (namedTie Try.prog Rows.fnExactMemberNewRow.named Rows.fnExactMemberNewSpec.vars) = true := by kernel_rfl
theorem k5 : ((Rows.fnExactMemberNewRow.stops == [])) = true := by kernel_rfl
theorem k6 : ((Try.prog.stops == [])) = true := by kernel_rfl
theorem k7 : ((Rows.fnExactMemberNewRow.knobs == [])) = true := by kernel_rfl
theorem k8 : ((Try.prog.stopKnobs == [])) = true := by kernel_rfl
theorem k9 : ((Rows.fnExactMemberNewRow.inPlace == Try.prog.inPlace 6)) = true := by kernel_rfl
theorem k10 : ((Rows.fnExactMemberNewRow.unfollowed == Try.prog.unfollowed 6)) = true := by kernel_rfl
theorem k11 : ((Rows.fnExactMemberNewRow.recurses == Try.prog.recurses 6)) = true := by kernel_rfl
theorem k12 : ((Rows.fnExactMemberNewRow.named == Try.prog.varsNamed 6)) = true := by kernel_rfl
theorem k13 : ((Rows.fnExactMemberNewRow.maps == (Try.f6.params.toList ++ Rows.fnExactMemberNewSpec.plain.varTypes Try.prog).any (Try.prog.mapsRec ·))) = true := by kernel_rfl
theorem k14 : ((Rows.fnExactMemberNewRow.ifaces == (Try.f6.params.toList ++ Rows.fnExactMemberNewSpec.plain.varTypes Try.prog).any (Try.prog.ifacesRec ·))) = true := by kernel_rfl
theorem k15 : ((Rows.fnExactMemberNewRow.mapsOut == Try.prog.mapsAmong Try.f6.resultTypes.toList)) = true := by kernel_rfl
theorem k16 : ((Rows.fnExactMemberNewRow.loops == (Try.f6.params.toList ++ Rows.fnExactMemberNewSpec.plain.varTypes Try.prog).any (Try.prog.loopsFrom ·))) = true := by kernel_rfl
theorem k17 : ((Rows.fnExactMemberNewRow.wideKeys == (Try.f6.params.toList ++ Rows.fnExactMemberNewSpec.plain.varTypes Try.prog ++ Try.f6.resultTypes.toList).any (Try.prog.wideKeysFrom ·))) = true := by kernel_rfl
theorem k18 : (Rows.fnExactMemberNewSpec.vars.all (Try.prog.varReadable ·)) = true := by kernel_rfl
theorem k19 : (Try.f6.resultTypes.all (fun t => Try.prog.readableRec t && decide (t < Try.prog.types.size))) = true := by kernel_rfl
theorem k20 : ((Rows.fnExactMemberNewRow.ifacesOut == Try.f6.resultTypes.toList.any (Try.prog.ifacesRec ·))) = true := by kernel_rfl
theorem k21 : ((Rows.fnExactMemberNewRow.loopsOut == Try.f6.resultTypes.toList.any (Try.prog.loopsFrom ·))) = true := by kernel_rfl
theorem k22 : ((Rows.fnExactMemberNewRow.plainKeys == Try.prog.plainKeys)) = true := by kernel_rfl
theorem k23 : (Rows.fnExactMemberNewRow.shortTexts.isNone) = true := by kernel_rfl
theorem k24 : (Try.prog.stopsHeard) = true := Core.TG
theorem k25 : (Try.prog.mayEnter) = true := Core.TF
theorem k26 : ((Rows.fnExactMemberNewRow.lifted == Try.prog.liftsFinal)) = true := Core.Rm (Core.Sd.symm)
theorem k27 : ((Try.prog.make == some Rows.fnExactMemberNewRow.make)) = true := Core.Rm (a := Try.prog.make) Core.Tr
theorem k28 : ((Rows.fnExactMemberNewRow.kinds == (if Rows.fnExactMemberNewRow.domain.isEmpty then [] else Try.f6.params.toList.map fun t => match Try.prog.underlying t with | some (.int k) => some k | _ => none))) = true := by kernel_rfl
theorem k29 : ((Rows.fnExactMemberNewRow.pinned == Rows.fnExactMemberNewRow.pinnedBy)) = true := by kernel_rfl
theorem k30 : ((Rows.fnExactMemberNewRow.veiled == (Try.f6.params.toList ++ Rows.fnExactMemberNewSpec.plain.varTypes Try.prog ++ Try.f6.resultTypes.toList).any (Try.prog.veiledRec ·))) = true := by kernel_rfl
theorem k31 : (Rows.fnExactMemberNewRow.veiledFits Try.prog Try.f6.params.toList (Try.f6.params.toList ++ Rows.fnExactMemberNewSpec.plain.varTypes Try.prog ++ Try.f6.resultTypes.toList)) = true := by kernel_rfl
set_option maxRecDepth 100000 in
theorem closed : joinedFacts Try.prog 6 Try.f6 Rows.fnExactMemberNewSpec Rows.fnExactMemberNewRow = true := by
  unfold joinedFacts
  exact Core.Dp (Core.Dp (Core.Dp (Core.Dp (Core.Dp (Core.Dp (Core.Dp (Core.Dp (Core.Dp (Core.Dp (Core.Dp (Core.Dp (Core.Dp (Core.Dp (Core.Dp (Core.Dp (Core.Dp (Core.Dp (Core.Dp (Core.Dp (Core.Dp (Core.Dp (Core.Dp (Core.Dp (Core.Dp (Core.Dp (Core.Dp (Core.Dp (Core.Dp (Core.Dp (Core.Dp k0 k1) k2) k3) k4) k5) k6) k7) k8) k9) k10) k11) k12) k13) k14) k15) k16) k17) k18) k19) k20) k21) k22) k23) k24) k25) k26) k27) k28) k29) k30) k31
theorem over : Rows.fnExactMemberNewRow.holds Try.pinned (OpenSpec.ofChange Rows.fnExactMemberNewSpec) :=
  OpenClaim.holds_of_wide 6 Try.f6 rfl rfl rfl rfl rfl rfl rfl ⟨rfl, rfl, rfl, rfl, rfl⟩ rfl rfl rfl rfl rfl (by kernel_rfl) Try.func6 closed
    (of_decide_eq_true (by kernel_rfl)) (by unfold Func.isWrapper; first | (rw [if_pos (by decide +kernel)]; kernel_rfl) | (rw [if_neg (by decide +kernel)]; exact ⟨rfl, rfl⟩))
    (fun os started H enc _ => lifted os started H enc)
theorem proved : Rows.FnExactMemberNewSaid := over
#print axioms proved
end Go.Proofs.Ytffahmnodgnohaa.fnExactMemberNew
