/- The law FnExactMsgText: whatever comes in, it answers true and touches nothing that was there. -/
import Derived.Test.YtffahmnodgnohaaP2
import Derived.Test.YtffahmnodgnohaaRows
import Derived.WalkKit
import Derived.ProofKit
import Derived.OpenShut
import Derived.Below
import Derived.SizedLaws
namespace Go.Proofs.Ytffahmnodgnohaa.fnExactMsgText
open Go.ChangeShapes Go.WideShapes Go.ChangeAt Go.RowKit
set_option linter.unusedVariables false
theorem own : ownKnob Try.prog.godebug = none := by kernel_rfl
theorem laidOut : laidOutB Try.prog = true := Core.Om
set_option maxRecDepth 100000 in
theorem lifted (os : Os) (started : os.Started) (H : Type) (enc : TypeId × Value → H) :
    ReturnsInHanded {} Try.checked os 3 .any (Rows.fnExactMsgTextSpec.pre6 enc Try.prog Try.f3 Rows.fnExactMsgTextRow.domain false) (Rows.fnExactMsgTextSpec.post enc Try.prog Try.f3 false true false false) := by
  refine returnsInHanded_of_change (C := Try.checked) own started (by kernel_rfl) Try.func3
    (ChangeSpec.witness6 (enc := enc) (C := Try.checked) false ⟨#[], #[.agg #[.int .i64 0, .int .i64 0, .int .i64 0, .int .i64 0, .int .i64 0, .slice none 0 0]], []⟩ 8 (by kernel_rfl) (by kernel_rfl) (by kernel_rfl) (by kernel_rfl)) ?_
  intro W base args ds gs before hval0 hW hcnd hres
  have hval : ∀ (j : Nat) t v, Try.f3.params[j]? = some t → args[j]? = some v → Value.okWide Try.prog W .any base t v := hval0
  have hW' := hW
  obtain ⟨p, q, hA0, hV, rfl, hfz, hnd⟩ := hW
  have hA : DataW.TrodAll enc Try.prog W 0 (fun _ => true) true Try.f3.params.toList args.toList ds p := hA0
  rw [Try.params3] at hA hval
  obtain ⟨v0, vs0, d0, ds0, p0, q0, hargs0, rfl, rfl, h0, r0⟩ := trodAll_cons hA
  obtain ⟨rfl, rfl, rfl⟩ := trodAll_nil r0
  obtain rfl : args = #[v0] := by cases args; simp_all
  obtain ⟨rfl, rfl⟩ := trodVars_none hV
  have lt0 : ∀ x ∈ p0, x.block < W.heap.size := by obtain ⟨m, hm⟩ := h0; exact DataW.trod_lt m _ _ _ hm
  have ht0 : Core.Ht Try.prog 40 24 Core.Ao = true := by kernel_rfl
  obtain ⟨x0, e0, o0⟩ := Core.Qp ht0 (Core.Rt ht0 (hval 0 24 v0 rfl rfl)) h0
  clear hA0 hval0
  refine (Core.Qx (P := Try.prog) Core.TO Core.Rz (f := 3) (args := [Core.Kd.av Core.Ao x0]) (Core.IH x0 o0) (W := W) (cargs := [v0]) ⟨v0, [], rfl, e0, rfl⟩).mono fun e W' ⟨he, bel⟩ => ?_
  subst he
  exact ⟨_, rfl, _, _, _, [], _, [], hW', trodAll_mk1 (shut_bool Try.underlying4 _), (trodAll_cons_mk (Below.trod laidOut (by kernel_rfl) (of_decide_eq_true (by kernel_rfl)) h0 bel lt0) trodAll_mk0), rfl, bel.frame _, fun h => by cases h⟩
theorem k0 : (Rows.fnExactMsgTextRow.wf (OpenSpec.ofChange Rows.fnExactMsgTextSpec)) = true := by kernel_rfl
theorem k1 : (laidOutB Try.prog) = true := Core.Om
theorem k2 : (mapsRowed Try.prog) = true := Core.PD
theorem k3 : (Try.f3.params.all (Try.prog.readableRec ·)) = true := by kernel_rfl
theorem k4 : (namedTie Try.prog Rows.fnExactMsgTextRow.named Rows.fnExactMsgTextSpec.vars) = true := by kernel_rfl
theorem k5 : ((Rows.fnExactMsgTextRow.stops == [])) = true := by kernel_rfl
theorem k6 : ((Try.prog.stops == [])) = true := by kernel_rfl
theorem k7 : ((Rows.fnExactMsgTextRow.knobs == [])) = true := by kernel_rfl
theorem k8 : ((Try.prog.stopKnobs == [])) = true := by kernel_rfl
theorem k9 : ((Rows.fnExactMsgTextRow.inPlace == Try.prog.inPlace 3)) = true := by kernel_rfl
theorem k10 : ((Rows.fnExactMsgTextRow.unfollowed == Try.prog.unfollowed 3)) = true := by kernel_rfl
theorem k11 : ((Rows.fnExactMsgTextRow.recurses == Try.prog.recurses 3)) = true := by kernel_rfl
theorem k12 : ((Rows.fnExactMsgTextRow.named == Try.prog.varsNamed 3)) = true := by kernel_rfl
theorem k13 : ((Rows.fnExactMsgTextRow.maps == (Try.f3.params.toList ++ Rows.fnExactMsgTextSpec.plain.varTypes Try.prog).any (Try.prog.mapsRec ·))) = true := by kernel_rfl
theorem k14 : ((Rows.fnExactMsgTextRow.ifaces == (Try.f3.params.toList ++ Rows.fnExactMsgTextSpec.plain.varTypes Try.prog).any (Try.prog.ifacesRec ·))) = true := by kernel_rfl
theorem k15 : ((Rows.fnExactMsgTextRow.mapsOut == Try.prog.mapsAmong Try.f3.resultTypes.toList)) = true := by kernel_rfl
theorem k16 : ((Rows.fnExactMsgTextRow.loops == (Try.f3.params.toList ++ Rows.fnExactMsgTextSpec.plain.varTypes Try.prog).any (Try.prog.loopsFrom ·))) = true := by kernel_rfl
theorem k17 : ((Rows.fnExactMsgTextRow.wideKeys == (Try.f3.params.toList ++ Rows.fnExactMsgTextSpec.plain.varTypes Try.prog ++ Try.f3.resultTypes.toList).any (Try.prog.wideKeysFrom ·))) = true := by kernel_rfl
theorem k18 : (Rows.fnExactMsgTextSpec.vars.all (Try.prog.varReadable ·)) = true := by kernel_rfl
theorem k19 : (Try.f3.resultTypes.all (fun t => Try.prog.readableRec t && decide (t < Try.prog.types.size))) = true := by kernel_rfl
theorem k20 : ((Rows.fnExactMsgTextRow.ifacesOut == Try.f3.resultTypes.toList.any (Try.prog.ifacesRec ·))) = true := by kernel_rfl
theorem k21 : ((Rows.fnExactMsgTextRow.loopsOut == Try.f3.resultTypes.toList.any (Try.prog.loopsFrom ·))) = true := by kernel_rfl
theorem k22 : ((Rows.fnExactMsgTextRow.plainKeys == Try.prog.plainKeys)) = true := by kernel_rfl
theorem k23 : (Rows.fnExactMsgTextRow.shortTexts.isNone) = true := by kernel_rfl
theorem k24 : (Try.prog.stopsHeard) = true := Core.Sh
theorem k25 : (Try.prog.mayEnter) = true := Core.enters
theorem k26 : ((Rows.fnExactMsgTextRow.lifted == Try.prog.liftsFinal)) = true := Core.RC (Core.R2.symm)
theorem k27 : ((Try.prog.make == some Rows.fnExactMsgTextRow.make)) = true := Core.RC (a := Try.prog.make) Core.TR
theorem k28 : ((Rows.fnExactMsgTextRow.kinds == (if Rows.fnExactMsgTextRow.domain.isEmpty then [] else Try.f3.params.toList.map fun t => match Try.prog.underlying t with | some (.int k) => some k | _ => none))) = true := by kernel_rfl
theorem k29 : ((Rows.fnExactMsgTextRow.pinned == Rows.fnExactMsgTextRow.pinnedBy)) = true := by kernel_rfl
theorem k30 : ((Rows.fnExactMsgTextRow.veiled == (Try.f3.params.toList ++ Rows.fnExactMsgTextSpec.plain.varTypes Try.prog ++ Try.f3.resultTypes.toList).any (Try.prog.veiledRec ·))) = true := by kernel_rfl
theorem k31 : (Rows.fnExactMsgTextRow.veiledFits Try.prog Try.f3.params.toList (Try.f3.params.toList ++ Rows.fnExactMsgTextSpec.plain.varTypes Try.prog ++ Try.f3.resultTypes.toList)) = true := by kernel_rfl
set_option maxRecDepth 100000 in
theorem closed : joinedFacts Try.prog 3 Try.f3 Rows.fnExactMsgTextSpec Rows.fnExactMsgTextRow = true := by
  unfold joinedFacts
  exact Core.C0 (Core.C0 (Core.C0 (Core.C0 (Core.C0 (Core.C0 (Core.C0 (Core.C0 (Core.C0 (Core.C0 (Core.C0 (Core.C0 (Core.C0 (Core.C0 (Core.C0 (Core.C0 (Core.C0 (Core.C0 (Core.C0 (Core.C0 (Core.C0 (Core.C0 (Core.C0 (Core.C0 (Core.C0 (Core.C0 (Core.C0 (Core.C0 (Core.C0 (Core.C0 (Core.C0 k0 k1) k2) k3) k4) k5) k6) k7) k8) k9) k10) k11) k12) k13) k14) k15) k16) k17) k18) k19) k20) k21) k22) k23) k24) k25) k26) k27) k28) k29) k30) k31
theorem over : Rows.fnExactMsgTextRow.holds Try.pinned (OpenSpec.ofChange Rows.fnExactMsgTextSpec) :=
  OpenClaim.holds_of_wide 3 Try.f3 rfl rfl rfl rfl rfl rfl rfl ⟨rfl, rfl, rfl, rfl, rfl⟩ rfl rfl rfl rfl rfl (by kernel_rfl) Try.func3 closed
    (of_decide_eq_true (by kernel_rfl)) (by unfold Func.isWrapper; first | (rw [if_pos (by decide +kernel)]; kernel_rfl) | (rw [if_neg (by decide +kernel)]; exact ⟨rfl, rfl⟩))
    (fun os started H enc _ => lifted os started H enc)
theorem proved : Rows.FnExactMsgTextSaid := over
#print axioms proved
end Go.Proofs.Ytffahmnodgnohaa.fnExactMsgText
