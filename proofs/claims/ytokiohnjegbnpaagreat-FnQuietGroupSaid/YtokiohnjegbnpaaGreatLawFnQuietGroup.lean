/- The law FnQuietGroup: whatever comes in, it answers true and touches nothing that was there. -/
import Derived.Test.YtokiohnjegbnpaaGreatP4
import Derived.Test.YtokiohnjegbnpaaGreatRows
import Derived.WalkKit
import Derived.ProofKit
import Derived.OpenShut
import Derived.Below
import Derived.SizedLaws
namespace Go.Proofs.YtokiohnjegbnpaaGreat.fnQuietGroup
open Go.ChangeShapes Go.WideShapes Go.ChangeAt Go.RowKit
set_option linter.unusedVariables false
theorem own : ownKnob Tryz.prog.godebug = none := by kernel_rfl
theorem laidOut : laidOutB Tryz.prog = true := Core.eJ
set_option maxRecDepth 100000 in
theorem lifted (os : Os) (started : os.Started) (H : Type) (enc : TypeId × Value → H) :
    ReturnsInHanded {} Tryz.checked os 8 .any (Rows.fnQuietGroupSpec.pre6 enc Tryz.prog Tryz.f8 Rows.fnQuietGroupRow.domain false) (Rows.fnQuietGroupSpec.post enc Tryz.prog Tryz.f8 false true false false) := by
  refine returnsInHanded_of_change (C := Tryz.checked) own started (by kernel_rfl) Tryz.func8
    (ChangeSpec.witness6 (enc := enc) (C := Tryz.checked) false ⟨#[], #[.slice none 0 0], []⟩ 8 (by kernel_rfl) (by kernel_rfl) (by kernel_rfl) (by kernel_rfl)) ?_
  intro W base args ds gs before hval0 hW hcnd hres
  have hval : ∀ (j : Nat) t v, Tryz.f8.params[j]? = some t → args[j]? = some v → Value.okWide Tryz.prog W .any base t v := hval0
  have hW' := hW
  obtain ⟨p, q, hA0, hV, rfl, hfz, hnd⟩ := hW
  have hA : DataW.TrodAll enc Tryz.prog W 0 (fun _ => true) true Tryz.f8.params.toList args.toList ds p := hA0
  rw [Tryz.params8] at hA hval
  obtain ⟨v0, vs0, d0, ds0, p0, q0, hargs0, rfl, rfl, h0, r0⟩ := trodAll_cons hA
  obtain ⟨rfl, rfl, rfl⟩ := trodAll_nil r0
  obtain rfl : args = #[v0] := by cases args; simp_all
  obtain ⟨rfl, rfl⟩ := trodVars_none hV
  have lt0 : ∀ x ∈ p0, x.block < W.heap.size := by obtain ⟨m, hm⟩ := h0; exact DataW.trod_lt m _ _ _ hm
  have ht0 : Core.Tg Tryz.prog 40 22 (.slice (.int .u8)) = true := by kernel_rfl
  obtain ⟨x0, e0, o0⟩ := Core.ii ht0 (Core.kK ht0 (hval 0 22 v0 rfl rfl)) h0
  clear hA0 hval0
  refine (Core.iu (P := Tryz.prog) Core.mt Core.kZ (f := 8) (args := [Core.Kd.av (.slice (.int .u8)) x0]) (Core.XO x0 o0) (W := W) (cargs := [v0]) ⟨v0, [], rfl, e0, rfl⟩).mono fun e W' ⟨he, bel⟩ => ?_
  subst he
  exact ⟨_, rfl, _, _, _, [], _, [], hW', trodAll_mk1 (shut_bool Tryz.underlying4 _), (trodAll_cons_mk (Below.trod laidOut (by kernel_rfl) (of_decide_eq_true (by kernel_rfl)) h0 bel lt0) trodAll_mk0), rfl, bel.frame _, fun h => by cases h⟩
theorem k0 : (Rows.fnQuietGroupRow.wf (OpenSpec.ofChange Rows.fnQuietGroupSpec)) = true := by kernel_rfl
theorem k1 : (laidOutB Tryz.prog) = true := Core.eJ
theorem k2 : (mapsRowed Tryz.prog) = true := Core.fJ
theorem k3 : (Tryz.f8.params.all (Tryz.prog.readableRec ·)) = true := by kernel_rfl
theorem k4 : (namedTie Tryz.prog Rows.fnQuietGroupRow.named Rows.fnQuietGroupSpec.vars) = true := by kernel_rfl
theorem k5 : ((Rows.fnQuietGroupRow.stops == [])) = true := by kernel_rfl
theorem k6 : ((Tryz.prog.stops == [])) = true := by kernel_rfl
theorem k7 : ((Rows.fnQuietGroupRow.knobs == [])) = true := by kernel_rfl
theorem k8 : ((Tryz.prog.stopKnobs == [])) = true := by kernel_rfl
theorem k9 : ((Rows.fnQuietGroupRow.inPlace == Tryz.prog.inPlace 8)) = true := by kernel_rfl
theorem k10 : ((Rows.fnQuietGroupRow.unfollowed == Tryz.prog.unfollowed 8)) = true := by kernel_rfl
theorem k11 : ((Rows.fnQuietGroupRow.recurses == Tryz.prog.recurses 8)) = true := by kernel_rfl
theorem k12 : ((Rows.fnQuietGroupRow.named == Tryz.prog.varsNamed 8)) = true := by kernel_rfl
theorem k13 : ((Rows.fnQuietGroupRow.maps == (Tryz.f8.params.toList ++ Rows.fnQuietGroupSpec.plain.varTypes Tryz.prog).any (Tryz.prog.mapsRec ·))) = true := by kernel_rfl
theorem k14 : ((Rows.fnQuietGroupRow.ifaces == (Tryz.f8.params.toList ++ Rows.fnQuietGroupSpec.plain.varTypes Tryz.prog).any (Tryz.prog.ifacesRec ·))) = true := by kernel_rfl
theorem k15 : ((Rows.fnQuietGroupRow.mapsOut == Tryz.prog.mapsAmong Tryz.f8.resultTypes.toList)) = true := by kernel_rfl
theorem k16 : ((Rows.fnQuietGroupRow.loops == (Tryz.f8.params.toList ++ Rows.fnQuietGroupSpec.plain.varTypes Tryz.prog).any (Tryz.prog.loopsFrom ·))) = true := by kernel_rfl
theorem k17 : ((Rows.fnQuietGroupRow.wideKeys == (Tryz.f8.params.toList ++ Rows.fnQuietGroupSpec.plain.varTypes Tryz.prog ++ Tryz.f8.resultTypes.toList).any (Tryz.prog.wideKeysFrom ·))) = true := by kernel_rfl
theorem k18 : (Rows.fnQuietGroupSpec.vars.all (Tryz.prog.varReadable ·)) = true := by kernel_rfl
theorem k19 : (Tryz.f8.resultTypes.all (fun t => Tryz.prog.readableRec t && decide (t < Tryz.prog.types.size))) = true := by kernel_rfl
theorem k20 : ((Rows.fnQuietGroupRow.ifacesOut == Tryz.f8.resultTypes.toList.any (Tryz.prog.ifacesRec ·))) = true := by kernel_rfl
theorem k21 : ((Rows.fnQuietGroupRow.loopsOut == Tryz.f8.resultTypes.toList.any (Tryz.prog.loopsFrom ·))) = true := by kernel_rfl
theorem k22 : ((Rows.fnQuietGroupRow.plainKeys == Tryz.prog.plainKeys)) = true := by kernel_rfl
theorem k23 : (Rows.fnQuietGroupRow.shortTexts.isNone) = true := by kernel_rfl
theorem k24 : (Tryz.prog.stopsHeard) = true := Core.mF
theorem k25 : (Tryz.prog.mayEnter) = true := Core.enters
theorem k26 : ((Rows.fnQuietGroupRow.lifted == Tryz.prog.liftsFinal)) = true := Core.jZ (Core.lB.symm)
theorem k27 : ((Tryz.prog.make == some Rows.fnQuietGroupRow.make)) = true := Core.jZ (a := Tryz.prog.make) Core.mz
theorem k28 : ((Rows.fnQuietGroupRow.kinds == (if Rows.fnQuietGroupRow.domain.isEmpty then [] else Tryz.f8.params.toList.map fun t => match Tryz.prog.underlying t with | some (.int k) => some k | _ => none))) = true := by kernel_rfl
theorem k29 : ((Rows.fnQuietGroupRow.pinned == Rows.fnQuietGroupRow.pinnedBy)) = true := by kernel_rfl
theorem k30 : ((Rows.fnQuietGroupRow.veiled == (Tryz.f8.params.toList ++ Rows.fnQuietGroupSpec.plain.varTypes Tryz.prog ++ Tryz.f8.resultTypes.toList).any (Tryz.prog.veiledRec ·))) = true := by kernel_rfl
theorem k31 : (Rows.fnQuietGroupRow.veiledFits Tryz.prog Tryz.f8.params.toList (Tryz.f8.params.toList ++ Rows.fnQuietGroupSpec.plain.varTypes Tryz.prog ++ Tryz.f8.resultTypes.toList)) = true := by kernel_rfl
set_option maxRecDepth 100000 in
theorem closed : joinedFacts Tryz.prog 8 Tryz.f8 Rows.fnQuietGroupSpec Rows.fnQuietGroupRow = true := by
  unfold joinedFacts
  exact Core.IW (Core.IW (Core.IW (Core.IW (Core.IW (Core.IW (Core.IW (Core.IW (Core.IW (Core.IW (Core.IW (Core.IW (Core.IW (Core.IW (Core.IW (Core.IW (Core.IW (Core.IW (Core.IW (Core.IW (Core.IW (Core.IW (Core.IW (Core.IW (Core.IW (Core.IW (Core.IW (Core.IW (Core.IW (Core.IW (Core.IW k0 k1) k2) k3) k4) k5) k6) k7) k8) k9) k10) k11) k12) k13) k14) k15) k16) k17) k18) k19) k20) k21) k22) k23) k24) k25) k26) k27) k28) k29) k30) k31
theorem over : Rows.fnQuietGroupRow.holds Tryz.pinned (OpenSpec.ofChange Rows.fnQuietGroupSpec) :=
  OpenClaim.holds_of_wide 8 Tryz.f8 rfl rfl rfl rfl rfl rfl rfl ⟨rfl, rfl, rfl, rfl, rfl⟩ rfl rfl rfl rfl rfl (by kernel_rfl) Tryz.func8 closed
    (of_decide_eq_true (by kernel_rfl)) (by unfold Func.isWrapper; first | (rw [if_pos (by decide +kernel)]; kernel_rfl) | (rw [if_neg (by decide +kernel)]; exact ⟨rfl, rfl⟩))
    (fun os started H enc _ => lifted os started H enc)
theorem proved : Rows.FnQuietGroupSaid := over
#print axioms proved
end Go.Proofs.YtokiohnjegbnpaaGreat.fnQuietGroup
