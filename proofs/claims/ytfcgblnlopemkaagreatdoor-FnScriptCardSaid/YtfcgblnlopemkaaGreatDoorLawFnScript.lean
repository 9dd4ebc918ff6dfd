/- The law FnScript: whatever comes in, it answers true and touches nothing that was there; the tables that it reads are listed, and tied. -/
import Derived.Test.YtfcgblnlopemkaaGreatDoorP5
import Derived.Test.YtfcgblnlopemkaaGreatDoorCards
import Derived.Test.YtfcgblnlopemkaaGreatDoorTie
import Derived.WalkKit
import Derived.ProofKit
import Derived.OpenShut
import Derived.Below
import Derived.SizedLaws
import Derived.Deep.DeepHandedRow
import Derived.Lib.LaidTab
namespace Go.Proofs.YtfcgblnlopemkaaGreatDoor.fnScript
open Go.ChangeShapes Go.WideShapes Go.ChangeAt Go.RowKit
set_option linter.unusedVariables false
theorem own : ownKnob Tryz.prog.godebug = none := by kernel_rfl
theorem laidOut : laidOutB Tryz.prog = true := Core.ABk
theorem gTab : Tryz.prog.globalNamed "internal/strconv.uint64pow10" = some 1 := by kernel_rfl
theorem gTabT : ((Tryz.prog.globals[1]?).map (·.type)).bind (fun t => (Tryz.prog.underlying t).bind fun d => match d with | .array n e => if Tryz.prog.cellsOf e = 1 ∧ Tryz.prog.cellsOf t = n ∧ n = 20 then Tryz.prog.underlying e else none | _ => none) = some (.int .u64) := by kernel_rfl
theorem data : Rows.laid_internal_strconv_uint64pow10 = (Lib.tabData .u64 Lib.pow10Tab : DataW Unit) := by kernel_rfl
set_option maxRecDepth 100000 in
theorem table {W : World} (h : laidMetH Tryz.prog Rows.fnScriptRow.laid W) : Lib.TabIs Tryz.prog W "internal/strconv.uint64pow10" .u64 Lib.pow10Tab := by
  obtain ⟨ps, ⟨g0, t0, cs0, f0, p0, q0, hg0, ht0, hv0, hd0, ⟨g1, t1, cs1, f1, p1, q1, hg1, ht1, hv1, hd1, ⟨g2, t2, cs2, f2, p2, q2, hg2, ht2, hv2, hd2, _, _⟩, _⟩, _⟩, _⟩ := h
  have hb := gTabT
  obtain rfl := Option.some.inj (gTab.symm.trans hg2)
  rw [ht2, Option.bind_some] at hb
  cases hu : Tryz.prog.underlying t2 with
  | none => rw [hu] at hb; cases hb
  | some d =>
    rw [hu, Option.bind_some] at hb
    split at hb
    · split at hb
      · rename_i n e hc
        obtain ⟨c1, c2, c3⟩ := hc
        rw [data] at hd2
        unfold Lib.TabIs
        rw [hv2, ← Lib.cells_of_tab hu hb c1 c2 hd2]
      · cases hb
    · cases hb
set_option maxRecDepth 100000 in
theorem tabsOk {W : World} (h : laidMetH Tryz.prog Rows.fnScriptRow.laid W) : Core.zS (Core.VX W) := by
  have ht := table h
  unfold Lib.TabIs World.var? at ht
  rw [gTab, Option.bind_some] at ht
  intro p hp
  have hp : p ∈ [((1 : Nat), (Lib.pow10Tab.map fun z => Value.int .u64 z).toArray)] := hp
  rw [List.mem_singleton] at hp
  subst hp
  split at ht
  · rename_i cs el fz hq
    cases ht
    exact ⟨el, fz, hq⟩
  · cases ht
set_option maxRecDepth 100000 in
theorem contract (H : Type) (enc : TypeId × Value → H) (W : World) (base : Nat) (args : Array Value) (ds gs : List (DataW H)) (before : List MemPlace)
    (hval : ∀ (j : Nat) t v, Tryz.f4.params[j]? = some t → args[j]? = some v → Value.okWide Tryz.prog W .any base t v)
    (hW : DataW.Whole enc Tryz.prog Tryz.f4.params.toList Rows.fnScriptSpec.vars false W args.toList ds gs before) (hL : laidMetH Tryz.prog Rows.fnScriptRow.laid W) :
    Calls Tryz.prog 4 args W fun e W' => ∃ v, e = .returned v ∧ Rows.fnScriptSpec.post enc Tryz.prog Tryz.f4 false true false false W args v W' := by
  have hW' := hW
  obtain ⟨p, q, hA0, hV, rfl, hfz, hnd⟩ := hW
  have hA : DataW.TrodAll enc Tryz.prog W 0 (fun _ => true) true Tryz.f4.params.toList args.toList ds p := hA0
  rw [Tryz.params4] at hA hval
  obtain ⟨v0, vs0, d0, ds0, p0, q0, hargs0, rfl, rfl, h0, r0⟩ := trodAll_cons hA
  obtain ⟨rfl, rfl, rfl⟩ := trodAll_nil r0
  obtain rfl : args = #[v0] := by cases args; simp_all
  obtain ⟨rfl, rfl⟩ := trodVars_none hV
  have lt0 : ∀ x ∈ p0, x.block < W.heap.size := by obtain ⟨m, hm⟩ := h0; exact DataW.trod_lt m _ _ _ hm
  have ht0 : Core.jI Tryz.prog 40 24 (.slice (.int .u8)) = true := by kernel_rfl
  obtain ⟨x0, e0, o0⟩ := Core.AES ht0 (Core.AFv ht0 (hval 0 24 v0 rfl rfl)) h0
  clear hA0
  refine (Core.AEa (P := Tryz.prog) Core.AHd Core.AGF (f := 4) (args := [Core.Kd.av (.slice (.int .u8)) x0]) (Core.AAh x0 o0) (W := W) (cargs := [v0]) ⟨v0, [], rfl, e0, rfl⟩ (by decide) (tabsOk hL)).mono fun e W' ⟨he, bel⟩ => ?_
  subst he
  exact ⟨_, rfl, _, _, _, [], _, [], hW', trodAll_mk1 (shut_bool Tryz.underlying4 _), (trodAll_cons_mk (Below.trod laidOut (by kernel_rfl) (of_decide_eq_true (by kernel_rfl)) h0 bel lt0) trodAll_mk0), rfl, bel.frame _, fun h => by cases h⟩
def leafV : DataW Unit → Value
  | .lit (.int k n) => .int k n
  | _ => .nilIface
def row1 : DataW Unit → List Value
  | .agg ds => ds.map leafV
  | _ => []
def row2 : DataW Unit → List Value
  | .agg ds => ds.flatMap row1
  | _ => []
def putV (cs : List Value) : Obj → Obj
  | .cells _ t frozen => .cells cs.toArray t frozen
  | o => o
noncomputable def laidWorld (os : Os) : World :=
  { World.holding Tryz.prog os ⟨#[], #[], []⟩ with heap := ((((((World.holding Tryz.prog os ⟨#[], #[], []⟩).heap.modify 4 (putV (row1 Rows.laid_math_bits_deBruijn32tab))).modify 5 (putV (row1 Rows.laid_math_bits_deBruijn64tab))).modify 1 (putV (row1 Rows.laid_internal_strconv_uint64pow10))).modify 3 (putV (row2 Rows.laid_unicode_utf8_acceptRanges))).modify 2 (putV (row1 Rows.laid_unicode_utf8_first))) }
theorem laid_met (os : Os) : laidMet Tryz.prog Rows.fnScriptRow.laid ((laidWorld os).forCall (fun _ _ => 0) ⟨#[], #[.slice none 0 0], []⟩).memory :=
  laidMet_of_run' 8 (by kernel_rfl) (by kernel_rfl)
theorem reads (os : Os) {H : Type} (enc : TypeId × Value → H) : ∃ places, DataW.whole enc Tryz.prog ((laidWorld os).forCall (fun _ _ => 0) ⟨#[], #[.slice none 0 0], []⟩).memory Tryz.f4.params.toList Rows.fnScriptSpec.vars false (#[.slice none 0 0] : Array Value).toList 8 = some ([.nil], [], places) :=
  ⟨[], by kernel_rfl⟩
set_option maxRecDepth 100000 in
theorem lifted (os : Os) (started : os.Started) (H : Type) (enc : TypeId × Value → H) (F : Stop.Interp) :
    ReturnsInHanded {} Tryz.checked os 4 .any ((OpenSpec.ofChange Rows.fnScriptSpec).preRow enc Tryz.prog Tryz.f4 Rows.fnScriptRow.domain false Rows.fnScriptRow.laid) (((OpenSpec.ofChange Rows.fnScriptSpec).at F).post enc Tryz.prog Tryz.f4 false true false false) := by
  obtain ⟨places, hx⟩ := reads os enc
  refine returnsInHanded_of_row (C := Tryz.checked) (s := OpenSpec.ofChange Rows.fnScriptSpec) own started (by kernel_rfl) Tryz.func4
    (witness_row_at (enc := enc) (C := Tryz.checked) false (laidWorld os) #[.slice none 0 0] rfl (by kernel_rfl) (by kernel_rfl) (by kernel_rfl)
      (OpenSpec.preRow_of_cond 8 hx (by kernel_rfl) (fun k hk => by cases hk) (by kernel_rfl) (laid_met os))) ?_
  intro W base args ds gs before hval hW _ _ _ hL _ _
  exact contract H enc W base args ds gs before hval hW hL
theorem k0 : (Rows.fnScriptRow.wf (OpenSpec.ofChange Rows.fnScriptSpec)) = true := by kernel_rfl
theorem k1 : (laidOutB Tryz.prog) = true := Core.ABk
theorem k2 : (mapsRowed Tryz.prog) = true := Core.ACM
theorem k3 : (Tryz.f4.params.all (Tryz.prog.readableRec ·)) = true := by kernel_rfl
theorem k4 : (namedTie Tryz.prog Rows.fnScriptRow.named Rows.fnScriptSpec.vars) = true := by kernel_rfl
theorem k5 : ((Rows.fnScriptRow.stops == [])) = true := by kernel_rfl
theorem k6 : ((Tryz.prog.stops == [])) = true := by kernel_rfl
theorem k7 : ((Rows.fnScriptRow.knobs == [])) = true := by kernel_rfl
theorem k8 : ((Tryz.prog.stopKnobs == [])) = true := by kernel_rfl
theorem k9 : ((Rows.fnScriptRow.inPlace == Tryz.prog.inPlace 4)) = true := by kernel_rfl
theorem k10 : ((Rows.fnScriptRow.unfollowed == Tryz.prog.unfollowed 4)) = true := by kernel_rfl
theorem k11 : ((Rows.fnScriptRow.recurses == Tryz.prog.recurses 4)) = true := by kernel_rfl
theorem k12 : ((Rows.fnScriptRow.named == Tryz.prog.varsNamed 4)) = true := by kernel_rfl
theorem k13 : ((Rows.fnScriptRow.maps == (Tryz.f4.params.toList ++ Rows.fnScriptSpec.plain.varTypes Tryz.prog).any (Tryz.prog.mapsRec ·))) = true := by kernel_rfl
theorem k14 : ((Rows.fnScriptRow.ifaces == (Tryz.f4.params.toList ++ Rows.fnScriptSpec.plain.varTypes Tryz.prog).any (Tryz.prog.ifacesRec ·))) = true := by kernel_rfl
theorem k15 : ((Rows.fnScriptRow.mapsOut == Tryz.prog.mapsAmong Tryz.f4.resultTypes.toList)) = true := by kernel_rfl
theorem k16 : ((Rows.fnScriptRow.loops == (Tryz.f4.params.toList ++ Rows.fnScriptSpec.plain.varTypes Tryz.prog).any (Tryz.prog.loopsFrom ·))) = true := by kernel_rfl
theorem k17 : ((Rows.fnScriptRow.wideKeys == (Tryz.f4.params.toList ++ Rows.fnScriptSpec.plain.varTypes Tryz.prog ++ Tryz.f4.resultTypes.toList).any (Tryz.prog.wideKeysFrom ·))) = true := by kernel_rfl
theorem k18 : (Rows.fnScriptSpec.vars.all (Tryz.prog.varReadable ·)) = true := by kernel_rfl
theorem k19 : (Tryz.f4.resultTypes.all (fun t => Tryz.prog.readableRec t && decide (t < Tryz.prog.types.size))) = true := by kernel_rfl
theorem k20 : ((Rows.fnScriptRow.ifacesOut == Tryz.f4.resultTypes.toList.any (Tryz.prog.ifacesRec ·))) = true := by kernel_rfl
theorem k21 : ((Rows.fnScriptRow.loopsOut == Tryz.f4.resultTypes.toList.any (Tryz.prog.loopsFrom ·))) = true := by kernel_rfl
theorem k22 : ((Rows.fnScriptRow.plainKeys == Tryz.prog.plainKeys)) = true := by kernel_rfl
theorem k23 : (Rows.fnScriptRow.shortTexts.isNone) = true := by kernel_rfl
theorem k24 : (Tryz.prog.stopsHeard) = true := Core.AHK
theorem k25 : (Tryz.prog.mayEnter) = true := Core.enters
theorem k26 : ((Rows.fnScriptRow.lifted == Tryz.prog.liftsFinal)) = true := Core.AFG (Core.AGU.symm)
theorem k27 : ((Tryz.prog.make == some Rows.fnScriptRow.make)) = true := Core.AFG (a := Tryz.prog.make) Core.AHv
theorem k28 : ((Rows.fnScriptRow.kinds == (if Rows.fnScriptRow.domain.isEmpty then [] else Tryz.f4.params.toList.map fun t => match Tryz.prog.underlying t with | some (.int k) => some k | _ => none))) = true := by kernel_rfl
theorem k29 : ((Rows.fnScriptRow.pinned == Rows.fnScriptRow.pinnedBy)) = true := by kernel_rfl
theorem k30 : ((Rows.fnScriptRow.veiled == (Tryz.f4.params.toList ++ Rows.fnScriptSpec.plain.varTypes Tryz.prog ++ Tryz.f4.resultTypes.toList).any (Tryz.prog.veiledRec ·))) = true := by kernel_rfl
theorem k31 : (Rows.fnScriptRow.veiledFits Tryz.prog Tryz.f4.params.toList (Tryz.f4.params.toList ++ Rows.fnScriptSpec.plain.varTypes Tryz.prog ++ Tryz.f4.resultTypes.toList)) = true := by kernel_rfl
set_option maxRecDepth 100000 in
theorem closed : joinedFacts Tryz.prog 4 Tryz.f4 Rows.fnScriptSpec Rows.fnScriptRow = true := by
  unfold joinedFacts
  exact Core.Mx (Core.Mx (Core.Mx (Core.Mx (Core.Mx (Core.Mx (Core.Mx (Core.Mx (Core.Mx (Core.Mx (Core.Mx (Core.Mx (Core.Mx (Core.Mx (Core.Mx (Core.Mx (Core.Mx (Core.Mx (Core.Mx (Core.Mx (Core.Mx (Core.Mx (Core.Mx (Core.Mx (Core.Mx (Core.Mx (Core.Mx (Core.Mx (Core.Mx (Core.Mx (Core.Mx k0 k1) k2) k3) k4) k5) k6) k7) k8) k9) k10) k11) k12) k13) k14) k15) k16) k17) k18) k19) k20) k21) k22) k23) k24) k25) k26) k27) k28) k29) k30) k31
set_option maxRecDepth 100000 in
theorem said : Rows.FnScriptSaid :=
  OpenClaim.holds_of_cond 4 Tryz.f4 rfl rfl rfl rfl rfl rfl rfl ⟨rfl, rfl, rfl, rfl, rfl⟩ rfl rfl rfl rfl rfl (by kernel_rfl) Tryz.func4 closed
    (of_decide_eq_true (by kernel_rfl)) (by unfold Func.isWrapper; first | (rw [if_pos (by decide +kernel)]; kernel_rfl) | (rw [if_neg (by decide +kernel)]; exact ⟨rfl, rfl⟩))
    (fun os started H enc _ F => by rw [OpenClaim.pre_eq_preRow]; exact lifted os started H enc F)
set_option maxRecDepth 100000 in
theorem plain (f : FuncId) (fn : Func) (hf : Tryz.pinned.checked.prog.funcNamed "loop.example/g00180/laws.FnScript" = some f) (hfn : Tryz.pinned.checked.prog.funcs[f]? = some fn) :
    false = Tryz.pinned.checked.prog.looks [] ∧ ∀ (j : Nat) t, fn.params[j]? = some t → Tryz.pinned.checked.prog.wantsStandIn t = false := by
  obtain rfl : f = 4 := Option.some.inj ((show Tryz.prog.funcNamed "loop.example/g00180/laws.FnScript" = some 4 by kernel_rfl).symm.trans hf) |>.symm
  obtain rfl : fn = Tryz.f4 := (Option.some.inj (Tryz.func4.symm.trans hfn)).symm
  refine ⟨by kernel_rfl, fun j t ht => ?_⟩
  rw [Tryz.params4] at ht
  obtain rfl : t = 24 := by simpa using Array.mem_of_getElem? ht
  exact (show Tryz.prog.wantsStandIn 24 = false by kernel_rfl)
set_option maxRecDepth 100000 in
theorem proved : Rows.FnScriptCardSaid :=
  Claim7.holds_tied_plain_at .later [] _ _ _ _ said (fun _ h => by cases h) (by kernel_rfl) (fun _ h => by cases h) fnScript_row_tie rfl ⟨rfl, rfl⟩ (by kernel_rfl) rfl plain (by kernel_rfl)
#print axioms proved
end Go.Proofs.YtfcgblnlopemkaaGreatDoor.fnScript
