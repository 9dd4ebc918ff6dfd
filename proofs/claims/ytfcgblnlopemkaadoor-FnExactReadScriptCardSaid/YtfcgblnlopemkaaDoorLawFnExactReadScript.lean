/- The law FnExactReadScript: whatever comes in, it answers true and touches nothing that was there; the tables that it reads are listed, and tied. -/
import Derived.Test.YtfcgblnlopemkaaDoorP3
import Derived.Test.YtfcgblnlopemkaaDoorCards
import Derived.Test.YtfcgblnlopemkaaDoorTie
import Derived.WalkKit
import Derived.ProofKit
import Derived.OpenShut
import Derived.Below
import Derived.SizedLaws
import Derived.Deep.DeepHandedRow
import Derived.Lib.LaidTab
namespace Go.Proofs.YtfcgblnlopemkaaDoor.fnExactReadScript
open Go.ChangeShapes Go.WideShapes Go.ChangeAt Go.RowKit
set_option linter.unusedVariables false
theorem own : ownKnob Tryd.prog.godebug = none := by kernel_rfl
theorem laidOut : laidOutB Tryd.prog = true := Core.Ux
theorem gTab : Tryd.prog.globalNamed "internal/strconv.uint64pow10" = some 3 := by kernel_rfl
theorem gTabT : ((Tryd.prog.globals[3]?).map (·.type)).bind (fun t => (Tryd.prog.underlying t).bind fun d => match d with | .array n e => if Tryd.prog.cellsOf e = 1 ∧ Tryd.prog.cellsOf t = n ∧ n = 20 then Tryd.prog.underlying e else none | _ => none) = some (.int .u64) := by kernel_rfl
theorem data : Rows.laid_internal_strconv_uint64pow10 = (Lib.tabData .u64 Lib.pow10Tab : DataW Unit) := by kernel_rfl
set_option maxRecDepth 100000 in
theorem table {W : World} (h : laidMetH Tryd.prog Rows.fnExactReadScriptRow.laid W) : Lib.TabIs Tryd.prog W "internal/strconv.uint64pow10" .u64 Lib.pow10Tab := by
  obtain ⟨ps, ⟨g0, t0, cs0, f0, p0, q0, hg0, ht0, hv0, hd0, ⟨g1, t1, cs1, f1, p1, q1, hg1, ht1, hv1, hd1, ⟨g2, t2, cs2, f2, p2, q2, hg2, ht2, hv2, hd2, _, _⟩, _⟩, _⟩, _⟩ := h
  have hb := gTabT
  obtain rfl := Option.some.inj (gTab.symm.trans hg2)
  rw [ht2, Option.bind_some] at hb
  cases hu : Tryd.prog.underlying t2 with
  | none => rw [hu] at hb; cases hb
  | some d =>
    rw [hu, Option.bind_some] at hb
    split at hb
    · split at hb
      · rename_i n e hc
        obtain ⟨c1, c2, c3⟩ := hc
        rw [data] at hd2
        unfold Lib.TabIs
        rw [hv2, ← Lib.cells_of_tab hu hb c1 c2 hd2]
      · cases hb
    · cases hb
set_option maxRecDepth 100000 in
theorem tabsOk {W : World} (h : laidMetH Tryd.prog Rows.fnExactReadScriptRow.laid W) : Core.Tb (Core.Io W) := by
  have ht := table h
  unfold Lib.TabIs World.var? at ht
  rw [gTab, Option.bind_some] at ht
  intro p hp
  have hp : p ∈ [((3 : Nat), (Lib.pow10Tab.map fun z => Value.int .u64 z).toArray)] := hp
  rw [List.mem_singleton] at hp
  subst hp
  split at ht
  · rename_i cs el fz hq
    cases ht
    exact ⟨el, fz, hq⟩
  · cases ht
set_option maxRecDepth 100000 in
theorem contract (H : Type) (enc : TypeId × Value → H) (W : World) (base : Nat) (args : Array Value) (ds gs : List (DataW H)) (before : List MemPlace)
    (hval : ∀ (j : Nat) t v, Tryd.f3.params[j]? = some t → args[j]? = some v → Value.okWide Tryd.prog W .any base t v)
    (hW : DataW.Whole enc Tryd.prog Tryd.f3.params.toList Rows.fnExactReadScriptSpec.vars false W args.toList ds gs before) (hL : laidMetH Tryd.prog Rows.fnExactReadScriptRow.laid W) :
    Calls Tryd.prog 3 args W fun e W' => ∃ v, e = .returned v ∧ Rows.fnExactReadScriptSpec.post enc Tryd.prog Tryd.f3 false true false false W args v W' := by
  have hW' := hW
  obtain ⟨p, q, hA0, hV, rfl, hfz, hnd⟩ := hW
  have hA : DataW.TrodAll enc Tryd.prog W 0 (fun _ => true) true Tryd.f3.params.toList args.toList ds p := hA0
  rw [Tryd.params3] at hA hval
  obtain ⟨v0, vs0, d0, ds0, p0, q0, hargs0, rfl, rfl, h0, r0⟩ := trodAll_cons hA
  obtain ⟨rfl, rfl, rfl⟩ := trodAll_nil r0
  obtain rfl : args = #[v0] := by cases args; simp_all
  obtain ⟨rfl, rfl⟩ := trodVars_none hV
  have lt0 : ∀ x ∈ p0, x.block < W.heap.size := by obtain ⟨m, hm⟩ := h0; exact DataW.trod_lt m _ _ _ hm
  have ht0 : Core.Mr Tryd.prog 40 9 .str = true := by kernel_rfl
  obtain ⟨x0, e0, o0⟩ := Core.Xi ht0 (Core.Ys ht0 (hval 0 9 v0 rfl rfl)) h0
  clear hA0
  refine (Core.Xq (P := Tryd.prog) Core.Zy Core.Yw (f := 3) (args := [Core.Kd.av .str x0]) (Core.LN x0 o0) (W := W) (cargs := [v0]) ⟨v0, [], rfl, e0, rfl⟩ (by decide) (tabsOk hL)).mono fun e W' ⟨he, bel⟩ => ?_
  subst he
  exact ⟨_, rfl, _, _, _, [], _, [], hW', trodAll_mk1 (shut_bool Tryd.underlying4 _), (trodAll_cons_mk (Below.trod laidOut (by kernel_rfl) (of_decide_eq_true (by kernel_rfl)) h0 bel lt0) trodAll_mk0), rfl, bel.frame _, fun h => by cases h⟩
def leafV : DataW Unit → Value
  | .lit (.int k n) => .int k n
  | _ => .nilIface
def row1 : DataW Unit → List Value
  | .agg ds => ds.map leafV
  | _ => []
def row2 : DataW Unit → List Value
  | .agg ds => ds.flatMap row1
  | _ => []
def putV (cs : List Value) : Obj → Obj
  | .cells _ t frozen => .cells cs.toArray t frozen
  | o => o
noncomputable def laidWorld (os : Os) : World :=
  { World.holding Tryd.prog os ⟨#[], #[], []⟩ with heap := ((((((World.holding Tryd.prog os ⟨#[], #[], []⟩).heap.modify 4 (putV (row1 Rows.laid_math_bits_deBruijn32tab))).modify 5 (putV (row1 Rows.laid_math_bits_deBruijn64tab))).modify 3 (putV (row1 Rows.laid_internal_strconv_uint64pow10))).modify 2 (putV (row2 Rows.laid_unicode_utf8_acceptRanges))).modify 1 (putV (row1 Rows.laid_unicode_utf8_first))) }
theorem laid_met (os : Os) : laidMet Tryd.prog Rows.fnExactReadScriptRow.laid ((laidWorld os).forCall (fun _ _ => 0) ⟨#[], #[.string ByteArray.empty], []⟩).memory :=
  laidMet_of_run' 8 (by kernel_rfl) (by kernel_rfl)
theorem reads (os : Os) {H : Type} (enc : TypeId × Value → H) : ∃ places, DataW.whole enc Tryd.prog ((laidWorld os).forCall (fun _ _ => 0) ⟨#[], #[.string ByteArray.empty], []⟩).memory Tryd.f3.params.toList Rows.fnExactReadScriptSpec.vars false (#[.string ByteArray.empty] : Array Value).toList 8 = some ([.lit (.string [])], [], places) :=
  ⟨[], by kernel_rfl⟩
set_option maxRecDepth 100000 in
theorem lifted (os : Os) (started : os.Started) (H : Type) (enc : TypeId × Value → H) (F : Stop.Interp) :
    ReturnsInHanded {} Tryd.checked os 3 .any ((OpenSpec.ofChange Rows.fnExactReadScriptSpec).preRow enc Tryd.prog Tryd.f3 Rows.fnExactReadScriptRow.domain false Rows.fnExactReadScriptRow.laid) (((OpenSpec.ofChange Rows.fnExactReadScriptSpec).at F).post enc Tryd.prog Tryd.f3 false true false false) := by
  obtain ⟨places, hx⟩ := reads os enc
  refine returnsInHanded_of_row (C := Tryd.checked) (s := OpenSpec.ofChange Rows.fnExactReadScriptSpec) own started (by kernel_rfl) Tryd.func3
    (witness_row_at (enc := enc) (C := Tryd.checked) false (laidWorld os) #[.string ByteArray.empty] rfl (by kernel_rfl) (by kernel_rfl) (by kernel_rfl)
      (OpenSpec.preRow_of_cond 8 hx (by kernel_rfl) (fun k hk => by cases hk) (by kernel_rfl) (laid_met os))) ?_
  intro W base args ds gs before hval hW _ _ _ hL _ _
  exact contract H enc W base args ds gs before hval hW hL
theorem k0 : (Rows.fnExactReadScriptRow.wf (OpenSpec.ofChange Rows.fnExactReadScriptSpec)) = true := by kernel_rfl
theorem k1 : (laidOutB Tryd.prog) = true := Core.Ux
theorem k2 : (mapsRowed Tryd.prog) = true := Core.Va
theorem k3 : (Tryd.f3.params.all (Tryd.prog.readableRec ·)) = true := by kernel_rfl
theorem k4 : (namedTie Tryd.prog Rows.fnExactReadScriptRow.named Rows.fnExactReadScriptSpec.vars) = true := by kernel_rfl
theorem k5 : ((Rows.fnExactReadScriptRow.stops == [])) = true := by kernel_rfl
theorem k6 : ((Tryd.prog.stops == [])) = true := by kernel_rfl
theorem k7 : ((Rows.fnExactReadScriptRow.knobs == [])) = true := by kernel_rfl
theorem k8 : ((Tryd.prog.stopKnobs == [])) = true := by kernel_rfl
theorem k9 : ((Rows.fnExactReadScriptRow.inPlace == Tryd.prog.inPlace 3)) = true := by kernel_rfl
theorem k10 : ((Rows.fnExactReadScriptRow.unfollowed == Tryd.prog.unfollowed 3)) = true := by kernel_rfl
theorem k11 : ((Rows.fnExactReadScriptRow.recurses == Tryd.prog.recurses 3)) = true := by kernel_rfl
theorem k12 : ((Rows.fnExactReadScriptRow.named == Tryd.prog.varsNamed 3)) = true := by kernel_rfl
theorem k13 : ((Rows.fnExactReadScriptRow.maps == (Tryd.f3.params.toList ++ Rows.fnExactReadScriptSpec.plain.varTypes Tryd.prog).any (Tryd.prog.mapsRec ·))) = true := by kernel_rfl
theorem k14 : ((Rows.fnExactReadScriptRow.ifaces == (Tryd.f3.params.toList ++ Rows.fnExactReadScriptSpec.plain.varTypes Tryd.prog).any (Tryd.prog.ifacesRec ·))) = true := by kernel_rfl
theorem k15 : ((Rows.fnExactReadScriptRow.mapsOut == Tryd.prog.mapsAmong Tryd.f3.resultTypes.toList)) = true := by kernel_rfl
theorem k16 : ((Rows.fnExactReadScriptRow.loops == (Tryd.f3.params.toList ++ Rows.fnExactReadScriptSpec.plain.varTypes Tryd.prog).any (Tryd.prog.loopsFrom ·))) = true := by kernel_rfl
theorem k17 : ((Rows.fnExactReadScriptRow.wideKeys == (Tryd.f3.params.toList ++ Rows.fnExactReadScriptSpec.plain.varTypes Tryd.prog ++ Tryd.f3.resultTypes.toList).any (Tryd.prog.wideKeysFrom ·))) = true := by kernel_rfl
theorem k18 : (Rows.fnExactReadScriptSpec.vars.all (Tryd.prog.varReadable ·)) = true := by kernel_rfl
theorem k19 : (Tryd.f3.resultTypes.all (fun t => Tryd.prog.readableRec t && decide (t < Tryd.prog.types.size))) = true := by kernel_rfl
theorem k20 : ((Rows.fnExactReadScriptRow.ifacesOut == Tryd.f3.resultTypes.toList.any (Tryd.prog.ifacesRec ·))) = true := by kernel_rfl
theorem k21 : ((Rows.fnExactReadScriptRow.loopsOut == Tryd.f3.resultTypes.toList.any (Tryd.prog.loopsFrom ·))) = true := by kernel_rfl
theorem k22 : ((Rows.fnExactReadScriptRow.plainKeys == Tryd.prog.plainKeys)) = true := by kernel_rfl
theorem k23 : (Rows.fnExactReadScriptRow.shortTexts.isNone) = true := by kernel_rfl
theorem k24 : (Tryd.prog.stopsHeard) = true := Core.Zk
theorem k25 : (Tryd.prog.mayEnter) = true := Core.Zj
theorem k26 : ((Rows.fnExactReadScriptRow.lifted == Tryd.prog.liftsFinal)) = true := Core.X9 (Core.Y1.symm)
theorem k27 : ((Tryd.prog.make == some Rows.fnExactReadScriptRow.make)) = true := Core.X9 (a := Tryd.prog.make) Core.aS
theorem k28 : ((Rows.fnExactReadScriptRow.kinds == (if Rows.fnExactReadScriptRow.domain.isEmpty then [] else Tryd.f3.params.toList.map fun t => match Tryd.prog.underlying t with | some (.int k) => some k | _ => none))) = true := by kernel_rfl
theorem k29 : ((Rows.fnExactReadScriptRow.pinned == Rows.fnExactReadScriptRow.pinnedBy)) = true := by kernel_rfl
theorem k30 : ((Rows.fnExactReadScriptRow.veiled == (Tryd.f3.params.toList ++ Rows.fnExactReadScriptSpec.plain.varTypes Tryd.prog ++ Tryd.f3.resultTypes.toList).any (Tryd.prog.veiledRec ·))) = true := by kernel_rfl
theorem k31 : (Rows.fnExactReadScriptRow.veiledFits Tryd.prog Tryd.f3.params.toList (Tryd.f3.params.toList ++ Rows.fnExactReadScriptSpec.plain.varTypes Tryd.prog ++ Tryd.f3.resultTypes.toList)) = true := by kernel_rfl
set_option maxRecDepth 100000 in
theorem closed : joinedFacts Tryd.prog 3 Tryd.f3 Rows.fnExactReadScriptSpec Rows.fnExactReadScriptRow = true := by
  unfold joinedFacts
  exact Core.FD (Core.FD (Core.FD (Core.FD (Core.FD (Core.FD (Core.FD (Core.FD (Core.FD (Core.FD (Core.FD (Core.FD (Core.FD (Core.FD (Core.FD (Core.FD (Core.FD (Core.FD (Core.FD (Core.FD (Core.FD (Core.FD (Core.FD (Core.FD (Core.FD (Core.FD (Core.FD (Core.FD (Core.FD (Core.FD (Core.FD k0 k1) k2) k3) k4) k5) k6) k7) k8) k9) k10) k11) k12) k13) k14) k15) k16) k17) k18) k19) k20) k21) k22) k23) k24) k25) k26) k27) k28) k29) k30) k31
set_option maxRecDepth 100000 in
theorem said : Rows.FnExactReadScriptSaid :=
  OpenClaim.holds_of_cond 3 Tryd.f3 rfl rfl rfl rfl rfl rfl rfl ⟨rfl, rfl, rfl, rfl, rfl⟩ rfl rfl rfl rfl rfl (by kernel_rfl) Tryd.func3 closed
    (of_decide_eq_true (by kernel_rfl)) (by unfold Func.isWrapper; first | (rw [if_pos (by decide +kernel)]; kernel_rfl) | (rw [if_neg (by decide +kernel)]; exact ⟨rfl, rfl⟩))
    (fun os started H enc _ F => by rw [OpenClaim.pre_eq_preRow]; exact lifted os started H enc F)
set_option maxRecDepth 100000 in
theorem plain (f : FuncId) (fn : Func) (hf : Tryd.pinned.checked.prog.funcNamed "loop.example/g00180/laws.FnExactReadScript" = some f) (hfn : Tryd.pinned.checked.prog.funcs[f]? = some fn) :
    false = Tryd.pinned.checked.prog.looks [] ∧ ∀ (j : Nat) t, fn.params[j]? = some t → Tryd.pinned.checked.prog.wantsStandIn t = false := by
  obtain rfl : f = 3 := Option.some.inj ((show Tryd.prog.funcNamed "loop.example/g00180/laws.FnExactReadScript" = some 3 by kernel_rfl).symm.trans hf) |>.symm
  obtain rfl : fn = Tryd.f3 := (Option.some.inj (Tryd.func3.symm.trans hfn)).symm
  refine ⟨by kernel_rfl, fun j t ht => ?_⟩
  rw [Tryd.params3] at ht
  obtain rfl : t = 9 := by simpa using Array.mem_of_getElem? ht
  exact (show Tryd.prog.wantsStandIn 9 = false by kernel_rfl)
set_option maxRecDepth 100000 in
theorem proved : Rows.FnExactReadScriptCardSaid :=
  Claim7.holds_tied_plain_at .later [] _ _ _ _ said (fun _ h => by cases h) (by kernel_rfl) (fun _ h => by cases h) fnExactReadScript_row_tie rfl ⟨rfl, rfl⟩ (by kernel_rfl) rfl plain (by kernel_rfl)
#print axioms proved
end Go.Proofs.YtfcgblnlopemkaaDoor.fnExactReadScript
