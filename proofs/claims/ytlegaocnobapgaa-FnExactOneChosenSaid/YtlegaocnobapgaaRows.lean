/-
  No cell of these rows narrows 'for every input' (looked for: loops, veiled, ifaces, maps, wideKeys, modest, calm, conditions, laid).
  DERIVED. THE GIVEN ROWS OF THIS SEAT. 12 by the template 'for every input the law returns true; each argument reads behind the call as it read before'; 0 by the template 'total and deterministic' (their statements: YtlegaocnobapgaaTotals.lean).
  GIVEN WITH THE SEED: the statements are not yours to turn. If you find one false, say at which input.
  Laid BY PROGRAM, IN A SANDBOX (cutbox-rows.mjs): the forced cells as the released guide's own fill.sh prints them over the translation a76458ca2d19ee6e… (all of the seat's roots in one cut). By AI agents, Wed Nov 11 2026. No macro, syntax, notation, axiom, sorry.
-/
import Derived.Test.YtlegaocnobapgaaChecked
import GoSem.Claim
import GoSem.ClaimJoined
import GoSem.ClaimMapViews
import Derived.JoinedTies
import Derived.KernelRfl
namespace Go.Proofs.Ytlegaocnobapgaa
/- THE CELL 'sum', in the pinned program and in every row, IS THE sha256 OF THE DUMP (.gsa) THAT YtlegaocnobapgaaProg.lean LOADS. Nothing in Lean hashes anything: it is a label: what it is worth is what the hold of that sum in a sandbox is worth. -/
noncomputable def Try.pinned : Pinned := { name := "ytlegaocnobapgaa", sum := "a76458ca2d19ee6ef1572f6512a8b160556e4289ce5e600d2d7d20d782d192e1", checked := Try.checked }
namespace Rows
def none {H : Type} : Left H := { results := [], args := [] }

/-- 'laws.FnExactStamp': WHATEVER THE INPUT: true; the input reads as it did. -/
def fnExactStampSpec : ChangeSpec := { name := "fnExactStamp", fn := fun _ => fun
  | [d] => { results := [.lit (.bool true)], args := [d] }
  | _ => none }
def fnExactStampRow : OpenClaim := { program := "ytlegaocnobapgaa", sum := "a76458ca2d19ee6ef1572f6512a8b160556e4289ce5e600d2d7d20d782d192e1", func := "loop.example/g00180/laws.FnExactStamp", spec := "fnExactStamp", apart := false }
def FnExactStampSaid : Prop := fnExactStampRow.holds Try.pinned (OpenSpec.ofChange fnExactStampSpec)

/-- ITS FALSE NEIGHBOUR: 'it returns false'. Refute it at one input. -/
def fnExactStampWrong : ChangeSpec := { name := "fnExactStamp", fn := fun _ => fun
  | [d] => { results := [.lit (.bool false)], args := [d] }
  | _ => none }
def FnExactStampWrongFalsely : Prop := fnExactStampRow.holds Try.pinned (OpenSpec.ofChange fnExactStampWrong)

/-- 'laws.FnExactEventOk': WHATEVER THE INPUT: true; the input reads as it did. -/
def fnExactEventOkSpec : ChangeSpec := { name := "fnExactEventOk", fn := fun _ => fun
  | [d] => { results := [.lit (.bool true)], args := [d] }
  | _ => none }
def fnExactEventOkRow : OpenClaim := { program := "ytlegaocnobapgaa", sum := "a76458ca2d19ee6ef1572f6512a8b160556e4289ce5e600d2d7d20d782d192e1", func := "loop.example/g00180/laws.FnExactEventOk", spec := "fnExactEventOk", apart := false }
def FnExactEventOkSaid : Prop := fnExactEventOkRow.holds Try.pinned (OpenSpec.ofChange fnExactEventOkSpec)

/-- ITS FALSE NEIGHBOUR: 'it returns false'. Refute it at one input. -/
def fnExactEventOkWrong : ChangeSpec := { name := "fnExactEventOk", fn := fun _ => fun
  | [d] => { results := [.lit (.bool false)], args := [d] }
  | _ => none }
def FnExactEventOkWrongFalsely : Prop := fnExactEventOkRow.holds Try.pinned (OpenSpec.ofChange fnExactEventOkWrong)

/-- 'laws.FnCouncilNew': WHATEVER THE INPUT: true; the input reads as it did. -/
def fnCouncilNewSpec : ChangeSpec := { name := "fnCouncilNew", fn := fun _ => fun
  | [d] => { results := [.lit (.bool true)], args := [d] }
  | _ => none }
def fnCouncilNewRow : OpenClaim := { program := "ytlegaocnobapgaa", sum := "a76458ca2d19ee6ef1572f6512a8b160556e4289ce5e600d2d7d20d782d192e1", func := "loop.example/g00180/laws.FnCouncilNew", spec := "fnCouncilNew", apart := false }
def FnCouncilNewSaid : Prop := fnCouncilNewRow.holds Try.pinned (OpenSpec.ofChange fnCouncilNewSpec)

/-- ITS FALSE NEIGHBOUR: 'it returns false'. Refute it at one input. -/
def fnCouncilNewWrong : ChangeSpec := { name := "fnCouncilNew", fn := fun _ => fun
  | [d] => { results := [.lit (.bool false)], args := [d] }
  | _ => none }
def FnCouncilNewWrongFalsely : Prop := fnCouncilNewRow.holds Try.pinned (OpenSpec.ofChange fnCouncilNewWrong)

/-- 'laws.FnExactItemOf': WHATEVER THE INPUT: true; the input reads as it did. -/
def fnExactItemOfSpec : ChangeSpec := { name := "fnExactItemOf", fn := fun _ => fun
  | [d1, d2] => { results := [.lit (.bool true)], args := [d1, d2] }
  | _ => none }
def fnExactItemOfRow : OpenClaim := { program := "ytlegaocnobapgaa", sum := "a76458ca2d19ee6ef1572f6512a8b160556e4289ce5e600d2d7d20d782d192e1", func := "loop.example/g00180/laws.FnExactItemOf", spec := "fnExactItemOf", apart := false }
def FnExactItemOfSaid : Prop := fnExactItemOfRow.holds Try.pinned (OpenSpec.ofChange fnExactItemOfSpec)

/-- ITS FALSE NEIGHBOUR: 'it returns false'. Refute it at one input. -/
def fnExactItemOfWrong : ChangeSpec := { name := "fnExactItemOf", fn := fun _ => fun
  | [d1, d2] => { results := [.lit (.bool false)], args := [d1, d2] }
  | _ => none }
def FnExactItemOfWrongFalsely : Prop := fnExactItemOfRow.holds Try.pinned (OpenSpec.ofChange fnExactItemOfWrong)

/-- 'laws.FnExactItemsOk': WHATEVER THE INPUT: true; the input reads as it did. -/
def fnExactItemsOkSpec : ChangeSpec := { name := "fnExactItemsOk", fn := fun _ => fun
  | [d] => { results := [.lit (.bool true)], args := [d] }
  | _ => none }
def fnExactItemsOkRow : OpenClaim := { program := "ytlegaocnobapgaa", sum := "a76458ca2d19ee6ef1572f6512a8b160556e4289ce5e600d2d7d20d782d192e1", func := "loop.example/g00180/laws.FnExactItemsOk", spec := "fnExactItemsOk", apart := false }
def FnExactItemsOkSaid : Prop := fnExactItemsOkRow.holds Try.pinned (OpenSpec.ofChange fnExactItemsOkSpec)

/-- ITS FALSE NEIGHBOUR: 'it returns false'. Refute it at one input. -/
def fnExactItemsOkWrong : ChangeSpec := { name := "fnExactItemsOk", fn := fun _ => fun
  | [d] => { results := [.lit (.bool false)], args := [d] }
  | _ => none }
def FnExactItemsOkWrongFalsely : Prop := fnExactItemsOkRow.holds Try.pinned (OpenSpec.ofChange fnExactItemsOkWrong)

/-- 'laws.FnExactViewsOk': WHATEVER THE INPUT: true; the input reads as it did. -/
def fnExactViewsOkSpec : ChangeSpec := { name := "fnExactViewsOk", fn := fun _ => fun
  | [d] => { results := [.lit (.bool true)], args := [d] }
  | _ => none }
def fnExactViewsOkRow : OpenClaim := { program := "ytlegaocnobapgaa", sum := "a76458ca2d19ee6ef1572f6512a8b160556e4289ce5e600d2d7d20d782d192e1", func := "loop.example/g00180/laws.FnExactViewsOk", spec := "fnExactViewsOk", apart := false }
def FnExactViewsOkSaid : Prop := fnExactViewsOkRow.holds Try.pinned (OpenSpec.ofChange fnExactViewsOkSpec)

/-- ITS FALSE NEIGHBOUR: 'it returns false'. Refute it at one input. -/
def fnExactViewsOkWrong : ChangeSpec := { name := "fnExactViewsOk", fn := fun _ => fun
  | [d] => { results := [.lit (.bool false)], args := [d] }
  | _ => none }
def FnExactViewsOkWrongFalsely : Prop := fnExactViewsOkRow.holds Try.pinned (OpenSpec.ofChange fnExactViewsOkWrong)

/-- 'laws.FnVoices': WHATEVER THE INPUT: true; the input reads as it did. -/
def fnVoicesSpec : ChangeSpec := { name := "fnVoices", fn := fun _ => fun
  | [d] => { results := [.lit (.bool true)], args := [d] }
  | _ => none }
def fnVoicesRow : OpenClaim := { program := "ytlegaocnobapgaa", sum := "a76458ca2d19ee6ef1572f6512a8b160556e4289ce5e600d2d7d20d782d192e1", func := "loop.example/g00180/laws.FnVoices", spec := "fnVoices", apart := false }
def FnVoicesSaid : Prop := fnVoicesRow.holds Try.pinned (OpenSpec.ofChange fnVoicesSpec)

/-- ITS FALSE NEIGHBOUR: 'it returns false'. Refute it at one input. -/
def fnVoicesWrong : ChangeSpec := { name := "fnVoices", fn := fun _ => fun
  | [d] => { results := [.lit (.bool false)], args := [d] }
  | _ => none }
def FnVoicesWrongFalsely : Prop := fnVoicesRow.holds Try.pinned (OpenSpec.ofChange fnVoicesWrong)

/-- 'laws.FnExactInTime': WHATEVER THE INPUT: true; the input reads as it did. -/
def fnExactInTimeSpec : ChangeSpec := { name := "fnExactInTime", fn := fun _ => fun
  | [d] => { results := [.lit (.bool true)], args := [d] }
  | _ => none }
def fnExactInTimeRow : OpenClaim := { program := "ytlegaocnobapgaa", sum := "a76458ca2d19ee6ef1572f6512a8b160556e4289ce5e600d2d7d20d782d192e1", func := "loop.example/g00180/laws.FnExactInTime", spec := "fnExactInTime", apart := false }
def FnExactInTimeSaid : Prop := fnExactInTimeRow.holds Try.pinned (OpenSpec.ofChange fnExactInTimeSpec)

/-- ITS FALSE NEIGHBOUR: 'it returns false'. Refute it at one input. -/
def fnExactInTimeWrong : ChangeSpec := { name := "fnExactInTime", fn := fun _ => fun
  | [d] => { results := [.lit (.bool false)], args := [d] }
  | _ => none }
def FnExactInTimeWrongFalsely : Prop := fnExactInTimeRow.holds Try.pinned (OpenSpec.ofChange fnExactInTimeWrong)

/-- 'laws.FnExactMsgOk': WHATEVER THE INPUT: true; the input reads as it did. -/
def fnExactMsgOkSpec : ChangeSpec := { name := "fnExactMsgOk", fn := fun _ => fun
  | [d] => { results := [.lit (.bool true)], args := [d] }
  | _ => none }
def fnExactMsgOkRow : OpenClaim := { program := "ytlegaocnobapgaa", sum := "a76458ca2d19ee6ef1572f6512a8b160556e4289ce5e600d2d7d20d782d192e1", func := "loop.example/g00180/laws.FnExactMsgOk", spec := "fnExactMsgOk", apart := false }
def FnExactMsgOkSaid : Prop := fnExactMsgOkRow.holds Try.pinned (OpenSpec.ofChange fnExactMsgOkSpec)

/-- ITS FALSE NEIGHBOUR: 'it returns false'. Refute it at one input. -/
def fnExactMsgOkWrong : ChangeSpec := { name := "fnExactMsgOk", fn := fun _ => fun
  | [d] => { results := [.lit (.bool false)], args := [d] }
  | _ => none }
def FnExactMsgOkWrongFalsely : Prop := fnExactMsgOkRow.holds Try.pinned (OpenSpec.ofChange fnExactMsgOkWrong)

/-- 'laws.FnExactReads': WHATEVER THE INPUT: true; the input reads as it did. -/
def fnExactReadsSpec : ChangeSpec := { name := "fnExactReads", fn := fun _ => fun
  | [d] => { results := [.lit (.bool true)], args := [d] }
  | _ => none }
def fnExactReadsRow : OpenClaim := { program := "ytlegaocnobapgaa", sum := "a76458ca2d19ee6ef1572f6512a8b160556e4289ce5e600d2d7d20d782d192e1", func := "loop.example/g00180/laws.FnExactReads", spec := "fnExactReads", unfollowed := true, recurses := true, apart := false }
def FnExactReadsSaid : Prop := fnExactReadsRow.holds Try.pinned (OpenSpec.ofChange fnExactReadsSpec)

/-- ITS FALSE NEIGHBOUR: 'it returns false'. Refute it at one input. -/
def fnExactReadsWrong : ChangeSpec := { name := "fnExactReads", fn := fun _ => fun
  | [d] => { results := [.lit (.bool false)], args := [d] }
  | _ => none }
def FnExactReadsWrongFalsely : Prop := fnExactReadsRow.holds Try.pinned (OpenSpec.ofChange fnExactReadsWrong)

/-- 'laws.FnExactMemberOk': WHATEVER THE INPUT: true; the input reads as it did. -/
def fnExactMemberOkSpec : ChangeSpec := { name := "fnExactMemberOk", fn := fun _ => fun
  | [d] => { results := [.lit (.bool true)], args := [d] }
  | _ => none }
def fnExactMemberOkRow : OpenClaim := { program := "ytlegaocnobapgaa", sum := "a76458ca2d19ee6ef1572f6512a8b160556e4289ce5e600d2d7d20d782d192e1", func := "loop.example/g00180/laws.FnExactMemberOk", spec := "fnExactMemberOk", apart := false }
def FnExactMemberOkSaid : Prop := fnExactMemberOkRow.holds Try.pinned (OpenSpec.ofChange fnExactMemberOkSpec)

/-- ITS FALSE NEIGHBOUR: 'it returns false'. Refute it at one input. -/
def fnExactMemberOkWrong : ChangeSpec := { name := "fnExactMemberOk", fn := fun _ => fun
  | [d] => { results := [.lit (.bool false)], args := [d] }
  | _ => none }
def FnExactMemberOkWrongFalsely : Prop := fnExactMemberOkRow.holds Try.pinned (OpenSpec.ofChange fnExactMemberOkWrong)

/-- 'laws.FnExactOneChosen': WHATEVER THE INPUT: true; the input reads as it did. -/
def fnExactOneChosenSpec : ChangeSpec := { name := "fnExactOneChosen", fn := fun _ => fun
  | [d] => { results := [.lit (.bool true)], args := [d] }
  | _ => none }
def fnExactOneChosenRow : OpenClaim := { program := "ytlegaocnobapgaa", sum := "a76458ca2d19ee6ef1572f6512a8b160556e4289ce5e600d2d7d20d782d192e1", func := "loop.example/g00180/laws.FnExactOneChosen", spec := "fnExactOneChosen", apart := false }
def FnExactOneChosenSaid : Prop := fnExactOneChosenRow.holds Try.pinned (OpenSpec.ofChange fnExactOneChosenSpec)

/-- ITS FALSE NEIGHBOUR: 'it returns false'. Refute it at one input. -/
def fnExactOneChosenWrong : ChangeSpec := { name := "fnExactOneChosen", fn := fun _ => fun
  | [d] => { results := [.lit (.bool false)], args := [d] }
  | _ => none }
def FnExactOneChosenWrongFalsely : Prop := fnExactOneChosenRow.holds Try.pinned (OpenSpec.ofChange fnExactOneChosenWrong)

/- THE SECOND FORM. 'bulk': how many values and letters a reading holds, each counted each time it is reached (what is shared counts as often as it is met; a slice's spare places count too). A statement '..UptoSaid' is the law's where the arguments, and the package variables that the reading takes, are together of bulk at most 1048576: NARROWER than '..Said'. Prove '..Said' where nothing that the law and all that it calls make is longer than what came in: it says more and counts as full. Else prove '..UptoSaid'. A law counts once. -/
mutual
def uptoBulk {H : Type} : DataW H → Nat
  | .lit (.string bytes) => bytes.length + 1
  | .lit _ => 1
  | .nil => 1
  | .ptr d => uptoBulk d + 1
  | .slice elems spare => uptoBulkAll elems + uptoBulkAll spare + 1
  | .agg parts => uptoBulkAll parts + 1
  | .iface _ d => uptoBulk d + 1
  | .map entries => uptoBulkEntries entries + 1
  | .held _ => 1
def uptoBulkAll {H : Type} : List (DataW H) → Nat
  | [] => 0
  | d :: r => uptoBulk d + uptoBulkAll r
def uptoBulkEntries {H : Type} : List (Lit × DataW H) → Nat
  | [] => 0
  | x :: r => uptoBulkEntry x + uptoBulkEntries r
def uptoBulkEntry {H : Type} : Lit × DataW H → Nat
  | (.string bytes, d) => bytes.length + uptoBulk d + 1
  | (_, d) => uptoBulk d + 1
 end
def uptoSmall : (H : Type) → List (DataW H) → Bool := fun _ ds => decide (uptoBulkAll ds ≤ 1048576)
def OpenSpec.upto (s : _root_.Go.ChangeSpec) : _root_.Go.OpenSpec := { _root_.Go.OpenSpec.ofChange s with cond := some uptoSmall }

/-- 'laws.FnExactStamp', WHERE WHAT IT READS IS OF BULK AT MOST 1048576: true; the input reads as it did. -/
def fnExactStampUptoRow : OpenClaim := { program := "ytlegaocnobapgaa", sum := "a76458ca2d19ee6ef1572f6512a8b160556e4289ce5e600d2d7d20d782d192e1", func := "loop.example/g00180/laws.FnExactStamp", spec := "fnExactStamp", apart := false, narrowed := true }
def FnExactStampUptoSaid : Prop := fnExactStampUptoRow.holds Try.pinned (OpenSpec.upto fnExactStampSpec)

/-- 'laws.FnExactEventOk', WHERE WHAT IT READS IS OF BULK AT MOST 1048576: true; the input reads as it did. -/
def fnExactEventOkUptoRow : OpenClaim := { program := "ytlegaocnobapgaa", sum := "a76458ca2d19ee6ef1572f6512a8b160556e4289ce5e600d2d7d20d782d192e1", func := "loop.example/g00180/laws.FnExactEventOk", spec := "fnExactEventOk", apart := false, narrowed := true }
def FnExactEventOkUptoSaid : Prop := fnExactEventOkUptoRow.holds Try.pinned (OpenSpec.upto fnExactEventOkSpec)

/-- 'laws.FnCouncilNew', WHERE WHAT IT READS IS OF BULK AT MOST 1048576: true; the input reads as it did. -/
def fnCouncilNewUptoRow : OpenClaim := { program := "ytlegaocnobapgaa", sum := "a76458ca2d19ee6ef1572f6512a8b160556e4289ce5e600d2d7d20d782d192e1", func := "loop.example/g00180/laws.FnCouncilNew", spec := "fnCouncilNew", apart := false, narrowed := true }
def FnCouncilNewUptoSaid : Prop := fnCouncilNewUptoRow.holds Try.pinned (OpenSpec.upto fnCouncilNewSpec)

/-- 'laws.FnExactItemOf', WHERE WHAT IT READS IS OF BULK AT MOST 1048576: true; the input reads as it did. -/
def fnExactItemOfUptoRow : OpenClaim := { program := "ytlegaocnobapgaa", sum := "a76458ca2d19ee6ef1572f6512a8b160556e4289ce5e600d2d7d20d782d192e1", func := "loop.example/g00180/laws.FnExactItemOf", spec := "fnExactItemOf", apart := false, narrowed := true }
def FnExactItemOfUptoSaid : Prop := fnExactItemOfUptoRow.holds Try.pinned (OpenSpec.upto fnExactItemOfSpec)

/-- 'laws.FnExactItemsOk', WHERE WHAT IT READS IS OF BULK AT MOST 1048576: true; the input reads as it did. -/
def fnExactItemsOkUptoRow : OpenClaim := { program := "ytlegaocnobapgaa", sum := "a76458ca2d19ee6ef1572f6512a8b160556e4289ce5e600d2d7d20d782d192e1", func := "loop.example/g00180/laws.FnExactItemsOk", spec := "fnExactItemsOk", apart := false, narrowed := true }
def FnExactItemsOkUptoSaid : Prop := fnExactItemsOkUptoRow.holds Try.pinned (OpenSpec.upto fnExactItemsOkSpec)

/-- 'laws.FnExactViewsOk', WHERE WHAT IT READS IS OF BULK AT MOST 1048576: true; the input reads as it did. -/
def fnExactViewsOkUptoRow : OpenClaim := { program := "ytlegaocnobapgaa", sum := "a76458ca2d19ee6ef1572f6512a8b160556e4289ce5e600d2d7d20d782d192e1", func := "loop.example/g00180/laws.FnExactViewsOk", spec := "fnExactViewsOk", apart := false, narrowed := true }
def FnExactViewsOkUptoSaid : Prop := fnExactViewsOkUptoRow.holds Try.pinned (OpenSpec.upto fnExactViewsOkSpec)

/-- 'laws.FnVoices', WHERE WHAT IT READS IS OF BULK AT MOST 1048576: true; the input reads as it did. -/
def fnVoicesUptoRow : OpenClaim := { program := "ytlegaocnobapgaa", sum := "a76458ca2d19ee6ef1572f6512a8b160556e4289ce5e600d2d7d20d782d192e1", func := "loop.example/g00180/laws.FnVoices", spec := "fnVoices", apart := false, narrowed := true }
def FnVoicesUptoSaid : Prop := fnVoicesUptoRow.holds Try.pinned (OpenSpec.upto fnVoicesSpec)

/-- 'laws.FnExactInTime', WHERE WHAT IT READS IS OF BULK AT MOST 1048576: true; the input reads as it did. -/
def fnExactInTimeUptoRow : OpenClaim := { program := "ytlegaocnobapgaa", sum := "a76458ca2d19ee6ef1572f6512a8b160556e4289ce5e600d2d7d20d782d192e1", func := "loop.example/g00180/laws.FnExactInTime", spec := "fnExactInTime", apart := false, narrowed := true }
def FnExactInTimeUptoSaid : Prop := fnExactInTimeUptoRow.holds Try.pinned (OpenSpec.upto fnExactInTimeSpec)

/-- 'laws.FnExactMsgOk', WHERE WHAT IT READS IS OF BULK AT MOST 1048576: true; the input reads as it did. -/
def fnExactMsgOkUptoRow : OpenClaim := { program := "ytlegaocnobapgaa", sum := "a76458ca2d19ee6ef1572f6512a8b160556e4289ce5e600d2d7d20d782d192e1", func := "loop.example/g00180/laws.FnExactMsgOk", spec := "fnExactMsgOk", apart := false, narrowed := true }
def FnExactMsgOkUptoSaid : Prop := fnExactMsgOkUptoRow.holds Try.pinned (OpenSpec.upto fnExactMsgOkSpec)

/-- 'laws.FnExactReads', WHERE WHAT IT READS IS OF BULK AT MOST 1048576: true; the input reads as it did. -/
def fnExactReadsUptoRow : OpenClaim := { program := "ytlegaocnobapgaa", sum := "a76458ca2d19ee6ef1572f6512a8b160556e4289ce5e600d2d7d20d782d192e1", func := "loop.example/g00180/laws.FnExactReads", spec := "fnExactReads", unfollowed := true, recurses := true, apart := false, narrowed := true }
def FnExactReadsUptoSaid : Prop := fnExactReadsUptoRow.holds Try.pinned (OpenSpec.upto fnExactReadsSpec)

/-- 'laws.FnExactMemberOk', WHERE WHAT IT READS IS OF BULK AT MOST 1048576: true; the input reads as it did. -/
def fnExactMemberOkUptoRow : OpenClaim := { program := "ytlegaocnobapgaa", sum := "a76458ca2d19ee6ef1572f6512a8b160556e4289ce5e600d2d7d20d782d192e1", func := "loop.example/g00180/laws.FnExactMemberOk", spec := "fnExactMemberOk", apart := false, narrowed := true }
def FnExactMemberOkUptoSaid : Prop := fnExactMemberOkUptoRow.holds Try.pinned (OpenSpec.upto fnExactMemberOkSpec)

/-- 'laws.FnExactOneChosen', WHERE WHAT IT READS IS OF BULK AT MOST 1048576: true; the input reads as it did. -/
def fnExactOneChosenUptoRow : OpenClaim := { program := "ytlegaocnobapgaa", sum := "a76458ca2d19ee6ef1572f6512a8b160556e4289ce5e600d2d7d20d782d192e1", func := "loop.example/g00180/laws.FnExactOneChosen", spec := "fnExactOneChosen", apart := false, narrowed := true }
def FnExactOneChosenUptoSaid : Prop := fnExactOneChosenUptoRow.holds Try.pinned (OpenSpec.upto fnExactOneChosenSpec)

end Rows
end Go.Proofs.Ytlegaocnobapgaa
