/-
  No cell of these rows narrows 'for every input' (looked for: loops, veiled, ifaces, maps, wideKeys, modest, calm, conditions, laid).
  DERIVED. THE GIVEN ROWS OF THIS SEAT. 9 by the template 'for every input the law returns true; each argument reads behind the call as it read before'; 0 by the template 'total and deterministic' (their statements: YtffahmnodgnohaaTotals.lean).
  GIVEN WITH THE SEED: the statements are not yours to turn. If you find one false, say at which input.
  Laid BY PROGRAM, IN A SANDBOX (cutbox-rows.mjs): the forced cells as the released guide's own fill.sh prints them over the translation fac11ccf1536e3dd… (all of the seat's roots in one cut). By AI agents, Wed Nov 11 2026. No macro, syntax, notation, axiom, sorry.
-/
import Derived.Test.YtffahmnodgnohaaChecked
import GoSem.Claim
import GoSem.ClaimJoined
import GoSem.ClaimMapViews
import Derived.JoinedTies
import Derived.KernelRfl
namespace Go.Proofs.Ytffahmnodgnohaa
/- THE CELL 'sum', in the pinned program and in every row, IS THE sha256 OF THE DUMP (.gsa) THAT YtffahmnodgnohaaProg.lean LOADS. Nothing in Lean hashes anything: it is a label: what it is worth is what the hold of that sum in a sandbox is worth. -/
noncomputable def Try.pinned : Pinned := { name := "ytffahmnodgnohaa", sum := "fac11ccf1536e3dd8fb78349f8b2d94342b51e2beb253322d92b005485312aba", checked := Try.checked }
namespace Rows
def none {H : Type} : Left H := { results := [], args := [] }

/-- 'laws.FnExactMsgText': WHATEVER THE INPUT: true; the input reads as it did. -/
def fnExactMsgTextSpec : ChangeSpec := { name := "fnExactMsgText", fn := fun _ => fun
  | [d] => { results := [.lit (.bool true)], args := [d] }
  | _ => none }
def fnExactMsgTextRow : OpenClaim := { program := "ytffahmnodgnohaa", sum := "fac11ccf1536e3dd8fb78349f8b2d94342b51e2beb253322d92b005485312aba", func := "loop.example/g00180/laws.FnExactMsgText", spec := "fnExactMsgText", inPlace := ["internal/abi.NoEscape"], apart := false }
def FnExactMsgTextSaid : Prop := fnExactMsgTextRow.holds Try.pinned (OpenSpec.ofChange fnExactMsgTextSpec)

/-- ITS FALSE NEIGHBOUR: 'it returns false'. Refute it at one input. -/
def fnExactMsgTextWrong : ChangeSpec := { name := "fnExactMsgText", fn := fun _ => fun
  | [d] => { results := [.lit (.bool false)], args := [d] }
  | _ => none }
def FnExactMsgTextWrongFalsely : Prop := fnExactMsgTextRow.holds Try.pinned (OpenSpec.ofChange fnExactMsgTextWrong)

/-- 'laws.FnExactReadMsg': WHATEVER THE INPUT: true; the input reads as it did. -/
def fnExactReadMsgSpec : ChangeSpec := { name := "fnExactReadMsg", fn := fun _ => fun
  | [d] => { results := [.lit (.bool true)], args := [d] }
  | _ => none }
def fnExactReadMsgRow : OpenClaim := { program := "ytffahmnodgnohaa", sum := "fac11ccf1536e3dd8fb78349f8b2d94342b51e2beb253322d92b005485312aba", func := "loop.example/g00180/laws.FnExactReadMsg", spec := "fnExactReadMsg", inPlace := ["internal/abi.NoEscape"], apart := false }
def FnExactReadMsgSaid : Prop := fnExactReadMsgRow.holds Try.pinned (OpenSpec.ofChange fnExactReadMsgSpec)

/-- ITS FALSE NEIGHBOUR: 'it returns false'. Refute it at one input. -/
def fnExactReadMsgWrong : ChangeSpec := { name := "fnExactReadMsg", fn := fun _ => fun
  | [d] => { results := [.lit (.bool false)], args := [d] }
  | _ => none }
def FnExactReadMsgWrongFalsely : Prop := fnExactReadMsgRow.holds Try.pinned (OpenSpec.ofChange fnExactReadMsgWrong)

/-- 'laws.FnMsgs': WHATEVER THE INPUT: true; the input reads as it did. -/
def fnMsgsSpec : ChangeSpec := { name := "fnMsgs", fn := fun _ => fun
  | [d] => { results := [.lit (.bool true)], args := [d] }
  | _ => none }
def fnMsgsRow : OpenClaim := { program := "ytffahmnodgnohaa", sum := "fac11ccf1536e3dd8fb78349f8b2d94342b51e2beb253322d92b005485312aba", func := "loop.example/g00180/laws.FnMsgs", spec := "fnMsgs", inPlace := ["internal/abi.NoEscape"], apart := false }
def FnMsgsSaid : Prop := fnMsgsRow.holds Try.pinned (OpenSpec.ofChange fnMsgsSpec)

/-- ITS FALSE NEIGHBOUR: 'it returns false'. Refute it at one input. -/
def fnMsgsWrong : ChangeSpec := { name := "fnMsgs", fn := fun _ => fun
  | [d] => { results := [.lit (.bool false)], args := [d] }
  | _ => none }
def FnMsgsWrongFalsely : Prop := fnMsgsRow.holds Try.pinned (OpenSpec.ofChange fnMsgsWrong)

/-- 'laws.FnExactMemberNew': WHATEVER THE INPUT: true; the input reads as it did. -/
def fnExactMemberNewSpec : ChangeSpec := { name := "fnExactMemberNew", fn := fun _ => fun
  | [d1, d2] => { results := [.lit (.bool true)], args := [d1, d2] }
  | _ => none }
def fnExactMemberNewRow : OpenClaim := { program := "ytffahmnodgnohaa", sum := "fac11ccf1536e3dd8fb78349f8b2d94342b51e2beb253322d92b005485312aba", func := "loop.example/g00180/laws.FnExactMemberNew", spec := "fnExactMemberNew", apart := false }
def FnExactMemberNewSaid : Prop := fnExactMemberNewRow.holds Try.pinned (OpenSpec.ofChange fnExactMemberNewSpec)

/-- ITS FALSE NEIGHBOUR: 'it returns false'. Refute it at one input. -/
def fnExactMemberNewWrong : ChangeSpec := { name := "fnExactMemberNew", fn := fun _ => fun
  | [d1, d2] => { results := [.lit (.bool false)], args := [d1, d2] }
  | _ => none }
def FnExactMemberNewWrongFalsely : Prop := fnExactMemberNewRow.holds Try.pinned (OpenSpec.ofChange fnExactMemberNewWrong)

/-- 'laws.FnExactCouncilNew': WHATEVER THE INPUT: true; the input reads as it did. -/
def fnExactCouncilNewSpec : ChangeSpec := { name := "fnExactCouncilNew", fn := fun _ => fun
  | [d1, d2] => { results := [.lit (.bool true)], args := [d1, d2] }
  | _ => none }
def fnExactCouncilNewRow : OpenClaim := { program := "ytffahmnodgnohaa", sum := "fac11ccf1536e3dd8fb78349f8b2d94342b51e2beb253322d92b005485312aba", func := "loop.example/g00180/laws.FnExactCouncilNew", spec := "fnExactCouncilNew", apart := false }
def FnExactCouncilNewSaid : Prop := fnExactCouncilNewRow.holds Try.pinned (OpenSpec.ofChange fnExactCouncilNewSpec)

/-- ITS FALSE NEIGHBOUR: 'it returns false'. Refute it at one input. -/
def fnExactCouncilNewWrong : ChangeSpec := { name := "fnExactCouncilNew", fn := fun _ => fun
  | [d1, d2] => { results := [.lit (.bool false)], args := [d1, d2] }
  | _ => none }
def FnExactCouncilNewWrongFalsely : Prop := fnExactCouncilNewRow.holds Try.pinned (OpenSpec.ofChange fnExactCouncilNewWrong)

/-- 'laws.FnExactGroupNew': WHATEVER THE INPUT: true; the input reads as it did. -/
def fnExactGroupNewSpec : ChangeSpec := { name := "fnExactGroupNew", fn := fun _ => fun
  | [d] => { results := [.lit (.bool true)], args := [d] }
  | _ => none }
def fnExactGroupNewRow : OpenClaim := { program := "ytffahmnodgnohaa", sum := "fac11ccf1536e3dd8fb78349f8b2d94342b51e2beb253322d92b005485312aba", func := "loop.example/g00180/laws.FnExactGroupNew", spec := "fnExactGroupNew", apart := false }
def FnExactGroupNewSaid : Prop := fnExactGroupNewRow.holds Try.pinned (OpenSpec.ofChange fnExactGroupNewSpec)

/-- ITS FALSE NEIGHBOUR: 'it returns false'. Refute it at one input. -/
def fnExactGroupNewWrong : ChangeSpec := { name := "fnExactGroupNew", fn := fun _ => fun
  | [d] => { results := [.lit (.bool false)], args := [d] }
  | _ => none }
def FnExactGroupNewWrongFalsely : Prop := fnExactGroupNewRow.holds Try.pinned (OpenSpec.ofChange fnExactGroupNewWrong)

/-- 'laws.FnAlone12': WHATEVER THE INPUT: true; the input reads as it did. -/
def fnAlone12Spec : ChangeSpec := { name := "fnAlone12", fn := fun _ => fun
  | [d] => { results := [.lit (.bool true)], args := [d] }
  | _ => none }
def fnAlone12Row : OpenClaim := { program := "ytffahmnodgnohaa", sum := "fac11ccf1536e3dd8fb78349f8b2d94342b51e2beb253322d92b005485312aba", func := "loop.example/g00180/laws.FnAlone12", spec := "fnAlone12", unfollowed := true, recurses := true, apart := false }
def FnAlone12Said : Prop := fnAlone12Row.holds Try.pinned (OpenSpec.ofChange fnAlone12Spec)

/-- ITS FALSE NEIGHBOUR: 'it returns false'. Refute it at one input. -/
def fnAlone12Wrong : ChangeSpec := { name := "fnAlone12", fn := fun _ => fun
  | [d] => { results := [.lit (.bool false)], args := [d] }
  | _ => none }
def FnAlone12WrongFalsely : Prop := fnAlone12Row.holds Try.pinned (OpenSpec.ofChange fnAlone12Wrong)

/-- 'laws.FnChosen': WHATEVER THE INPUT: true; the input reads as it did. -/
def fnChosenSpec : ChangeSpec := { name := "fnChosen", fn := fun _ => fun
  | [d] => { results := [.lit (.bool true)], args := [d] }
  | _ => none }
def fnChosenRow : OpenClaim := { program := "ytffahmnodgnohaa", sum := "fac11ccf1536e3dd8fb78349f8b2d94342b51e2beb253322d92b005485312aba", func := "loop.example/g00180/laws.FnChosen", spec := "fnChosen", unfollowed := true, recurses := true, apart := false }
def FnChosenSaid : Prop := fnChosenRow.holds Try.pinned (OpenSpec.ofChange fnChosenSpec)

/-- ITS FALSE NEIGHBOUR: 'it returns false'. Refute it at one input. -/
def fnChosenWrong : ChangeSpec := { name := "fnChosen", fn := fun _ => fun
  | [d] => { results := [.lit (.bool false)], args := [d] }
  | _ => none }
def FnChosenWrongFalsely : Prop := fnChosenRow.holds Try.pinned (OpenSpec.ofChange fnChosenWrong)

/-- 'laws.FnDecides': WHATEVER THE INPUT: true; the input reads as it did. -/
def fnDecidesSpec : ChangeSpec := { name := "fnDecides", fn := fun _ => fun
  | [d] => { results := [.lit (.bool true)], args := [d] }
  | _ => none }
def fnDecidesRow : OpenClaim := { program := "ytffahmnodgnohaa", sum := "fac11ccf1536e3dd8fb78349f8b2d94342b51e2beb253322d92b005485312aba", func := "loop.example/g00180/laws.FnDecides", spec := "fnDecides", unfollowed := true, recurses := true, apart := false }
def FnDecidesSaid : Prop := fnDecidesRow.holds Try.pinned (OpenSpec.ofChange fnDecidesSpec)

/-- ITS FALSE NEIGHBOUR: 'it returns false'. Refute it at one input. -/
def fnDecidesWrong : ChangeSpec := { name := "fnDecides", fn := fun _ => fun
  | [d] => { results := [.lit (.bool false)], args := [d] }
  | _ => none }
def FnDecidesWrongFalsely : Prop := fnDecidesRow.holds Try.pinned (OpenSpec.ofChange fnDecidesWrong)

/- THE SECOND FORM. 'bulk': how many values and letters a reading holds, each counted each time it is reached (what is shared counts as often as it is met; a slice's spare places count too). A statement '..UptoSaid' is the law's where the arguments, and the package variables that the reading takes, are together of bulk at most 1048576: NARROWER than '..Said'. Prove '..Said' where nothing that the law and all that it calls make is longer than what came in: it says more and counts as full. Else prove '..UptoSaid'. A law counts once. -/
mutual
def uptoBulk {H : Type} : DataW H → Nat
  | .lit (.string bytes) => bytes.length + 1
  | .lit _ => 1
  | .nil => 1
  | .ptr d => uptoBulk d + 1
  | .slice elems spare => uptoBulkAll elems + uptoBulkAll spare + 1
  | .agg parts => uptoBulkAll parts + 1
  | .iface _ d => uptoBulk d + 1
  | .map entries => uptoBulkEntries entries + 1
  | .held _ => 1
def uptoBulkAll {H : Type} : List (DataW H) → Nat
  | [] => 0
  | d :: r => uptoBulk d + uptoBulkAll r
def uptoBulkEntries {H : Type} : List (Lit × DataW H) → Nat
  | [] => 0
  | x :: r => uptoBulkEntry x + uptoBulkEntries r
def uptoBulkEntry {H : Type} : Lit × DataW H → Nat
  | (.string bytes, d) => bytes.length + uptoBulk d + 1
  | (_, d) => uptoBulk d + 1
 end
def uptoSmall : (H : Type) → List (DataW H) → Bool := fun _ ds => decide (uptoBulkAll ds ≤ 1048576)
def OpenSpec.upto (s : _root_.Go.ChangeSpec) : _root_.Go.OpenSpec := { _root_.Go.OpenSpec.ofChange s with cond := some uptoSmall }

/-- 'laws.FnExactMsgText', WHERE WHAT IT READS IS OF BULK AT MOST 1048576: true; the input reads as it did. -/
def fnExactMsgTextUptoRow : OpenClaim := { program := "ytffahmnodgnohaa", sum := "fac11ccf1536e3dd8fb78349f8b2d94342b51e2beb253322d92b005485312aba", func := "loop.example/g00180/laws.FnExactMsgText", spec := "fnExactMsgText", inPlace := ["internal/abi.NoEscape"], apart := false, narrowed := true }
def FnExactMsgTextUptoSaid : Prop := fnExactMsgTextUptoRow.holds Try.pinned (OpenSpec.upto fnExactMsgTextSpec)

/-- 'laws.FnExactReadMsg', WHERE WHAT IT READS IS OF BULK AT MOST 1048576: true; the input reads as it did. -/
def fnExactReadMsgUptoRow : OpenClaim := { program := "ytffahmnodgnohaa", sum := "fac11ccf1536e3dd8fb78349f8b2d94342b51e2beb253322d92b005485312aba", func := "loop.example/g00180/laws.FnExactReadMsg", spec := "fnExactReadMsg", inPlace := ["internal/abi.NoEscape"], apart := false, narrowed := true }
def FnExactReadMsgUptoSaid : Prop := fnExactReadMsgUptoRow.holds Try.pinned (OpenSpec.upto fnExactReadMsgSpec)

/-- 'laws.FnMsgs', WHERE WHAT IT READS IS OF BULK AT MOST 1048576: true; the input reads as it did. -/
def fnMsgsUptoRow : OpenClaim := { program := "ytffahmnodgnohaa", sum := "fac11ccf1536e3dd8fb78349f8b2d94342b51e2beb253322d92b005485312aba", func := "loop.example/g00180/laws.FnMsgs", spec := "fnMsgs", inPlace := ["internal/abi.NoEscape"], apart := false, narrowed := true }
def FnMsgsUptoSaid : Prop := fnMsgsUptoRow.holds Try.pinned (OpenSpec.upto fnMsgsSpec)

/-- 'laws.FnExactMemberNew', WHERE WHAT IT READS IS OF BULK AT MOST 1048576: true; the input reads as it did. -/
def fnExactMemberNewUptoRow : OpenClaim := { program := "ytffahmnodgnohaa", sum := "fac11ccf1536e3dd8fb78349f8b2d94342b51e2beb253322d92b005485312aba", func := "loop.example/g00180/laws.FnExactMemberNew", spec := "fnExactMemberNew", apart := false, narrowed := true }
def FnExactMemberNewUptoSaid : Prop := fnExactMemberNewUptoRow.holds Try.pinned (OpenSpec.upto fnExactMemberNewSpec)

/-- 'laws.FnExactCouncilNew', WHERE WHAT IT READS IS OF BULK AT MOST 1048576: true; the input reads as it did. -/
def fnExactCouncilNewUptoRow : OpenClaim := { program := "ytffahmnodgnohaa", sum := "fac11ccf1536e3dd8fb78349f8b2d94342b51e2beb253322d92b005485312aba", func := "loop.example/g00180/laws.FnExactCouncilNew", spec := "fnExactCouncilNew", apart := false, narrowed := true }
def FnExactCouncilNewUptoSaid : Prop := fnExactCouncilNewUptoRow.holds Try.pinned (OpenSpec.upto fnExactCouncilNewSpec)

/-- 'laws.FnExactGroupNew', WHERE WHAT IT READS IS OF BULK AT MOST 1048576: true; the input reads as it did. -/
def fnExactGroupNewUptoRow : OpenClaim := { program := "ytffahmnodgnohaa", sum := "fac11ccf1536e3dd8fb78349f8b2d94342b51e2beb253322d92b005485312aba", func := "loop.example/g00180/laws.FnExactGroupNew", spec := "fnExactGroupNew", apart := false, narrowed := true }
def FnExactGroupNewUptoSaid : Prop := fnExactGroupNewUptoRow.holds Try.pinned (OpenSpec.upto fnExactGroupNewSpec)

/-- 'laws.FnAlone12', WHERE WHAT IT READS IS OF BULK AT MOST 1048576: true; the input reads as it did. -/
def fnAlone12UptoRow : OpenClaim := { program := "ytffahmnodgnohaa", sum := "fac11ccf1536e3dd8fb78349f8b2d94342b51e2beb253322d92b005485312aba", func := "loop.example/g00180/laws.FnAlone12", spec := "fnAlone12", unfollowed := true, recurses := true, apart := false, narrowed := true }
def FnAlone12UptoSaid : Prop := fnAlone12UptoRow.holds Try.pinned (OpenSpec.upto fnAlone12Spec)

/-- 'laws.FnChosen', WHERE WHAT IT READS IS OF BULK AT MOST 1048576: true; the input reads as it did. -/
def fnChosenUptoRow : OpenClaim := { program := "ytffahmnodgnohaa", sum := "fac11ccf1536e3dd8fb78349f8b2d94342b51e2beb253322d92b005485312aba", func := "loop.example/g00180/laws.FnChosen", spec := "fnChosen", unfollowed := true, recurses := true, apart := false, narrowed := true }
def FnChosenUptoSaid : Prop := fnChosenUptoRow.holds Try.pinned (OpenSpec.upto fnChosenSpec)

/-- 'laws.FnDecides', WHERE WHAT IT READS IS OF BULK AT MOST 1048576: true; the input reads as it did. -/
def fnDecidesUptoRow : OpenClaim := { program := "ytffahmnodgnohaa", sum := "fac11ccf1536e3dd8fb78349f8b2d94342b51e2beb253322d92b005485312aba", func := "loop.example/g00180/laws.FnDecides", spec := "fnDecides", unfollowed := true, recurses := true, apart := false, narrowed := true }
def FnDecidesUptoSaid : Prop := fnDecidesUptoRow.holds Try.pinned (OpenSpec.upto fnDecidesSpec)

end Rows
end Go.Proofs.Ytffahmnodgnohaa
