/-
  No cell of these rows narrows 'for every input' (looked for: loops, veiled, ifaces, maps, wideKeys, modest, calm, conditions, laid).
  DERIVED. THE GIVEN ROWS OF THIS SEAT. 18 by the template 'for every input the law returns true; each argument reads behind the call as it read before'; 0 by the template 'total and deterministic' (their statements: YtnbfkndicldppaaTotals.lean).
  GIVEN WITH THE SEED: the statements are not yours to turn. If you find one false, say at which input.
  Laid BY PROGRAM, IN A SANDBOX (cutbox-rows.mjs): the forced cells as the released guide's own fill.sh prints them over the translation a68b2dce0b0bffe6… (all of the seat's roots in one cut). By AI agents, Wed Nov 11 2026. No macro, syntax, notation, axiom, sorry.
-/
import Derived.Test.YtnbfkndicldppaaChecked
import GoSem.Claim
import GoSem.ClaimJoined
import GoSem.ClaimMapViews
import Derived.JoinedTies
import Derived.KernelRfl
namespace Go.Proofs.Ytnbfkndicldppaa
/- THE CELL 'sum', in the pinned program and in every row, IS THE sha256 OF THE DUMP (.gsa) THAT YtnbfkndicldppaaProg.lean LOADS. Nothing in Lean hashes anything: it is a label: what it is worth is what the hold of that sum in a sandbox is worth. -/
noncomputable def Try.pinned : Pinned := { name := "ytnbfkndicldppaa", sum := "a68b2dce0b0bffe69878c9bc6a34f74d82febe3fa57a5a7f0a5d018428324804", checked := Try.checked }
namespace Rows
def none {H : Type} : Left H := { results := [], args := [] }

/-- 'laws.FnCouncilNew': WHATEVER THE INPUT: true; the input reads as it did. -/
def fnCouncilNewSpec : ChangeSpec := { name := "fnCouncilNew", fn := fun _ => fun
  | [d] => { results := [.lit (.bool true)], args := [d] }
  | _ => none }
def fnCouncilNewRow : OpenClaim := { program := "ytnbfkndicldppaa", sum := "a68b2dce0b0bffe69878c9bc6a34f74d82febe3fa57a5a7f0a5d018428324804", func := "loop.example/g00180/laws.FnCouncilNew", spec := "fnCouncilNew", apart := false }
def FnCouncilNewSaid : Prop := fnCouncilNewRow.holds Try.pinned (OpenSpec.ofChange fnCouncilNewSpec)

/-- ITS FALSE NEIGHBOUR: 'it returns false'. Refute it at one input. -/
def fnCouncilNewWrong : ChangeSpec := { name := "fnCouncilNew", fn := fun _ => fun
  | [d] => { results := [.lit (.bool false)], args := [d] }
  | _ => none }
def FnCouncilNewWrongFalsely : Prop := fnCouncilNewRow.holds Try.pinned (OpenSpec.ofChange fnCouncilNewWrong)

/-- 'laws.FnVoices': WHATEVER THE INPUT: true; the input reads as it did. -/
def fnVoicesSpec : ChangeSpec := { name := "fnVoices", fn := fun _ => fun
  | [d] => { results := [.lit (.bool true)], args := [d] }
  | _ => none }
def fnVoicesRow : OpenClaim := { program := "ytnbfkndicldppaa", sum := "a68b2dce0b0bffe69878c9bc6a34f74d82febe3fa57a5a7f0a5d018428324804", func := "loop.example/g00180/laws.FnVoices", spec := "fnVoices", apart := false }
def FnVoicesSaid : Prop := fnVoicesRow.holds Try.pinned (OpenSpec.ofChange fnVoicesSpec)

/-- ITS FALSE NEIGHBOUR: 'it returns false'. Refute it at one input. -/
def fnVoicesWrong : ChangeSpec := { name := "fnVoices", fn := fun _ => fun
  | [d] => { results := [.lit (.bool false)], args := [d] }
  | _ => none }
def FnVoicesWrongFalsely : Prop := fnVoicesRow.holds Try.pinned (OpenSpec.ofChange fnVoicesWrong)

/-- 'laws.FnExactReads': WHATEVER THE INPUT: true; the input reads as it did. -/
def fnExactReadsSpec : ChangeSpec := { name := "fnExactReads", fn := fun _ => fun
  | [d] => { results := [.lit (.bool true)], args := [d] }
  | _ => none }
def fnExactReadsRow : OpenClaim := { program := "ytnbfkndicldppaa", sum := "a68b2dce0b0bffe69878c9bc6a34f74d82febe3fa57a5a7f0a5d018428324804", func := "loop.example/g00180/laws.FnExactReads", spec := "fnExactReads", unfollowed := true, recurses := true, apart := false }
def FnExactReadsSaid : Prop := fnExactReadsRow.holds Try.pinned (OpenSpec.ofChange fnExactReadsSpec)

/-- ITS FALSE NEIGHBOUR: 'it returns false'. Refute it at one input. -/
def fnExactReadsWrong : ChangeSpec := { name := "fnExactReads", fn := fun _ => fun
  | [d] => { results := [.lit (.bool false)], args := [d] }
  | _ => none }
def FnExactReadsWrongFalsely : Prop := fnExactReadsRow.holds Try.pinned (OpenSpec.ofChange fnExactReadsWrong)

/-- 'laws.FnAlone12': WHATEVER THE INPUT: true; the input reads as it did. -/
def fnAlone12Spec : ChangeSpec := { name := "fnAlone12", fn := fun _ => fun
  | [d] => { results := [.lit (.bool true)], args := [d] }
  | _ => none }
def fnAlone12Row : OpenClaim := { program := "ytnbfkndicldppaa", sum := "a68b2dce0b0bffe69878c9bc6a34f74d82febe3fa57a5a7f0a5d018428324804", func := "loop.example/g00180/laws.FnAlone12", spec := "fnAlone12", unfollowed := true, recurses := true, apart := false }
def FnAlone12Said : Prop := fnAlone12Row.holds Try.pinned (OpenSpec.ofChange fnAlone12Spec)

/-- ITS FALSE NEIGHBOUR: 'it returns false'. Refute it at one input. -/
def fnAlone12Wrong : ChangeSpec := { name := "fnAlone12", fn := fun _ => fun
  | [d] => { results := [.lit (.bool false)], args := [d] }
  | _ => none }
def FnAlone12WrongFalsely : Prop := fnAlone12Row.holds Try.pinned (OpenSpec.ofChange fnAlone12Wrong)

/-- 'laws.FnExactMsgText': WHATEVER THE INPUT: true; the input reads as it did. -/
def fnExactMsgTextSpec : ChangeSpec := { name := "fnExactMsgText", fn := fun _ => fun
  | [d] => { results := [.lit (.bool true)], args := [d] }
  | _ => none }
def fnExactMsgTextRow : OpenClaim := { program := "ytnbfkndicldppaa", sum := "a68b2dce0b0bffe69878c9bc6a34f74d82febe3fa57a5a7f0a5d018428324804", func := "loop.example/g00180/laws.FnExactMsgText", spec := "fnExactMsgText", inPlace := ["internal/abi.NoEscape"], apart := false }
def FnExactMsgTextSaid : Prop := fnExactMsgTextRow.holds Try.pinned (OpenSpec.ofChange fnExactMsgTextSpec)

/-- ITS FALSE NEIGHBOUR: 'it returns false'. Refute it at one input. -/
def fnExactMsgTextWrong : ChangeSpec := { name := "fnExactMsgText", fn := fun _ => fun
  | [d] => { results := [.lit (.bool false)], args := [d] }
  | _ => none }
def FnExactMsgTextWrongFalsely : Prop := fnExactMsgTextRow.holds Try.pinned (OpenSpec.ofChange fnExactMsgTextWrong)

/-- 'laws.FnItems': WHATEVER THE INPUT: true; the input reads as it did. -/
def fnItemsSpec : ChangeSpec := { name := "fnItems", fn := fun _ => fun
  | [d] => { results := [.lit (.bool true)], args := [d] }
  | _ => none }
def fnItemsRow : OpenClaim := { program := "ytnbfkndicldppaa", sum := "a68b2dce0b0bffe69878c9bc6a34f74d82febe3fa57a5a7f0a5d018428324804", func := "loop.example/g00180/laws.FnItems", spec := "fnItems", inPlace := ["internal/bytealg.abigen_runtime_cmpstring", "slices.overlaps[loop.example/g00180/impl.Item]"], unfollowed := true, recurses := true, apart := false }
def FnItemsSaid : Prop := fnItemsRow.holds Try.pinned (OpenSpec.ofChange fnItemsSpec)

/-- ITS FALSE NEIGHBOUR: 'it returns false'. Refute it at one input. -/
def fnItemsWrong : ChangeSpec := { name := "fnItems", fn := fun _ => fun
  | [d] => { results := [.lit (.bool false)], args := [d] }
  | _ => none }
def FnItemsWrongFalsely : Prop := fnItemsRow.holds Try.pinned (OpenSpec.ofChange fnItemsWrong)

/-- 'laws.FnExactFall': WHATEVER THE INPUT: true; the input reads as it did. -/
def fnExactFallSpec : ChangeSpec := { name := "fnExactFall", fn := fun _ => fun
  | [d] => { results := [.lit (.bool true)], args := [d] }
  | _ => none }
def fnExactFallRow : OpenClaim := { program := "ytnbfkndicldppaa", sum := "a68b2dce0b0bffe69878c9bc6a34f74d82febe3fa57a5a7f0a5d018428324804", func := "loop.example/g00180/laws.FnExactFall", spec := "fnExactFall", apart := false }
def FnExactFallSaid : Prop := fnExactFallRow.holds Try.pinned (OpenSpec.ofChange fnExactFallSpec)

/-- ITS FALSE NEIGHBOUR: 'it returns false'. Refute it at one input. -/
def fnExactFallWrong : ChangeSpec := { name := "fnExactFall", fn := fun _ => fun
  | [d] => { results := [.lit (.bool false)], args := [d] }
  | _ => none }
def FnExactFallWrongFalsely : Prop := fnExactFallRow.holds Try.pinned (OpenSpec.ofChange fnExactFallWrong)

/-- 'laws.FnExactMemberNew': WHATEVER THE INPUT: true; the input reads as it did. -/
def fnExactMemberNewSpec : ChangeSpec := { name := "fnExactMemberNew", fn := fun _ => fun
  | [d1, d2] => { results := [.lit (.bool true)], args := [d1, d2] }
  | _ => none }
def fnExactMemberNewRow : OpenClaim := { program := "ytnbfkndicldppaa", sum := "a68b2dce0b0bffe69878c9bc6a34f74d82febe3fa57a5a7f0a5d018428324804", func := "loop.example/g00180/laws.FnExactMemberNew", spec := "fnExactMemberNew", apart := false }
def FnExactMemberNewSaid : Prop := fnExactMemberNewRow.holds Try.pinned (OpenSpec.ofChange fnExactMemberNewSpec)

/-- ITS FALSE NEIGHBOUR: 'it returns false'. Refute it at one input. -/
def fnExactMemberNewWrong : ChangeSpec := { name := "fnExactMemberNew", fn := fun _ => fun
  | [d1, d2] => { results := [.lit (.bool false)], args := [d1, d2] }
  | _ => none }
def FnExactMemberNewWrongFalsely : Prop := fnExactMemberNewRow.holds Try.pinned (OpenSpec.ofChange fnExactMemberNewWrong)

/-- 'laws.FnTouches': WHATEVER THE INPUT: true; the input reads as it did. -/
def fnTouchesSpec : ChangeSpec := { name := "fnTouches", fn := fun _ => fun
  | [d] => { results := [.lit (.bool true)], args := [d] }
  | _ => none }
def fnTouchesRow : OpenClaim := { program := "ytnbfkndicldppaa", sum := "a68b2dce0b0bffe69878c9bc6a34f74d82febe3fa57a5a7f0a5d018428324804", func := "loop.example/g00180/laws.FnTouches", spec := "fnTouches", inPlace := ["slices.overlaps[string]"], apart := false }
def FnTouchesSaid : Prop := fnTouchesRow.holds Try.pinned (OpenSpec.ofChange fnTouchesSpec)

/-- ITS FALSE NEIGHBOUR: 'it returns false'. Refute it at one input. -/
def fnTouchesWrong : ChangeSpec := { name := "fnTouches", fn := fun _ => fun
  | [d] => { results := [.lit (.bool false)], args := [d] }
  | _ => none }
def FnTouchesWrongFalsely : Prop := fnTouchesRow.holds Try.pinned (OpenSpec.ofChange fnTouchesWrong)

/-- 'laws.FnExactPutItem': WHATEVER THE INPUT: true; the input reads as it did. -/
def fnExactPutItemSpec : ChangeSpec := { name := "fnExactPutItem", fn := fun _ => fun
  | [d1, d2] => { results := [.lit (.bool true)], args := [d1, d2] }
  | _ => none }
def fnExactPutItemRow : OpenClaim := { program := "ytnbfkndicldppaa", sum := "a68b2dce0b0bffe69878c9bc6a34f74d82febe3fa57a5a7f0a5d018428324804", func := "loop.example/g00180/laws.FnExactPutItem", spec := "fnExactPutItem", inPlace := ["internal/bytealg.abigen_runtime_cmpstring", "slices.overlaps[loop.example/g00180/impl.Item]"], unfollowed := true, recurses := true, apart := false }
def FnExactPutItemSaid : Prop := fnExactPutItemRow.holds Try.pinned (OpenSpec.ofChange fnExactPutItemSpec)

/-- ITS FALSE NEIGHBOUR: 'it returns false'. Refute it at one input. -/
def fnExactPutItemWrong : ChangeSpec := { name := "fnExactPutItem", fn := fun _ => fun
  | [d1, d2] => { results := [.lit (.bool false)], args := [d1, d2] }
  | _ => none }
def FnExactPutItemWrongFalsely : Prop := fnExactPutItemRow.holds Try.pinned (OpenSpec.ofChange fnExactPutItemWrong)

/-- 'laws.FnExactCouncilNew': WHATEVER THE INPUT: true; the input reads as it did. -/
def fnExactCouncilNewSpec : ChangeSpec := { name := "fnExactCouncilNew", fn := fun _ => fun
  | [d1, d2] => { results := [.lit (.bool true)], args := [d1, d2] }
  | _ => none }
def fnExactCouncilNewRow : OpenClaim := { program := "ytnbfkndicldppaa", sum := "a68b2dce0b0bffe69878c9bc6a34f74d82febe3fa57a5a7f0a5d018428324804", func := "loop.example/g00180/laws.FnExactCouncilNew", spec := "fnExactCouncilNew", apart := false }
def FnExactCouncilNewSaid : Prop := fnExactCouncilNewRow.holds Try.pinned (OpenSpec.ofChange fnExactCouncilNewSpec)

/-- ITS FALSE NEIGHBOUR: 'it returns false'. Refute it at one input. -/
def fnExactCouncilNewWrong : ChangeSpec := { name := "fnExactCouncilNew", fn := fun _ => fun
  | [d1, d2] => { results := [.lit (.bool false)], args := [d1, d2] }
  | _ => none }
def FnExactCouncilNewWrongFalsely : Prop := fnExactCouncilNewRow.holds Try.pinned (OpenSpec.ofChange fnExactCouncilNewWrong)

/-- 'laws.FnChosen': WHATEVER THE INPUT: true; the input reads as it did. -/
def fnChosenSpec : ChangeSpec := { name := "fnChosen", fn := fun _ => fun
  | [d] => { results := [.lit (.bool true)], args := [d] }
  | _ => none }
def fnChosenRow : OpenClaim := { program := "ytnbfkndicldppaa", sum := "a68b2dce0b0bffe69878c9bc6a34f74d82febe3fa57a5a7f0a5d018428324804", func := "loop.example/g00180/laws.FnChosen", spec := "fnChosen", unfollowed := true, recurses := true, apart := false }
def FnChosenSaid : Prop := fnChosenRow.holds Try.pinned (OpenSpec.ofChange fnChosenSpec)

/-- ITS FALSE NEIGHBOUR: 'it returns false'. Refute it at one input. -/
def fnChosenWrong : ChangeSpec := { name := "fnChosen", fn := fun _ => fun
  | [d] => { results := [.lit (.bool false)], args := [d] }
  | _ => none }
def FnChosenWrongFalsely : Prop := fnChosenRow.holds Try.pinned (OpenSpec.ofChange fnChosenWrong)

/-- 'laws.FnExactReadMsg': WHATEVER THE INPUT: true; the input reads as it did. -/
def fnExactReadMsgSpec : ChangeSpec := { name := "fnExactReadMsg", fn := fun _ => fun
  | [d] => { results := [.lit (.bool true)], args := [d] }
  | _ => none }
def fnExactReadMsgRow : OpenClaim := { program := "ytnbfkndicldppaa", sum := "a68b2dce0b0bffe69878c9bc6a34f74d82febe3fa57a5a7f0a5d018428324804", func := "loop.example/g00180/laws.FnExactReadMsg", spec := "fnExactReadMsg", inPlace := ["internal/abi.NoEscape"], apart := false }
def FnExactReadMsgSaid : Prop := fnExactReadMsgRow.holds Try.pinned (OpenSpec.ofChange fnExactReadMsgSpec)

/-- ITS FALSE NEIGHBOUR: 'it returns false'. Refute it at one input. -/
def fnExactReadMsgWrong : ChangeSpec := { name := "fnExactReadMsg", fn := fun _ => fun
  | [d] => { results := [.lit (.bool false)], args := [d] }
  | _ => none }
def FnExactReadMsgWrongFalsely : Prop := fnExactReadMsgRow.holds Try.pinned (OpenSpec.ofChange fnExactReadMsgWrong)

/-- 'laws.FnDecides': WHATEVER THE INPUT: true; the input reads as it did. -/
def fnDecidesSpec : ChangeSpec := { name := "fnDecides", fn := fun _ => fun
  | [d] => { results := [.lit (.bool true)], args := [d] }
  | _ => none }
def fnDecidesRow : OpenClaim := { program := "ytnbfkndicldppaa", sum := "a68b2dce0b0bffe69878c9bc6a34f74d82febe3fa57a5a7f0a5d018428324804", func := "loop.example/g00180/laws.FnDecides", spec := "fnDecides", unfollowed := true, recurses := true, apart := false }
def FnDecidesSaid : Prop := fnDecidesRow.holds Try.pinned (OpenSpec.ofChange fnDecidesSpec)

/-- ITS FALSE NEIGHBOUR: 'it returns false'. Refute it at one input. -/
def fnDecidesWrong : ChangeSpec := { name := "fnDecides", fn := fun _ => fun
  | [d] => { results := [.lit (.bool false)], args := [d] }
  | _ => none }
def FnDecidesWrongFalsely : Prop := fnDecidesRow.holds Try.pinned (OpenSpec.ofChange fnDecidesWrong)

/-- 'laws.FnExactOneServes': WHATEVER THE INPUT: true; the input reads as it did. -/
def fnExactOneServesSpec : ChangeSpec := { name := "fnExactOneServes", fn := fun _ => fun
  | [d] => { results := [.lit (.bool true)], args := [d] }
  | _ => none }
def fnExactOneServesRow : OpenClaim := { program := "ytnbfkndicldppaa", sum := "a68b2dce0b0bffe69878c9bc6a34f74d82febe3fa57a5a7f0a5d018428324804", func := "loop.example/g00180/laws.FnExactOneServes", spec := "fnExactOneServes", apart := false }
def FnExactOneServesSaid : Prop := fnExactOneServesRow.holds Try.pinned (OpenSpec.ofChange fnExactOneServesSpec)

/-- ITS FALSE NEIGHBOUR: 'it returns false'. Refute it at one input. -/
def fnExactOneServesWrong : ChangeSpec := { name := "fnExactOneServes", fn := fun _ => fun
  | [d] => { results := [.lit (.bool false)], args := [d] }
  | _ => none }
def FnExactOneServesWrongFalsely : Prop := fnExactOneServesRow.holds Try.pinned (OpenSpec.ofChange fnExactOneServesWrong)

/-- 'laws.FnExactAlike': WHATEVER THE INPUT: true; the input reads as it did. -/
def fnExactAlikeSpec : ChangeSpec := { name := "fnExactAlike", fn := fun _ => fun
  | [d] => { results := [.lit (.bool true)], args := [d] }
  | _ => none }
def fnExactAlikeRow : OpenClaim := { program := "ytnbfkndicldppaa", sum := "a68b2dce0b0bffe69878c9bc6a34f74d82febe3fa57a5a7f0a5d018428324804", func := "loop.example/g00180/laws.FnExactAlike", spec := "fnExactAlike", apart := false }
def FnExactAlikeSaid : Prop := fnExactAlikeRow.holds Try.pinned (OpenSpec.ofChange fnExactAlikeSpec)

/-- ITS FALSE NEIGHBOUR: 'it returns false'. Refute it at one input. -/
def fnExactAlikeWrong : ChangeSpec := { name := "fnExactAlike", fn := fun _ => fun
  | [d] => { results := [.lit (.bool false)], args := [d] }
  | _ => none }
def FnExactAlikeWrongFalsely : Prop := fnExactAlikeRow.holds Try.pinned (OpenSpec.ofChange fnExactAlikeWrong)

/-- 'laws.FnMsgs': WHATEVER THE INPUT: true; the input reads as it did. -/
def fnMsgsSpec : ChangeSpec := { name := "fnMsgs", fn := fun _ => fun
  | [d] => { results := [.lit (.bool true)], args := [d] }
  | _ => none }
def fnMsgsRow : OpenClaim := { program := "ytnbfkndicldppaa", sum := "a68b2dce0b0bffe69878c9bc6a34f74d82febe3fa57a5a7f0a5d018428324804", func := "loop.example/g00180/laws.FnMsgs", spec := "fnMsgs", inPlace := ["internal/abi.NoEscape"], apart := false }
def FnMsgsSaid : Prop := fnMsgsRow.holds Try.pinned (OpenSpec.ofChange fnMsgsSpec)

/-- ITS FALSE NEIGHBOUR: 'it returns false'. Refute it at one input. -/
def fnMsgsWrong : ChangeSpec := { name := "fnMsgs", fn := fun _ => fun
  | [d] => { results := [.lit (.bool false)], args := [d] }
  | _ => none }
def FnMsgsWrongFalsely : Prop := fnMsgsRow.holds Try.pinned (OpenSpec.ofChange fnMsgsWrong)

/-- 'laws.FnExactGroupNew': WHATEVER THE INPUT: true; the input reads as it did. -/
def fnExactGroupNewSpec : ChangeSpec := { name := "fnExactGroupNew", fn := fun _ => fun
  | [d] => { results := [.lit (.bool true)], args := [d] }
  | _ => none }
def fnExactGroupNewRow : OpenClaim := { program := "ytnbfkndicldppaa", sum := "a68b2dce0b0bffe69878c9bc6a34f74d82febe3fa57a5a7f0a5d018428324804", func := "loop.example/g00180/laws.FnExactGroupNew", spec := "fnExactGroupNew", apart := false }
def FnExactGroupNewSaid : Prop := fnExactGroupNewRow.holds Try.pinned (OpenSpec.ofChange fnExactGroupNewSpec)

/-- ITS FALSE NEIGHBOUR: 'it returns false'. Refute it at one input. -/
def fnExactGroupNewWrong : ChangeSpec := { name := "fnExactGroupNew", fn := fun _ => fun
  | [d] => { results := [.lit (.bool false)], args := [d] }
  | _ => none }
def FnExactGroupNewWrongFalsely : Prop := fnExactGroupNewRow.holds Try.pinned (OpenSpec.ofChange fnExactGroupNewWrong)

/- THE SECOND FORM. 'bulk': how many values and letters a reading holds, each counted each time it is reached (what is shared counts as often as it is met; a slice's spare places count too). A statement '..UptoSaid' is the law's where the arguments, and the package variables that the reading takes, are together of bulk at most 1048576: NARROWER than '..Said'. Prove '..Said' where nothing that the law and all that it calls make is longer than what came in: it says more and counts as full. Else prove '..UptoSaid'. A law counts once. -/
mutual
def uptoBulk {H : Type} : DataW H → Nat
  | .lit (.string bytes) => bytes.length + 1
  | .lit _ => 1
  | .nil => 1
  | .ptr d => uptoBulk d + 1
  | .slice elems spare => uptoBulkAll elems + uptoBulkAll spare + 1
  | .agg parts => uptoBulkAll parts + 1
  | .iface _ d => uptoBulk d + 1
  | .map entries => uptoBulkEntries entries + 1
  | .held _ => 1
def uptoBulkAll {H : Type} : List (DataW H) → Nat
  | [] => 0
  | d :: r => uptoBulk d + uptoBulkAll r
def uptoBulkEntries {H : Type} : List (Lit × DataW H) → Nat
  | [] => 0
  | x :: r => uptoBulkEntry x + uptoBulkEntries r
def uptoBulkEntry {H : Type} : Lit × DataW H → Nat
  | (.string bytes, d) => bytes.length + uptoBulk d + 1
  | (_, d) => uptoBulk d + 1
 end
def uptoSmall : (H : Type) → List (DataW H) → Bool := fun _ ds => decide (uptoBulkAll ds ≤ 1048576)
def OpenSpec.upto (s : _root_.Go.ChangeSpec) : _root_.Go.OpenSpec := { _root_.Go.OpenSpec.ofChange s with cond := some uptoSmall }

/-- 'laws.FnCouncilNew', WHERE WHAT IT READS IS OF BULK AT MOST 1048576: true; the input reads as it did. -/
def fnCouncilNewUptoRow : OpenClaim := { program := "ytnbfkndicldppaa", sum := "a68b2dce0b0bffe69878c9bc6a34f74d82febe3fa57a5a7f0a5d018428324804", func := "loop.example/g00180/laws.FnCouncilNew", spec := "fnCouncilNew", apart := false, narrowed := true }
def FnCouncilNewUptoSaid : Prop := fnCouncilNewUptoRow.holds Try.pinned (OpenSpec.upto fnCouncilNewSpec)

/-- 'laws.FnVoices', WHERE WHAT IT READS IS OF BULK AT MOST 1048576: true; the input reads as it did. -/
def fnVoicesUptoRow : OpenClaim := { program := "ytnbfkndicldppaa", sum := "a68b2dce0b0bffe69878c9bc6a34f74d82febe3fa57a5a7f0a5d018428324804", func := "loop.example/g00180/laws.FnVoices", spec := "fnVoices", apart := false, narrowed := true }
def FnVoicesUptoSaid : Prop := fnVoicesUptoRow.holds Try.pinned (OpenSpec.upto fnVoicesSpec)

/-- 'laws.FnExactReads', WHERE WHAT IT READS IS OF BULK AT MOST 1048576: true; the input reads as it did. -/
def fnExactReadsUptoRow : OpenClaim := { program := "ytnbfkndicldppaa", sum := "a68b2dce0b0bffe69878c9bc6a34f74d82febe3fa57a5a7f0a5d018428324804", func := "loop.example/g00180/laws.FnExactReads", spec := "fnExactReads", unfollowed := true, recurses := true, apart := false, narrowed := true }
def FnExactReadsUptoSaid : Prop := fnExactReadsUptoRow.holds Try.pinned (OpenSpec.upto fnExactReadsSpec)

/-- 'laws.FnAlone12', WHERE WHAT IT READS IS OF BULK AT MOST 1048576: true; the input reads as it did. -/
def fnAlone12UptoRow : OpenClaim := { program := "ytnbfkndicldppaa", sum := "a68b2dce0b0bffe69878c9bc6a34f74d82febe3fa57a5a7f0a5d018428324804", func := "loop.example/g00180/laws.FnAlone12", spec := "fnAlone12", unfollowed := true, recurses := true, apart := false, narrowed := true }
def FnAlone12UptoSaid : Prop := fnAlone12UptoRow.holds Try.pinned (OpenSpec.upto fnAlone12Spec)

/-- 'laws.FnExactMsgText', WHERE WHAT IT READS IS OF BULK AT MOST 1048576: true; the input reads as it did. -/
def fnExactMsgTextUptoRow : OpenClaim := { program := "ytnbfkndicldppaa", sum := "a68b2dce0b0bffe69878c9bc6a34f74d82febe3fa57a5a7f0a5d018428324804", func := "loop.example/g00180/laws.FnExactMsgText", spec := "fnExactMsgText", inPlace := ["internal/abi.NoEscape"], apart := false, narrowed := true }
def FnExactMsgTextUptoSaid : Prop := fnExactMsgTextUptoRow.holds Try.pinned (OpenSpec.upto fnExactMsgTextSpec)

/-- 'laws.FnItems', WHERE WHAT IT READS IS OF BULK AT MOST 1048576: true; the input reads as it did. -/
def fnItemsUptoRow : OpenClaim := { program := "ytnbfkndicldppaa", sum := "a68b2dce0b0bffe69878c9bc6a34f74d82febe3fa57a5a7f0a5d018428324804", func := "loop.example/g00180/laws.FnItems", spec := "fnItems", inPlace := ["internal/bytealg.abigen_runtime_cmpstring", "slices.overlaps[loop.example/g00180/impl.Item]"], unfollowed := true, recurses := true, apart := false, narrowed := true }
def FnItemsUptoSaid : Prop := fnItemsUptoRow.holds Try.pinned (OpenSpec.upto fnItemsSpec)

/-- 'laws.FnExactFall', WHERE WHAT IT READS IS OF BULK AT MOST 1048576: true; the input reads as it did. -/
def fnExactFallUptoRow : OpenClaim := { program := "ytnbfkndicldppaa", sum := "a68b2dce0b0bffe69878c9bc6a34f74d82febe3fa57a5a7f0a5d018428324804", func := "loop.example/g00180/laws.FnExactFall", spec := "fnExactFall", apart := false, narrowed := true }
def FnExactFallUptoSaid : Prop := fnExactFallUptoRow.holds Try.pinned (OpenSpec.upto fnExactFallSpec)

/-- 'laws.FnExactMemberNew', WHERE WHAT IT READS IS OF BULK AT MOST 1048576: true; the input reads as it did. -/
def fnExactMemberNewUptoRow : OpenClaim := { program := "ytnbfkndicldppaa", sum := "a68b2dce0b0bffe69878c9bc6a34f74d82febe3fa57a5a7f0a5d018428324804", func := "loop.example/g00180/laws.FnExactMemberNew", spec := "fnExactMemberNew", apart := false, narrowed := true }
def FnExactMemberNewUptoSaid : Prop := fnExactMemberNewUptoRow.holds Try.pinned (OpenSpec.upto fnExactMemberNewSpec)

/-- 'laws.FnTouches', WHERE WHAT IT READS IS OF BULK AT MOST 1048576: true; the input reads as it did. -/
def fnTouchesUptoRow : OpenClaim := { program := "ytnbfkndicldppaa", sum := "a68b2dce0b0bffe69878c9bc6a34f74d82febe3fa57a5a7f0a5d018428324804", func := "loop.example/g00180/laws.FnTouches", spec := "fnTouches", inPlace := ["slices.overlaps[string]"], apart := false, narrowed := true }
def FnTouchesUptoSaid : Prop := fnTouchesUptoRow.holds Try.pinned (OpenSpec.upto fnTouchesSpec)

/-- 'laws.FnExactPutItem', WHERE WHAT IT READS IS OF BULK AT MOST 1048576: true; the input reads as it did. -/
def fnExactPutItemUptoRow : OpenClaim := { program := "ytnbfkndicldppaa", sum := "a68b2dce0b0bffe69878c9bc6a34f74d82febe3fa57a5a7f0a5d018428324804", func := "loop.example/g00180/laws.FnExactPutItem", spec := "fnExactPutItem", inPlace := ["internal/bytealg.abigen_runtime_cmpstring", "slices.overlaps[loop.example/g00180/impl.Item]"], unfollowed := true, recurses := true, apart := false, narrowed := true }
def FnExactPutItemUptoSaid : Prop := fnExactPutItemUptoRow.holds Try.pinned (OpenSpec.upto fnExactPutItemSpec)

/-- 'laws.FnExactCouncilNew', WHERE WHAT IT READS IS OF BULK AT MOST 1048576: true; the input reads as it did. -/
def fnExactCouncilNewUptoRow : OpenClaim := { program := "ytnbfkndicldppaa", sum := "a68b2dce0b0bffe69878c9bc6a34f74d82febe3fa57a5a7f0a5d018428324804", func := "loop.example/g00180/laws.FnExactCouncilNew", spec := "fnExactCouncilNew", apart := false, narrowed := true }
def FnExactCouncilNewUptoSaid : Prop := fnExactCouncilNewUptoRow.holds Try.pinned (OpenSpec.upto fnExactCouncilNewSpec)

/-- 'laws.FnChosen', WHERE WHAT IT READS IS OF BULK AT MOST 1048576: true; the input reads as it did. -/
def fnChosenUptoRow : OpenClaim := { program := "ytnbfkndicldppaa", sum := "a68b2dce0b0bffe69878c9bc6a34f74d82febe3fa57a5a7f0a5d018428324804", func := "loop.example/g00180/laws.FnChosen", spec := "fnChosen", unfollowed := true, recurses := true, apart := false, narrowed := true }
def FnChosenUptoSaid : Prop := fnChosenUptoRow.holds Try.pinned (OpenSpec.upto fnChosenSpec)

/-- 'laws.FnExactReadMsg', WHERE WHAT IT READS IS OF BULK AT MOST 1048576: true; the input reads as it did. -/
def fnExactReadMsgUptoRow : OpenClaim := { program := "ytnbfkndicldppaa", sum := "a68b2dce0b0bffe69878c9bc6a34f74d82febe3fa57a5a7f0a5d018428324804", func := "loop.example/g00180/laws.FnExactReadMsg", spec := "fnExactReadMsg", inPlace := ["internal/abi.NoEscape"], apart := false, narrowed := true }
def FnExactReadMsgUptoSaid : Prop := fnExactReadMsgUptoRow.holds Try.pinned (OpenSpec.upto fnExactReadMsgSpec)

/-- 'laws.FnDecides', WHERE WHAT IT READS IS OF BULK AT MOST 1048576: true; the input reads as it did. -/
def fnDecidesUptoRow : OpenClaim := { program := "ytnbfkndicldppaa", sum := "a68b2dce0b0bffe69878c9bc6a34f74d82febe3fa57a5a7f0a5d018428324804", func := "loop.example/g00180/laws.FnDecides", spec := "fnDecides", unfollowed := true, recurses := true, apart := false, narrowed := true }
def FnDecidesUptoSaid : Prop := fnDecidesUptoRow.holds Try.pinned (OpenSpec.upto fnDecidesSpec)

/-- 'laws.FnExactOneServes', WHERE WHAT IT READS IS OF BULK AT MOST 1048576: true; the input reads as it did. -/
def fnExactOneServesUptoRow : OpenClaim := { program := "ytnbfkndicldppaa", sum := "a68b2dce0b0bffe69878c9bc6a34f74d82febe3fa57a5a7f0a5d018428324804", func := "loop.example/g00180/laws.FnExactOneServes", spec := "fnExactOneServes", apart := false, narrowed := true }
def FnExactOneServesUptoSaid : Prop := fnExactOneServesUptoRow.holds Try.pinned (OpenSpec.upto fnExactOneServesSpec)

/-- 'laws.FnExactAlike', WHERE WHAT IT READS IS OF BULK AT MOST 1048576: true; the input reads as it did. -/
def fnExactAlikeUptoRow : OpenClaim := { program := "ytnbfkndicldppaa", sum := "a68b2dce0b0bffe69878c9bc6a34f74d82febe3fa57a5a7f0a5d018428324804", func := "loop.example/g00180/laws.FnExactAlike", spec := "fnExactAlike", apart := false, narrowed := true }
def FnExactAlikeUptoSaid : Prop := fnExactAlikeUptoRow.holds Try.pinned (OpenSpec.upto fnExactAlikeSpec)

/-- 'laws.FnMsgs', WHERE WHAT IT READS IS OF BULK AT MOST 1048576: true; the input reads as it did. -/
def fnMsgsUptoRow : OpenClaim := { program := "ytnbfkndicldppaa", sum := "a68b2dce0b0bffe69878c9bc6a34f74d82febe3fa57a5a7f0a5d018428324804", func := "loop.example/g00180/laws.FnMsgs", spec := "fnMsgs", inPlace := ["internal/abi.NoEscape"], apart := false, narrowed := true }
def FnMsgsUptoSaid : Prop := fnMsgsUptoRow.holds Try.pinned (OpenSpec.upto fnMsgsSpec)

/-- 'laws.FnExactGroupNew', WHERE WHAT IT READS IS OF BULK AT MOST 1048576: true; the input reads as it did. -/
def fnExactGroupNewUptoRow : OpenClaim := { program := "ytnbfkndicldppaa", sum := "a68b2dce0b0bffe69878c9bc6a34f74d82febe3fa57a5a7f0a5d018428324804", func := "loop.example/g00180/laws.FnExactGroupNew", spec := "fnExactGroupNew", apart := false, narrowed := true }
def FnExactGroupNewUptoSaid : Prop := fnExactGroupNewUptoRow.holds Try.pinned (OpenSpec.upto fnExactGroupNewSpec)

end Rows
end Go.Proofs.Ytnbfkndicldppaa
