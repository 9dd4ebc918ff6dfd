/-
  No cell of these rows narrows 'for every input' (looked for: loops, veiled, ifaces, maps, wideKeys, modest, calm, conditions, laid).
  DERIVED. THE GIVEN ROWS OF THIS SEAT. 6 by the template 'for every input the law returns true; each argument reads behind the call as it read before'; 0 by the template 'total and deterministic' (their statements: YtokiohnjegbnpaaGreatTotals.lean).
  GIVEN WITH THE SEED: the statements are not yours to turn. If you find one false, say at which input.
  Laid BY PROGRAM, IN A SANDBOX (cutbox-rows.mjs): the forced cells as the released guide's own fill.sh prints them over the translation ffbe0d35b1041a62… (all of the seat's roots in one cut). By AI agents, Wed Nov 11 2026. No macro, syntax, notation, axiom, sorry.
-/
import Derived.Test.YtokiohnjegbnpaaGreatChecked
import GoSem.Claim
import GoSem.ClaimJoined
import GoSem.ClaimMapViews
import Derived.JoinedTies
import Derived.KernelRfl
namespace Go.Proofs.YtokiohnjegbnpaaGreat
/- THE CELL 'sum', in the pinned program and in every row, IS THE sha256 OF THE DUMP (.gsa) THAT YtokiohnjegbnpaaGreatProg.lean LOADS. Nothing in Lean hashes anything: it is a label: what it is worth is what the hold of that sum in a sandbox is worth. -/
noncomputable def Tryz.pinned : Pinned := { name := "ytokiohnjegbnpaagreat", sum := "ffbe0d35b1041a62c5119715da8aece7942f4829513865287e3048f81a42b75d", checked := Tryz.checked }
namespace Rows
def none {H : Type} : Left H := { results := [], args := [] }

/-- 'laws.FnOneServes': WHATEVER THE INPUT: true; the input reads as it did. -/
def fnOneServesSpec : ChangeSpec := { name := "fnOneServes", fn := fun _ => fun
  | [d] => { results := [.lit (.bool true)], args := [d] }
  | _ => none }
def fnOneServesRow : OpenClaim := { program := "ytokiohnjegbnpaagreat", sum := "ffbe0d35b1041a62c5119715da8aece7942f4829513865287e3048f81a42b75d", func := "loop.example/g00180/laws.FnOneServes", spec := "fnOneServes", inPlace := ["internal/bytealg.abigen_runtime_cmpstring", "slices.overlaps[loop.example/g00180/impl.Item]"], unfollowed := true, recurses := true, apart := false }
def FnOneServesSaid : Prop := fnOneServesRow.holds Tryz.pinned (OpenSpec.ofChange fnOneServesSpec)

/-- ITS FALSE NEIGHBOUR: 'it returns false'. Refute it at one input. -/
def fnOneServesWrong : ChangeSpec := { name := "fnOneServes", fn := fun _ => fun
  | [d] => { results := [.lit (.bool false)], args := [d] }
  | _ => none }
def FnOneServesWrongFalsely : Prop := fnOneServesRow.holds Tryz.pinned (OpenSpec.ofChange fnOneServesWrong)

/-- 'laws.FnInTime': WHATEVER THE INPUT: true; the input reads as it did. -/
def fnInTimeSpec : ChangeSpec := { name := "fnInTime", fn := fun _ => fun
  | [d] => { results := [.lit (.bool true)], args := [d] }
  | _ => none }
def fnInTimeRow : OpenClaim := { program := "ytokiohnjegbnpaagreat", sum := "ffbe0d35b1041a62c5119715da8aece7942f4829513865287e3048f81a42b75d", func := "loop.example/g00180/laws.FnInTime", spec := "fnInTime", inPlace := ["internal/bytealg.abigen_runtime_cmpstring", "slices.overlaps[loop.example/g00180/impl.Item]"], unfollowed := true, recurses := true, apart := false }
def FnInTimeSaid : Prop := fnInTimeRow.holds Tryz.pinned (OpenSpec.ofChange fnInTimeSpec)

/-- ITS FALSE NEIGHBOUR: 'it returns false'. Refute it at one input. -/
def fnInTimeWrong : ChangeSpec := { name := "fnInTime", fn := fun _ => fun
  | [d] => { results := [.lit (.bool false)], args := [d] }
  | _ => none }
def FnInTimeWrongFalsely : Prop := fnInTimeRow.holds Tryz.pinned (OpenSpec.ofChange fnInTimeWrong)

/-- 'laws.FnReads': WHATEVER THE INPUT: true; the input reads as it did. -/
def fnReadsSpec : ChangeSpec := { name := "fnReads", fn := fun _ => fun
  | [d] => { results := [.lit (.bool true)], args := [d] }
  | _ => none }
def fnReadsRow : OpenClaim := { program := "ytokiohnjegbnpaagreat", sum := "ffbe0d35b1041a62c5119715da8aece7942f4829513865287e3048f81a42b75d", func := "loop.example/g00180/laws.FnReads", spec := "fnReads", inPlace := ["internal/bytealg.abigen_runtime_cmpstring", "slices.overlaps[loop.example/g00180/impl.Item]"], unfollowed := true, recurses := true, apart := false }
def FnReadsSaid : Prop := fnReadsRow.holds Tryz.pinned (OpenSpec.ofChange fnReadsSpec)

/-- ITS FALSE NEIGHBOUR: 'it returns false'. Refute it at one input. -/
def fnReadsWrong : ChangeSpec := { name := "fnReads", fn := fun _ => fun
  | [d] => { results := [.lit (.bool false)], args := [d] }
  | _ => none }
def FnReadsWrongFalsely : Prop := fnReadsRow.holds Tryz.pinned (OpenSpec.ofChange fnReadsWrong)

/-- 'laws.FnTop': WHATEVER THE INPUT: true; the input reads as it did. -/
def fnTopSpec : ChangeSpec := { name := "fnTop", fn := fun _ => fun
  | [d] => { results := [.lit (.bool true)], args := [d] }
  | _ => none }
def fnTopRow : OpenClaim := { program := "ytokiohnjegbnpaagreat", sum := "ffbe0d35b1041a62c5119715da8aece7942f4829513865287e3048f81a42b75d", func := "loop.example/g00180/laws.FnTop", spec := "fnTop", inPlace := ["internal/bytealg.abigen_runtime_cmpstring", "slices.overlaps[loop.example/g00180/impl.Item]"], unfollowed := true, recurses := true, apart := false }
def FnTopSaid : Prop := fnTopRow.holds Tryz.pinned (OpenSpec.ofChange fnTopSpec)

/-- ITS FALSE NEIGHBOUR: 'it returns false'. Refute it at one input. -/
def fnTopWrong : ChangeSpec := { name := "fnTop", fn := fun _ => fun
  | [d] => { results := [.lit (.bool false)], args := [d] }
  | _ => none }
def FnTopWrongFalsely : Prop := fnTopRow.holds Tryz.pinned (OpenSpec.ofChange fnTopWrong)

/-- 'laws.FnWatches': WHATEVER THE INPUT: true; the input reads as it did. -/
def fnWatchesSpec : ChangeSpec := { name := "fnWatches", fn := fun _ => fun
  | [d] => { results := [.lit (.bool true)], args := [d] }
  | _ => none }
def fnWatchesRow : OpenClaim := { program := "ytokiohnjegbnpaagreat", sum := "ffbe0d35b1041a62c5119715da8aece7942f4829513865287e3048f81a42b75d", func := "loop.example/g00180/laws.FnWatches", spec := "fnWatches", inPlace := ["internal/bytealg.abigen_runtime_cmpstring", "slices.overlaps[loop.example/g00180/impl.Item]"], unfollowed := true, recurses := true, apart := false }
def FnWatchesSaid : Prop := fnWatchesRow.holds Tryz.pinned (OpenSpec.ofChange fnWatchesSpec)

/-- ITS FALSE NEIGHBOUR: 'it returns false'. Refute it at one input. -/
def fnWatchesWrong : ChangeSpec := { name := "fnWatches", fn := fun _ => fun
  | [d] => { results := [.lit (.bool false)], args := [d] }
  | _ => none }
def FnWatchesWrongFalsely : Prop := fnWatchesRow.holds Tryz.pinned (OpenSpec.ofChange fnWatchesWrong)

/-- 'laws.FnQuietGroup': WHATEVER THE INPUT: true; the input reads as it did. -/
def fnQuietGroupSpec : ChangeSpec := { name := "fnQuietGroup", fn := fun _ => fun
  | [d] => { results := [.lit (.bool true)], args := [d] }
  | _ => none }
def fnQuietGroupRow : OpenClaim := { program := "ytokiohnjegbnpaagreat", sum := "ffbe0d35b1041a62c5119715da8aece7942f4829513865287e3048f81a42b75d", func := "loop.example/g00180/laws.FnQuietGroup", spec := "fnQuietGroup", inPlace := ["internal/bytealg.abigen_runtime_cmpstring", "slices.overlaps[loop.example/g00180/impl.Item]"], unfollowed := true, recurses := true, apart := false }
def FnQuietGroupSaid : Prop := fnQuietGroupRow.holds Tryz.pinned (OpenSpec.ofChange fnQuietGroupSpec)

/-- ITS FALSE NEIGHBOUR: 'it returns false'. Refute it at one input. -/
def fnQuietGroupWrong : ChangeSpec := { name := "fnQuietGroup", fn := fun _ => fun
  | [d] => { results := [.lit (.bool false)], args := [d] }
  | _ => none }
def FnQuietGroupWrongFalsely : Prop := fnQuietGroupRow.holds Tryz.pinned (OpenSpec.ofChange fnQuietGroupWrong)

/- THE SECOND FORM. 'bulk': how many values and letters a reading holds, each counted each time it is reached (what is shared counts as often as it is met; a slice's spare places count too). A statement '..UptoSaid' is the law's where the arguments, and the package variables that the reading takes, are together of bulk at most 1048576: NARROWER than '..Said'. Prove '..Said' where nothing that the law and all that it calls make is longer than what came in: it says more and counts as full. Else prove '..UptoSaid'. A law counts once. -/
mutual
def uptoBulk {H : Type} : DataW H → Nat
  | .lit (.string bytes) => bytes.length + 1
  | .lit _ => 1
  | .nil => 1
  | .ptr d => uptoBulk d + 1
  | .slice elems spare => uptoBulkAll elems + uptoBulkAll spare + 1
  | .agg parts => uptoBulkAll parts + 1
  | .iface _ d => uptoBulk d + 1
  | .map entries => uptoBulkEntries entries + 1
  | .held _ => 1
def uptoBulkAll {H : Type} : List (DataW H) → Nat
  | [] => 0
  | d :: r => uptoBulk d + uptoBulkAll r
def uptoBulkEntries {H : Type} : List (Lit × DataW H) → Nat
  | [] => 0
  | x :: r => uptoBulkEntry x + uptoBulkEntries r
def uptoBulkEntry {H : Type} : Lit × DataW H → Nat
  | (.string bytes, d) => bytes.length + uptoBulk d + 1
  | (_, d) => uptoBulk d + 1
 end
def uptoSmall : (H : Type) → List (DataW H) → Bool := fun _ ds => decide (uptoBulkAll ds ≤ 1048576)
def OpenSpec.upto (s : _root_.Go.ChangeSpec) : _root_.Go.OpenSpec := { _root_.Go.OpenSpec.ofChange s with cond := some uptoSmall }

/-- 'laws.FnOneServes', WHERE WHAT IT READS IS OF BULK AT MOST 1048576: true; the input reads as it did. -/
def fnOneServesUptoRow : OpenClaim := { program := "ytokiohnjegbnpaagreat", sum := "ffbe0d35b1041a62c5119715da8aece7942f4829513865287e3048f81a42b75d", func := "loop.example/g00180/laws.FnOneServes", spec := "fnOneServes", inPlace := ["internal/bytealg.abigen_runtime_cmpstring", "slices.overlaps[loop.example/g00180/impl.Item]"], unfollowed := true, recurses := true, apart := false, narrowed := true }
def FnOneServesUptoSaid : Prop := fnOneServesUptoRow.holds Tryz.pinned (OpenSpec.upto fnOneServesSpec)

/-- 'laws.FnInTime', WHERE WHAT IT READS IS OF BULK AT MOST 1048576: true; the input reads as it did. -/
def fnInTimeUptoRow : OpenClaim := { program := "ytokiohnjegbnpaagreat", sum := "ffbe0d35b1041a62c5119715da8aece7942f4829513865287e3048f81a42b75d", func := "loop.example/g00180/laws.FnInTime", spec := "fnInTime", inPlace := ["internal/bytealg.abigen_runtime_cmpstring", "slices.overlaps[loop.example/g00180/impl.Item]"], unfollowed := true, recurses := true, apart := false, narrowed := true }
def FnInTimeUptoSaid : Prop := fnInTimeUptoRow.holds Tryz.pinned (OpenSpec.upto fnInTimeSpec)

/-- 'laws.FnReads', WHERE WHAT IT READS IS OF BULK AT MOST 1048576: true; the input reads as it did. -/
def fnReadsUptoRow : OpenClaim := { program := "ytokiohnjegbnpaagreat", sum := "ffbe0d35b1041a62c5119715da8aece7942f4829513865287e3048f81a42b75d", func := "loop.example/g00180/laws.FnReads", spec := "fnReads", inPlace := ["internal/bytealg.abigen_runtime_cmpstring", "slices.overlaps[loop.example/g00180/impl.Item]"], unfollowed := true, recurses := true, apart := false, narrowed := true }
def FnReadsUptoSaid : Prop := fnReadsUptoRow.holds Tryz.pinned (OpenSpec.upto fnReadsSpec)

/-- 'laws.FnTop', WHERE WHAT IT READS IS OF BULK AT MOST 1048576: true; the input reads as it did. -/
def fnTopUptoRow : OpenClaim := { program := "ytokiohnjegbnpaagreat", sum := "ffbe0d35b1041a62c5119715da8aece7942f4829513865287e3048f81a42b75d", func := "loop.example/g00180/laws.FnTop", spec := "fnTop", inPlace := ["internal/bytealg.abigen_runtime_cmpstring", "slices.overlaps[loop.example/g00180/impl.Item]"], unfollowed := true, recurses := true, apart := false, narrowed := true }
def FnTopUptoSaid : Prop := fnTopUptoRow.holds Tryz.pinned (OpenSpec.upto fnTopSpec)

/-- 'laws.FnWatches', WHERE WHAT IT READS IS OF BULK AT MOST 1048576: true; the input reads as it did. -/
def fnWatchesUptoRow : OpenClaim := { program := "ytokiohnjegbnpaagreat", sum := "ffbe0d35b1041a62c5119715da8aece7942f4829513865287e3048f81a42b75d", func := "loop.example/g00180/laws.FnWatches", spec := "fnWatches", inPlace := ["internal/bytealg.abigen_runtime_cmpstring", "slices.overlaps[loop.example/g00180/impl.Item]"], unfollowed := true, recurses := true, apart := false, narrowed := true }
def FnWatchesUptoSaid : Prop := fnWatchesUptoRow.holds Tryz.pinned (OpenSpec.upto fnWatchesSpec)

/-- 'laws.FnQuietGroup', WHERE WHAT IT READS IS OF BULK AT MOST 1048576: true; the input reads as it did. -/
def fnQuietGroupUptoRow : OpenClaim := { program := "ytokiohnjegbnpaagreat", sum := "ffbe0d35b1041a62c5119715da8aece7942f4829513865287e3048f81a42b75d", func := "loop.example/g00180/laws.FnQuietGroup", spec := "fnQuietGroup", inPlace := ["internal/bytealg.abigen_runtime_cmpstring", "slices.overlaps[loop.example/g00180/impl.Item]"], unfollowed := true, recurses := true, apart := false, narrowed := true }
def FnQuietGroupUptoSaid : Prop := fnQuietGroupUptoRow.holds Tryz.pinned (OpenSpec.upto fnQuietGroupSpec)

end Rows
end Go.Proofs.YtokiohnjegbnpaaGreat
