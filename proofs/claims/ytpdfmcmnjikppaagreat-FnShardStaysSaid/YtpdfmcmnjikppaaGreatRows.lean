/-
  No cell of these rows narrows 'for every input' (looked for: loops, veiled, ifaces, maps, wideKeys, modest, calm, conditions, laid).
  DERIVED. THE GIVEN ROWS OF THIS SEAT. 6 by the template 'for every input the law returns true; each argument reads behind the call as it read before'; 0 by the template 'total and deterministic' (their statements: YtpdfmcmnjikppaaGreatTotals.lean).
  GIVEN WITH THE SEED: the statements are not yours to turn. If you find one false, say at which input.
  Laid BY PROGRAM, IN A SANDBOX (cutbox-rows.mjs): the forced cells as the released guide's own fill.sh prints them over the translation 2ab6588f250d233d… (all of the seat's roots in one cut). By AI agents, Wed Nov 11 2026. No macro, syntax, notation, axiom, sorry.
-/
import Derived.Test.YtpdfmcmnjikppaaGreatChecked
import GoSem.Claim
import GoSem.ClaimJoined
import GoSem.ClaimMapViews
import Derived.JoinedTies
import Derived.KernelRfl
namespace Go.Proofs.YtpdfmcmnjikppaaGreat
/- THE CELL 'sum', in the pinned program and in every row, IS THE sha256 OF THE DUMP (.gsa) THAT YtpdfmcmnjikppaaGreatProg.lean LOADS. Nothing in Lean hashes anything: it is a label: what it is worth is what the hold of that sum in a sandbox is worth. -/
noncomputable def Tryz.pinned : Pinned := { name := "ytpdfmcmnjikppaagreat", sum := "2ab6588f250d233d5b6ce2de9b73cfef36d5ea77ed34613adb17da9635d4a10a", checked := Tryz.checked }
namespace Rows
def none {H : Type} : Left H := { results := [], args := [] }

/-- 'laws.FnExactShardFreeze': WHATEVER THE INPUT: true; the input reads as it did. -/
def fnExactShardFreezeSpec : ChangeSpec := { name := "fnExactShardFreeze", fn := fun _ => fun
  | [d1, d2, d3] => { results := [.lit (.bool true)], args := [d1, d2, d3] }
  | _ => none }
def fnExactShardFreezeRow : OpenClaim := { program := "ytpdfmcmnjikppaagreat", sum := "2ab6588f250d233d5b6ce2de9b73cfef36d5ea77ed34613adb17da9635d4a10a", func := "loop.example/g00097/laws.FnExactShardFreeze", spec := "fnExactShardFreeze", inPlace := ["slices.overlaps[int]"], unfollowed := true, recurses := true, apart := false }
def FnExactShardFreezeSaid : Prop := fnExactShardFreezeRow.holds Tryz.pinned (OpenSpec.ofChange fnExactShardFreezeSpec)

/-- ITS FALSE NEIGHBOUR: 'it returns false'. Refute it at one input. -/
def fnExactShardFreezeWrong : ChangeSpec := { name := "fnExactShardFreeze", fn := fun _ => fun
  | [d1, d2, d3] => { results := [.lit (.bool false)], args := [d1, d2, d3] }
  | _ => none }
def FnExactShardFreezeWrongFalsely : Prop := fnExactShardFreezeRow.holds Tryz.pinned (OpenSpec.ofChange fnExactShardFreezeWrong)

/-- 'laws.FnExactShardPrepare': WHATEVER THE INPUT: true; the input reads as it did. -/
def fnExactShardPrepareSpec : ChangeSpec := { name := "fnExactShardPrepare", fn := fun _ => fun
  | [d1, d2, d3, d4] => { results := [.lit (.bool true)], args := [d1, d2, d3, d4] }
  | _ => none }
def fnExactShardPrepareRow : OpenClaim := { program := "ytpdfmcmnjikppaagreat", sum := "2ab6588f250d233d5b6ce2de9b73cfef36d5ea77ed34613adb17da9635d4a10a", func := "loop.example/g00097/laws.FnExactShardPrepare", spec := "fnExactShardPrepare", inPlace := ["slices.overlaps[int]", "slices.overlaps[loop.example/g00097/impl.Held]"], unfollowed := true, recurses := true, apart := false }
def FnExactShardPrepareSaid : Prop := fnExactShardPrepareRow.holds Tryz.pinned (OpenSpec.ofChange fnExactShardPrepareSpec)

/-- ITS FALSE NEIGHBOUR: 'it returns false'. Refute it at one input. -/
def fnExactShardPrepareWrong : ChangeSpec := { name := "fnExactShardPrepare", fn := fun _ => fun
  | [d1, d2, d3, d4] => { results := [.lit (.bool false)], args := [d1, d2, d3, d4] }
  | _ => none }
def FnExactShardPrepareWrongFalsely : Prop := fnExactShardPrepareRow.holds Tryz.pinned (OpenSpec.ofChange fnExactShardPrepareWrong)

/-- 'laws.FnExactShardInstall': WHATEVER THE INPUT: true; the input reads as it did. -/
def fnExactShardInstallSpec : ChangeSpec := { name := "fnExactShardInstall", fn := fun _ => fun
  | [d1, d2, d3, d4] => { results := [.lit (.bool true)], args := [d1, d2, d3, d4] }
  | _ => none }
def fnExactShardInstallRow : OpenClaim := { program := "ytpdfmcmnjikppaagreat", sum := "2ab6588f250d233d5b6ce2de9b73cfef36d5ea77ed34613adb17da9635d4a10a", func := "loop.example/g00097/laws.FnExactShardInstall", spec := "fnExactShardInstall", unfollowed := true, recurses := true, apart := false }
def FnExactShardInstallSaid : Prop := fnExactShardInstallRow.holds Tryz.pinned (OpenSpec.ofChange fnExactShardInstallSpec)

/-- ITS FALSE NEIGHBOUR: 'it returns false'. Refute it at one input. -/
def fnExactShardInstallWrong : ChangeSpec := { name := "fnExactShardInstall", fn := fun _ => fun
  | [d1, d2, d3, d4] => { results := [.lit (.bool false)], args := [d1, d2, d3, d4] }
  | _ => none }
def FnExactShardInstallWrongFalsely : Prop := fnExactShardInstallRow.holds Tryz.pinned (OpenSpec.ofChange fnExactShardInstallWrong)

/-- 'laws.FnShardStays': WHATEVER THE INPUT: true; the input reads as it did. -/
def fnShardStaysSpec : ChangeSpec := { name := "fnShardStays", fn := fun _ => fun
  | [d] => { results := [.lit (.bool true)], args := [d] }
  | _ => none }
def fnShardStaysRow : OpenClaim := { program := "ytpdfmcmnjikppaagreat", sum := "2ab6588f250d233d5b6ce2de9b73cfef36d5ea77ed34613adb17da9635d4a10a", func := "loop.example/g00097/laws.FnShardStays", spec := "fnShardStays", inPlace := ["slices.overlaps[int]", "slices.overlaps[loop.example/g00097/impl.Held]", "slices.overlaps[loop.example/g00097/impl.Cell]"], unfollowed := true, recurses := true, apart := false }
def FnShardStaysSaid : Prop := fnShardStaysRow.holds Tryz.pinned (OpenSpec.ofChange fnShardStaysSpec)

/-- ITS FALSE NEIGHBOUR: 'it returns false'. Refute it at one input. -/
def fnShardStaysWrong : ChangeSpec := { name := "fnShardStays", fn := fun _ => fun
  | [d] => { results := [.lit (.bool false)], args := [d] }
  | _ => none }
def FnShardStaysWrongFalsely : Prop := fnShardStaysRow.holds Tryz.pinned (OpenSpec.ofChange fnShardStaysWrong)

/-- 'laws.FnPromised': WHATEVER THE INPUT: true; the input reads as it did. -/
def fnPromisedSpec : ChangeSpec := { name := "fnPromised", fn := fun _ => fun
  | [d] => { results := [.lit (.bool true)], args := [d] }
  | _ => none }
def fnPromisedRow : OpenClaim := { program := "ytpdfmcmnjikppaagreat", sum := "2ab6588f250d233d5b6ce2de9b73cfef36d5ea77ed34613adb17da9635d4a10a", func := "loop.example/g00097/laws.FnPromised", spec := "fnPromised", inPlace := ["slices.overlaps[int]", "slices.overlaps[loop.example/g00097/impl.Held]", "slices.overlaps[loop.example/g00097/impl.Cell]"], unfollowed := true, recurses := true, apart := false }
def FnPromisedSaid : Prop := fnPromisedRow.holds Tryz.pinned (OpenSpec.ofChange fnPromisedSpec)

/-- ITS FALSE NEIGHBOUR: 'it returns false'. Refute it at one input. -/
def fnPromisedWrong : ChangeSpec := { name := "fnPromised", fn := fun _ => fun
  | [d] => { results := [.lit (.bool false)], args := [d] }
  | _ => none }
def FnPromisedWrongFalsely : Prop := fnPromisedRow.holds Tryz.pinned (OpenSpec.ofChange fnPromisedWrong)

/-- 'laws.FnFrozen': WHATEVER THE INPUT: true; the input reads as it did. -/
def fnFrozenSpec : ChangeSpec := { name := "fnFrozen", fn := fun _ => fun
  | [d] => { results := [.lit (.bool true)], args := [d] }
  | _ => none }
def fnFrozenRow : OpenClaim := { program := "ytpdfmcmnjikppaagreat", sum := "2ab6588f250d233d5b6ce2de9b73cfef36d5ea77ed34613adb17da9635d4a10a", func := "loop.example/g00097/laws.FnFrozen", spec := "fnFrozen", inPlace := ["slices.overlaps[int]", "slices.overlaps[loop.example/g00097/impl.Held]"], unfollowed := true, recurses := true, apart := false }
def FnFrozenSaid : Prop := fnFrozenRow.holds Tryz.pinned (OpenSpec.ofChange fnFrozenSpec)

/-- ITS FALSE NEIGHBOUR: 'it returns false'. Refute it at one input. -/
def fnFrozenWrong : ChangeSpec := { name := "fnFrozen", fn := fun _ => fun
  | [d] => { results := [.lit (.bool false)], args := [d] }
  | _ => none }
def FnFrozenWrongFalsely : Prop := fnFrozenRow.holds Tryz.pinned (OpenSpec.ofChange fnFrozenWrong)

/- THE SECOND FORM. 'bulk': how many values and letters a reading holds, each counted each time it is reached (what is shared counts as often as it is met; a slice's spare places count too). A statement '..UptoSaid' is the law's where the arguments, and the package variables that the reading takes, are together of bulk at most 1048576: NARROWER than '..Said'. Prove '..Said' where nothing that the law and all that it calls make is longer than what came in: it says more and counts as full. Else prove '..UptoSaid'. A law counts once. -/
mutual
def uptoBulk {H : Type} : DataW H → Nat
  | .lit (.string bytes) => bytes.length + 1
  | .lit _ => 1
  | .nil => 1
  | .ptr d => uptoBulk d + 1
  | .slice elems spare => uptoBulkAll elems + uptoBulkAll spare + 1
  | .agg parts => uptoBulkAll parts + 1
  | .iface _ d => uptoBulk d + 1
  | .map entries => uptoBulkEntries entries + 1
  | .held _ => 1
def uptoBulkAll {H : Type} : List (DataW H) → Nat
  | [] => 0
  | d :: r => uptoBulk d + uptoBulkAll r
def uptoBulkEntries {H : Type} : List (Lit × DataW H) → Nat
  | [] => 0
  | x :: r => uptoBulkEntry x + uptoBulkEntries r
def uptoBulkEntry {H : Type} : Lit × DataW H → Nat
  | (.string bytes, d) => bytes.length + uptoBulk d + 1
  | (_, d) => uptoBulk d + 1
 end
def uptoSmall : (H : Type) → List (DataW H) → Bool := fun _ ds => decide (uptoBulkAll ds ≤ 1048576)
def OpenSpec.upto (s : _root_.Go.ChangeSpec) : _root_.Go.OpenSpec := { _root_.Go.OpenSpec.ofChange s with cond := some uptoSmall }

/-- 'laws.FnExactShardFreeze', WHERE WHAT IT READS IS OF BULK AT MOST 1048576: true; the input reads as it did. -/
def fnExactShardFreezeUptoRow : OpenClaim := { program := "ytpdfmcmnjikppaagreat", sum := "2ab6588f250d233d5b6ce2de9b73cfef36d5ea77ed34613adb17da9635d4a10a", func := "loop.example/g00097/laws.FnExactShardFreeze", spec := "fnExactShardFreeze", inPlace := ["slices.overlaps[int]"], unfollowed := true, recurses := true, apart := false, narrowed := true }
def FnExactShardFreezeUptoSaid : Prop := fnExactShardFreezeUptoRow.holds Tryz.pinned (OpenSpec.upto fnExactShardFreezeSpec)

/-- 'laws.FnExactShardPrepare', WHERE WHAT IT READS IS OF BULK AT MOST 1048576: true; the input reads as it did. -/
def fnExactShardPrepareUptoRow : OpenClaim := { program := "ytpdfmcmnjikppaagreat", sum := "2ab6588f250d233d5b6ce2de9b73cfef36d5ea77ed34613adb17da9635d4a10a", func := "loop.example/g00097/laws.FnExactShardPrepare", spec := "fnExactShardPrepare", inPlace := ["slices.overlaps[int]", "slices.overlaps[loop.example/g00097/impl.Held]"], unfollowed := true, recurses := true, apart := false, narrowed := true }
def FnExactShardPrepareUptoSaid : Prop := fnExactShardPrepareUptoRow.holds Tryz.pinned (OpenSpec.upto fnExactShardPrepareSpec)

/-- 'laws.FnExactShardInstall', WHERE WHAT IT READS IS OF BULK AT MOST 1048576: true; the input reads as it did. -/
def fnExactShardInstallUptoRow : OpenClaim := { program := "ytpdfmcmnjikppaagreat", sum := "2ab6588f250d233d5b6ce2de9b73cfef36d5ea77ed34613adb17da9635d4a10a", func := "loop.example/g00097/laws.FnExactShardInstall", spec := "fnExactShardInstall", unfollowed := true, recurses := true, apart := false, narrowed := true }
def FnExactShardInstallUptoSaid : Prop := fnExactShardInstallUptoRow.holds Tryz.pinned (OpenSpec.upto fnExactShardInstallSpec)

/-- 'laws.FnShardStays', WHERE WHAT IT READS IS OF BULK AT MOST 1048576: true; the input reads as it did. -/
def fnShardStaysUptoRow : OpenClaim := { program := "ytpdfmcmnjikppaagreat", sum := "2ab6588f250d233d5b6ce2de9b73cfef36d5ea77ed34613adb17da9635d4a10a", func := "loop.example/g00097/laws.FnShardStays", spec := "fnShardStays", inPlace := ["slices.overlaps[int]", "slices.overlaps[loop.example/g00097/impl.Held]", "slices.overlaps[loop.example/g00097/impl.Cell]"], unfollowed := true, recurses := true, apart := false, narrowed := true }
def FnShardStaysUptoSaid : Prop := fnShardStaysUptoRow.holds Tryz.pinned (OpenSpec.upto fnShardStaysSpec)

/-- 'laws.FnPromised', WHERE WHAT IT READS IS OF BULK AT MOST 1048576: true; the input reads as it did. -/
def fnPromisedUptoRow : OpenClaim := { program := "ytpdfmcmnjikppaagreat", sum := "2ab6588f250d233d5b6ce2de9b73cfef36d5ea77ed34613adb17da9635d4a10a", func := "loop.example/g00097/laws.FnPromised", spec := "fnPromised", inPlace := ["slices.overlaps[int]", "slices.overlaps[loop.example/g00097/impl.Held]", "slices.overlaps[loop.example/g00097/impl.Cell]"], unfollowed := true, recurses := true, apart := false, narrowed := true }
def FnPromisedUptoSaid : Prop := fnPromisedUptoRow.holds Tryz.pinned (OpenSpec.upto fnPromisedSpec)

/-- 'laws.FnFrozen', WHERE WHAT IT READS IS OF BULK AT MOST 1048576: true; the input reads as it did. -/
def fnFrozenUptoRow : OpenClaim := { program := "ytpdfmcmnjikppaagreat", sum := "2ab6588f250d233d5b6ce2de9b73cfef36d5ea77ed34613adb17da9635d4a10a", func := "loop.example/g00097/laws.FnFrozen", spec := "fnFrozen", inPlace := ["slices.overlaps[int]", "slices.overlaps[loop.example/g00097/impl.Held]"], unfollowed := true, recurses := true, apart := false, narrowed := true }
def FnFrozenUptoSaid : Prop := fnFrozenUptoRow.holds Tryz.pinned (OpenSpec.upto fnFrozenSpec)

end Rows
end Go.Proofs.YtpdfmcmnjikppaaGreat
