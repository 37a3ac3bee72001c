/-
  No cell of these rows narrows 'for every input' (looked for: loops, veiled, ifaces, maps, wideKeys, modest, calm, conditions, laid).
  DERIVED. THE GIVEN ROWS OF THIS SEAT. 10 by the template 'for every input the law returns true; each argument reads behind the call as it read before'; 0 by the template 'total and deterministic' (their statements: YtchceahcaaibcaaGreatTotals.lean).
  GIVEN WITH THE SEED: the statements are not yours to turn. If you find one false, say at which input.
  Laid BY PROGRAM, IN A SANDBOX (cutbox-rows.mjs): the forced cells as the released guide's own fill.sh prints them over the translation 887c7d8b93cd7052… (all of the seat's roots in one cut). By AI agents, Wed Nov 11 2026. No macro, syntax, notation, axiom, sorry.
-/
import Derived.Test.YtchceahcaaibcaaGreatChecked
import GoSem.Claim
import GoSem.ClaimJoined
import GoSem.ClaimMapViews
import Derived.JoinedTies
import Derived.KernelRfl
namespace Go.Proofs.YtchceahcaaibcaaGreat
/- THE CELL 'sum', in the pinned program and in every row, IS THE sha256 OF THE DUMP (.gsa) THAT YtchceahcaaibcaaGreatProg.lean LOADS. Nothing in Lean hashes anything: it is a label: what it is worth is what the hold of that sum in a sandbox is worth. -/
noncomputable def Tryz.pinned : Pinned := { name := "ytchceahcaaibcaagreat", sum := "887c7d8b93cd7052bf21ae817aa6a49d3fe4de46752bd2d3ccaf4af7624a8f7b", checked := Tryz.checked }
namespace Rows
def none {H : Type} : Left H := { results := [], args := [] }

/-- 'laws.FnExactTownOk': WHATEVER THE INPUT: true; the input reads as it did. -/
def fnExactTownOkSpec : ChangeSpec := { name := "fnExactTownOk", fn := fun _ => fun
  | [d] => { results := [.lit (.bool true)], args := [d] }
  | _ => none }
def fnExactTownOkRow : OpenClaim := { program := "ytchceahcaaibcaagreat", sum := "887c7d8b93cd7052bf21ae817aa6a49d3fe4de46752bd2d3ccaf4af7624a8f7b", func := "loop.example/g00097/laws.FnExactTownOk", spec := "fnExactTownOk", unfollowed := true, recurses := true, apart := false }
def FnExactTownOkSaid : Prop := fnExactTownOkRow.holds Tryz.pinned (OpenSpec.ofChange fnExactTownOkSpec)

/-- ITS FALSE NEIGHBOUR: 'it returns false'. Refute it at one input. -/
def fnExactTownOkWrong : ChangeSpec := { name := "fnExactTownOk", fn := fun _ => fun
  | [d] => { results := [.lit (.bool false)], args := [d] }
  | _ => none }
def FnExactTownOkWrongFalsely : Prop := fnExactTownOkRow.holds Tryz.pinned (OpenSpec.ofChange fnExactTownOkWrong)

/-- 'laws.FnExactTownSettled': WHATEVER THE INPUT: true; the input reads as it did. -/
def fnExactTownSettledSpec : ChangeSpec := { name := "fnExactTownSettled", fn := fun _ => fun
  | [d] => { results := [.lit (.bool true)], args := [d] }
  | _ => none }
def fnExactTownSettledRow : OpenClaim := { program := "ytchceahcaaibcaagreat", sum := "887c7d8b93cd7052bf21ae817aa6a49d3fe4de46752bd2d3ccaf4af7624a8f7b", func := "loop.example/g00097/laws.FnExactTownSettled", spec := "fnExactTownSettled", unfollowed := true, recurses := true, apart := false }
def FnExactTownSettledSaid : Prop := fnExactTownSettledRow.holds Tryz.pinned (OpenSpec.ofChange fnExactTownSettledSpec)

/-- ITS FALSE NEIGHBOUR: 'it returns false'. Refute it at one input. -/
def fnExactTownSettledWrong : ChangeSpec := { name := "fnExactTownSettled", fn := fun _ => fun
  | [d] => { results := [.lit (.bool false)], args := [d] }
  | _ => none }
def FnExactTownSettledWrongFalsely : Prop := fnExactTownSettledRow.holds Tryz.pinned (OpenSpec.ofChange fnExactTownSettledWrong)

/-- 'laws.FnExactJudgeOwners': WHATEVER THE INPUT: true; the input reads as it did. -/
def fnExactJudgeOwnersSpec : ChangeSpec := { name := "fnExactJudgeOwners", fn := fun _ => fun
  | [d] => { results := [.lit (.bool true)], args := [d] }
  | _ => none }
def fnExactJudgeOwnersRow : OpenClaim := { program := "ytchceahcaaibcaagreat", sum := "887c7d8b93cd7052bf21ae817aa6a49d3fe4de46752bd2d3ccaf4af7624a8f7b", func := "loop.example/g00097/laws.FnExactJudgeOwners", spec := "fnExactJudgeOwners", unfollowed := true, recurses := true, apart := false }
def FnExactJudgeOwnersSaid : Prop := fnExactJudgeOwnersRow.holds Tryz.pinned (OpenSpec.ofChange fnExactJudgeOwnersSpec)

/-- ITS FALSE NEIGHBOUR: 'it returns false'. Refute it at one input. -/
def fnExactJudgeOwnersWrong : ChangeSpec := { name := "fnExactJudgeOwners", fn := fun _ => fun
  | [d] => { results := [.lit (.bool false)], args := [d] }
  | _ => none }
def FnExactJudgeOwnersWrongFalsely : Prop := fnExactJudgeOwnersRow.holds Tryz.pinned (OpenSpec.ofChange fnExactJudgeOwnersWrong)

/-- 'laws.FnExactShowAtlas': WHATEVER THE INPUT: true; the input reads as it did. -/
def fnExactShowAtlasSpec : ChangeSpec := { name := "fnExactShowAtlas", fn := fun _ => fun
  | [d] => { results := [.lit (.bool true)], args := [d] }
  | _ => none }
def fnExactShowAtlasRow : OpenClaim := { program := "ytchceahcaaibcaagreat", sum := "887c7d8b93cd7052bf21ae817aa6a49d3fe4de46752bd2d3ccaf4af7624a8f7b", func := "loop.example/g00097/laws.FnExactShowAtlas", spec := "fnExactShowAtlas", unfollowed := true, recurses := true, apart := false }
def FnExactShowAtlasSaid : Prop := fnExactShowAtlasRow.holds Tryz.pinned (OpenSpec.ofChange fnExactShowAtlasSpec)

/-- ITS FALSE NEIGHBOUR: 'it returns false'. Refute it at one input. -/
def fnExactShowAtlasWrong : ChangeSpec := { name := "fnExactShowAtlas", fn := fun _ => fun
  | [d] => { results := [.lit (.bool false)], args := [d] }
  | _ => none }
def FnExactShowAtlasWrongFalsely : Prop := fnExactShowAtlasRow.holds Tryz.pinned (OpenSpec.ofChange fnExactShowAtlasWrong)

/-- 'laws.FnExactShowClient': WHATEVER THE INPUT: true; the input reads as it did. -/
def fnExactShowClientSpec : ChangeSpec := { name := "fnExactShowClient", fn := fun _ => fun
  | [d1, d2] => { results := [.lit (.bool true)], args := [d1, d2] }
  | _ => none }
def fnExactShowClientRow : OpenClaim := { program := "ytchceahcaaibcaagreat", sum := "887c7d8b93cd7052bf21ae817aa6a49d3fe4de46752bd2d3ccaf4af7624a8f7b", func := "loop.example/g00097/laws.FnExactShowClient", spec := "fnExactShowClient", unfollowed := true, recurses := true, apart := false }
def FnExactShowClientSaid : Prop := fnExactShowClientRow.holds Tryz.pinned (OpenSpec.ofChange fnExactShowClientSpec)

/-- ITS FALSE NEIGHBOUR: 'it returns false'. Refute it at one input. -/
def fnExactShowClientWrong : ChangeSpec := { name := "fnExactShowClient", fn := fun _ => fun
  | [d1, d2] => { results := [.lit (.bool false)], args := [d1, d2] }
  | _ => none }
def FnExactShowClientWrongFalsely : Prop := fnExactShowClientRow.holds Tryz.pinned (OpenSpec.ofChange fnExactShowClientWrong)

/-- 'laws.FnExactTownValue': WHATEVER THE INPUT: true; the input reads as it did. -/
def fnExactTownValueSpec : ChangeSpec := { name := "fnExactTownValue", fn := fun _ => fun
  | [d1, d2] => { results := [.lit (.bool true)], args := [d1, d2] }
  | _ => none }
def fnExactTownValueRow : OpenClaim := { program := "ytchceahcaaibcaagreat", sum := "887c7d8b93cd7052bf21ae817aa6a49d3fe4de46752bd2d3ccaf4af7624a8f7b", func := "loop.example/g00097/laws.FnExactTownValue", spec := "fnExactTownValue", unfollowed := true, recurses := true, apart := false }
def FnExactTownValueSaid : Prop := fnExactTownValueRow.holds Tryz.pinned (OpenSpec.ofChange fnExactTownValueSpec)

/-- ITS FALSE NEIGHBOUR: 'it returns false'. Refute it at one input. -/
def fnExactTownValueWrong : ChangeSpec := { name := "fnExactTownValue", fn := fun _ => fun
  | [d1, d2] => { results := [.lit (.bool false)], args := [d1, d2] }
  | _ => none }
def FnExactTownValueWrongFalsely : Prop := fnExactTownValueRow.holds Tryz.pinned (OpenSpec.ofChange fnExactTownValueWrong)

/-- 'laws.FnExactShowShard': WHATEVER THE INPUT: true; the input reads as it did. -/
def fnExactShowShardSpec : ChangeSpec := { name := "fnExactShowShard", fn := fun _ => fun
  | [d1, d2] => { results := [.lit (.bool true)], args := [d1, d2] }
  | _ => none }
def fnExactShowShardRow : OpenClaim := { program := "ytchceahcaaibcaagreat", sum := "887c7d8b93cd7052bf21ae817aa6a49d3fe4de46752bd2d3ccaf4af7624a8f7b", func := "loop.example/g00097/laws.FnExactShowShard", spec := "fnExactShowShard", inPlace := ["internal/abi.NoEscape", "internal/bytealg.MakeNoZero"], unfollowed := true, recurses := true, apart := false }
def FnExactShowShardSaid : Prop := fnExactShowShardRow.holds Tryz.pinned (OpenSpec.ofChange fnExactShowShardSpec)

/-- ITS FALSE NEIGHBOUR: 'it returns false'. Refute it at one input. -/
def fnExactShowShardWrong : ChangeSpec := { name := "fnExactShowShard", fn := fun _ => fun
  | [d1, d2] => { results := [.lit (.bool false)], args := [d1, d2] }
  | _ => none }
def FnExactShowShardWrongFalsely : Prop := fnExactShowShardRow.holds Tryz.pinned (OpenSpec.ofChange fnExactShowShardWrong)

/-- 'laws.FnExactTownFree': WHATEVER THE INPUT: true; the input reads as it did. -/
def fnExactTownFreeSpec : ChangeSpec := { name := "fnExactTownFree", fn := fun _ => fun
  | [d1, d2] => { results := [.lit (.bool true)], args := [d1, d2] }
  | _ => none }
def fnExactTownFreeRow : OpenClaim := { program := "ytchceahcaaibcaagreat", sum := "887c7d8b93cd7052bf21ae817aa6a49d3fe4de46752bd2d3ccaf4af7624a8f7b", func := "loop.example/g00097/laws.FnExactTownFree", spec := "fnExactTownFree", unfollowed := true, recurses := true, apart := false }
def FnExactTownFreeSaid : Prop := fnExactTownFreeRow.holds Tryz.pinned (OpenSpec.ofChange fnExactTownFreeSpec)

/-- ITS FALSE NEIGHBOUR: 'it returns false'. Refute it at one input. -/
def fnExactTownFreeWrong : ChangeSpec := { name := "fnExactTownFree", fn := fun _ => fun
  | [d1, d2] => { results := [.lit (.bool false)], args := [d1, d2] }
  | _ => none }
def FnExactTownFreeWrongFalsely : Prop := fnExactTownFreeRow.holds Tryz.pinned (OpenSpec.ofChange fnExactTownFreeWrong)

/-- 'laws.FnExactJudgeValues': WHATEVER THE INPUT: true; the input reads as it did. -/
def fnExactJudgeValuesSpec : ChangeSpec := { name := "fnExactJudgeValues", fn := fun _ => fun
  | [d] => { results := [.lit (.bool true)], args := [d] }
  | _ => none }
def fnExactJudgeValuesRow : OpenClaim := { program := "ytchceahcaaibcaagreat", sum := "887c7d8b93cd7052bf21ae817aa6a49d3fe4de46752bd2d3ccaf4af7624a8f7b", func := "loop.example/g00097/laws.FnExactJudgeValues", spec := "fnExactJudgeValues", inPlace := ["slices.overlaps[loop.example/g00097/impl.Cell]"], unfollowed := true, recurses := true, apart := false }
def FnExactJudgeValuesSaid : Prop := fnExactJudgeValuesRow.holds Tryz.pinned (OpenSpec.ofChange fnExactJudgeValuesSpec)

/-- ITS FALSE NEIGHBOUR: 'it returns false'. Refute it at one input. -/
def fnExactJudgeValuesWrong : ChangeSpec := { name := "fnExactJudgeValues", fn := fun _ => fun
  | [d] => { results := [.lit (.bool false)], args := [d] }
  | _ => none }
def FnExactJudgeValuesWrongFalsely : Prop := fnExactJudgeValuesRow.holds Tryz.pinned (OpenSpec.ofChange fnExactJudgeValuesWrong)

/-- 'laws.FnExactJudgeTown': WHATEVER THE INPUT: true; the input reads as it did. -/
def fnExactJudgeTownSpec : ChangeSpec := { name := "fnExactJudgeTown", fn := fun _ => fun
  | [d] => { results := [.lit (.bool true)], args := [d] }
  | _ => none }
def fnExactJudgeTownRow : OpenClaim := { program := "ytchceahcaaibcaagreat", sum := "887c7d8b93cd7052bf21ae817aa6a49d3fe4de46752bd2d3ccaf4af7624a8f7b", func := "loop.example/g00097/laws.FnExactJudgeTown", spec := "fnExactJudgeTown", inPlace := ["slices.overlaps[loop.example/g00097/impl.Cell]"], unfollowed := true, recurses := true, apart := false }
def FnExactJudgeTownSaid : Prop := fnExactJudgeTownRow.holds Tryz.pinned (OpenSpec.ofChange fnExactJudgeTownSpec)

/-- ITS FALSE NEIGHBOUR: 'it returns false'. Refute it at one input. -/
def fnExactJudgeTownWrong : ChangeSpec := { name := "fnExactJudgeTown", fn := fun _ => fun
  | [d] => { results := [.lit (.bool false)], args := [d] }
  | _ => none }
def FnExactJudgeTownWrongFalsely : Prop := fnExactJudgeTownRow.holds Tryz.pinned (OpenSpec.ofChange fnExactJudgeTownWrong)

/- THE SECOND FORM. 'bulk': how many values and letters a reading holds, each counted each time it is reached (what is shared counts as often as it is met; a slice's spare places count too). A statement '..UptoSaid' is the law's where the arguments, and the package variables that the reading takes, are together of bulk at most 1048576: NARROWER than '..Said'. Prove '..Said' where nothing that the law and all that it calls make is longer than what came in: it says more and counts as full. Else prove '..UptoSaid'. A law counts once. -/
mutual
def uptoBulk {H : Type} : DataW H → Nat
  | .lit (.string bytes) => bytes.length + 1
  | .lit _ => 1
  | .nil => 1
  | .ptr d => uptoBulk d + 1
  | .slice elems spare => uptoBulkAll elems + uptoBulkAll spare + 1
  | .agg parts => uptoBulkAll parts + 1
  | .iface _ d => uptoBulk d + 1
  | .map entries => uptoBulkEntries entries + 1
  | .held _ => 1
def uptoBulkAll {H : Type} : List (DataW H) → Nat
  | [] => 0
  | d :: r => uptoBulk d + uptoBulkAll r
def uptoBulkEntries {H : Type} : List (Lit × DataW H) → Nat
  | [] => 0
  | x :: r => uptoBulkEntry x + uptoBulkEntries r
def uptoBulkEntry {H : Type} : Lit × DataW H → Nat
  | (.string bytes, d) => bytes.length + uptoBulk d + 1
  | (_, d) => uptoBulk d + 1
 end
def uptoSmall : (H : Type) → List (DataW H) → Bool := fun _ ds => decide (uptoBulkAll ds ≤ 1048576)
def OpenSpec.upto (s : _root_.Go.ChangeSpec) : _root_.Go.OpenSpec := { _root_.Go.OpenSpec.ofChange s with cond := some uptoSmall }

/-- 'laws.FnExactTownOk', WHERE WHAT IT READS IS OF BULK AT MOST 1048576: true; the input reads as it did. -/
def fnExactTownOkUptoRow : OpenClaim := { program := "ytchceahcaaibcaagreat", sum := "887c7d8b93cd7052bf21ae817aa6a49d3fe4de46752bd2d3ccaf4af7624a8f7b", func := "loop.example/g00097/laws.FnExactTownOk", spec := "fnExactTownOk", unfollowed := true, recurses := true, apart := false, narrowed := true }
def FnExactTownOkUptoSaid : Prop := fnExactTownOkUptoRow.holds Tryz.pinned (OpenSpec.upto fnExactTownOkSpec)

/-- 'laws.FnExactTownSettled', WHERE WHAT IT READS IS OF BULK AT MOST 1048576: true; the input reads as it did. -/
def fnExactTownSettledUptoRow : OpenClaim := { program := "ytchceahcaaibcaagreat", sum := "887c7d8b93cd7052bf21ae817aa6a49d3fe4de46752bd2d3ccaf4af7624a8f7b", func := "loop.example/g00097/laws.FnExactTownSettled", spec := "fnExactTownSettled", unfollowed := true, recurses := true, apart := false, narrowed := true }
def FnExactTownSettledUptoSaid : Prop := fnExactTownSettledUptoRow.holds Tryz.pinned (OpenSpec.upto fnExactTownSettledSpec)

/-- 'laws.FnExactJudgeOwners', WHERE WHAT IT READS IS OF BULK AT MOST 1048576: true; the input reads as it did. -/
def fnExactJudgeOwnersUptoRow : OpenClaim := { program := "ytchceahcaaibcaagreat", sum := "887c7d8b93cd7052bf21ae817aa6a49d3fe4de46752bd2d3ccaf4af7624a8f7b", func := "loop.example/g00097/laws.FnExactJudgeOwners", spec := "fnExactJudgeOwners", unfollowed := true, recurses := true, apart := false, narrowed := true }
def FnExactJudgeOwnersUptoSaid : Prop := fnExactJudgeOwnersUptoRow.holds Tryz.pinned (OpenSpec.upto fnExactJudgeOwnersSpec)

/-- 'laws.FnExactShowAtlas', WHERE WHAT IT READS IS OF BULK AT MOST 1048576: true; the input reads as it did. -/
def fnExactShowAtlasUptoRow : OpenClaim := { program := "ytchceahcaaibcaagreat", sum := "887c7d8b93cd7052bf21ae817aa6a49d3fe4de46752bd2d3ccaf4af7624a8f7b", func := "loop.example/g00097/laws.FnExactShowAtlas", spec := "fnExactShowAtlas", unfollowed := true, recurses := true, apart := false, narrowed := true }
def FnExactShowAtlasUptoSaid : Prop := fnExactShowAtlasUptoRow.holds Tryz.pinned (OpenSpec.upto fnExactShowAtlasSpec)

/-- 'laws.FnExactShowClient', WHERE WHAT IT READS IS OF BULK AT MOST 1048576: true; the input reads as it did. -/
def fnExactShowClientUptoRow : OpenClaim := { program := "ytchceahcaaibcaagreat", sum := "887c7d8b93cd7052bf21ae817aa6a49d3fe4de46752bd2d3ccaf4af7624a8f7b", func := "loop.example/g00097/laws.FnExactShowClient", spec := "fnExactShowClient", unfollowed := true, recurses := true, apart := false, narrowed := true }
def FnExactShowClientUptoSaid : Prop := fnExactShowClientUptoRow.holds Tryz.pinned (OpenSpec.upto fnExactShowClientSpec)

/-- 'laws.FnExactTownValue', WHERE WHAT IT READS IS OF BULK AT MOST 1048576: true; the input reads as it did. -/
def fnExactTownValueUptoRow : OpenClaim := { program := "ytchceahcaaibcaagreat", sum := "887c7d8b93cd7052bf21ae817aa6a49d3fe4de46752bd2d3ccaf4af7624a8f7b", func := "loop.example/g00097/laws.FnExactTownValue", spec := "fnExactTownValue", unfollowed := true, recurses := true, apart := false, narrowed := true }
def FnExactTownValueUptoSaid : Prop := fnExactTownValueUptoRow.holds Tryz.pinned (OpenSpec.upto fnExactTownValueSpec)

/-- 'laws.FnExactShowShard', WHERE WHAT IT READS IS OF BULK AT MOST 1048576: true; the input reads as it did. -/
def fnExactShowShardUptoRow : OpenClaim := { program := "ytchceahcaaibcaagreat", sum := "887c7d8b93cd7052bf21ae817aa6a49d3fe4de46752bd2d3ccaf4af7624a8f7b", func := "loop.example/g00097/laws.FnExactShowShard", spec := "fnExactShowShard", inPlace := ["internal/abi.NoEscape", "internal/bytealg.MakeNoZero"], unfollowed := true, recurses := true, apart := false, narrowed := true }
def FnExactShowShardUptoSaid : Prop := fnExactShowShardUptoRow.holds Tryz.pinned (OpenSpec.upto fnExactShowShardSpec)

/-- 'laws.FnExactTownFree', WHERE WHAT IT READS IS OF BULK AT MOST 1048576: true; the input reads as it did. -/
def fnExactTownFreeUptoRow : OpenClaim := { program := "ytchceahcaaibcaagreat", sum := "887c7d8b93cd7052bf21ae817aa6a49d3fe4de46752bd2d3ccaf4af7624a8f7b", func := "loop.example/g00097/laws.FnExactTownFree", spec := "fnExactTownFree", unfollowed := true, recurses := true, apart := false, narrowed := true }
def FnExactTownFreeUptoSaid : Prop := fnExactTownFreeUptoRow.holds Tryz.pinned (OpenSpec.upto fnExactTownFreeSpec)

/-- 'laws.FnExactJudgeValues', WHERE WHAT IT READS IS OF BULK AT MOST 1048576: true; the input reads as it did. -/
def fnExactJudgeValuesUptoRow : OpenClaim := { program := "ytchceahcaaibcaagreat", sum := "887c7d8b93cd7052bf21ae817aa6a49d3fe4de46752bd2d3ccaf4af7624a8f7b", func := "loop.example/g00097/laws.FnExactJudgeValues", spec := "fnExactJudgeValues", inPlace := ["slices.overlaps[loop.example/g00097/impl.Cell]"], unfollowed := true, recurses := true, apart := false, narrowed := true }
def FnExactJudgeValuesUptoSaid : Prop := fnExactJudgeValuesUptoRow.holds Tryz.pinned (OpenSpec.upto fnExactJudgeValuesSpec)

/-- 'laws.FnExactJudgeTown', WHERE WHAT IT READS IS OF BULK AT MOST 1048576: true; the input reads as it did. -/
def fnExactJudgeTownUptoRow : OpenClaim := { program := "ytchceahcaaibcaagreat", sum := "887c7d8b93cd7052bf21ae817aa6a49d3fe4de46752bd2d3ccaf4af7624a8f7b", func := "loop.example/g00097/laws.FnExactJudgeTown", spec := "fnExactJudgeTown", inPlace := ["slices.overlaps[loop.example/g00097/impl.Cell]"], unfollowed := true, recurses := true, apart := false, narrowed := true }
def FnExactJudgeTownUptoSaid : Prop := fnExactJudgeTownUptoRow.holds Tryz.pinned (OpenSpec.upto fnExactJudgeTownSpec)

end Rows
end Go.Proofs.YtchceahcaaibcaaGreat
