/-
  No cell of these rows narrows 'for every input' (looked for: loops, veiled, ifaces, maps, wideKeys, modest, calm, conditions, laid).
  DERIVED. THE GIVEN ROWS OF THIS SEAT. 6 by the template 'for every input the law returns true; each argument reads behind the call as it read before'; 0 by the template 'total and deterministic' (their statements: YtdejncnjaebjfaaTotals.lean).
  GIVEN WITH THE SEED: the statements are not yours to turn. If you find one false, say at which input.
  Laid BY PROGRAM, IN A SANDBOX (cutbox-rows.mjs): the forced cells as the released guide's own fill.sh prints them over the translation 56a6285072e5526f… (all of the seat's roots in one cut). By AI agents, Wed Nov 11 2026. No macro, syntax, notation, axiom, sorry.
-/
import Derived.Test.YtdejncnjaebjfaaChecked
import GoSem.Claim
import GoSem.ClaimJoined
import GoSem.ClaimMapViews
import Derived.JoinedTies
import Derived.KernelRfl
namespace Go.Proofs.Ytdejncnjaebjfaa
/- THE CELL 'sum', in the pinned program and in every row, IS THE sha256 OF THE DUMP (.gsa) THAT YtdejncnjaebjfaaProg.lean LOADS. Nothing in Lean hashes anything: it is a label: what it is worth is what the hold of that sum in a sandbox is worth. -/
noncomputable def Try.pinned : Pinned := { name := "ytdejncnjaebjfaa", sum := "56a6285072e5526f7e00ae146270ccb2e08adb74cb3fc09c9a10a7398d957047", checked := Try.checked }
namespace Rows
def none {H : Type} : Left H := { results := [], args := [] }

/-- 'laws.FnExactDeedLine': WHATEVER THE INPUT: true; the input reads as it did. -/
def fnExactDeedLineSpec : ChangeSpec := { name := "fnExactDeedLine", fn := fun _ => fun
  | [d] => { results := [.lit (.bool true)], args := [d] }
  | _ => none }
def fnExactDeedLineRow : OpenClaim := { program := "ytdejncnjaebjfaa", sum := "56a6285072e5526f7e00ae146270ccb2e08adb74cb3fc09c9a10a7398d957047", func := "loop.example/g00097/laws.FnExactDeedLine", spec := "fnExactDeedLine", recurses := true, apart := false }
def FnExactDeedLineSaid : Prop := fnExactDeedLineRow.holds Try.pinned (OpenSpec.ofChange fnExactDeedLineSpec)

/-- ITS FALSE NEIGHBOUR: 'it returns false'. Refute it at one input. -/
def fnExactDeedLineWrong : ChangeSpec := { name := "fnExactDeedLine", fn := fun _ => fun
  | [d] => { results := [.lit (.bool false)], args := [d] }
  | _ => none }
def FnExactDeedLineWrongFalsely : Prop := fnExactDeedLineRow.holds Try.pinned (OpenSpec.ofChange fnExactDeedLineWrong)

/-- 'laws.FnExactScriptText': WHATEVER THE INPUT: true; the input reads as it did. -/
def fnExactScriptTextSpec : ChangeSpec := { name := "fnExactScriptText", fn := fun _ => fun
  | [d] => { results := [.lit (.bool true)], args := [d] }
  | _ => none }
def fnExactScriptTextRow : OpenClaim := { program := "ytdejncnjaebjfaa", sum := "56a6285072e5526f7e00ae146270ccb2e08adb74cb3fc09c9a10a7398d957047", func := "loop.example/g00097/laws.FnExactScriptText", spec := "fnExactScriptText", recurses := true, apart := false }
def FnExactScriptTextSaid : Prop := fnExactScriptTextRow.holds Try.pinned (OpenSpec.ofChange fnExactScriptTextSpec)

/-- ITS FALSE NEIGHBOUR: 'it returns false'. Refute it at one input. -/
def fnExactScriptTextWrong : ChangeSpec := { name := "fnExactScriptText", fn := fun _ => fun
  | [d] => { results := [.lit (.bool false)], args := [d] }
  | _ => none }
def FnExactScriptTextWrongFalsely : Prop := fnExactScriptTextRow.holds Try.pinned (OpenSpec.ofChange fnExactScriptTextWrong)

/-- 'laws.FnExactJudgeOrder': WHATEVER THE INPUT: true; the input reads as it did. -/
def fnExactJudgeOrderSpec : ChangeSpec := { name := "fnExactJudgeOrder", fn := fun _ => fun
  | [d1, d2] => { results := [.lit (.bool true)], args := [d1, d2] }
  | _ => none }
def fnExactJudgeOrderRow : OpenClaim := { program := "ytdejncnjaebjfaa", sum := "56a6285072e5526f7e00ae146270ccb2e08adb74cb3fc09c9a10a7398d957047", func := "loop.example/g00097/laws.FnExactJudgeOrder", spec := "fnExactJudgeOrder", unfollowed := true, recurses := true, apart := false }
def FnExactJudgeOrderSaid : Prop := fnExactJudgeOrderRow.holds Try.pinned (OpenSpec.ofChange fnExactJudgeOrderSpec)

/-- ITS FALSE NEIGHBOUR: 'it returns false'. Refute it at one input. -/
def fnExactJudgeOrderWrong : ChangeSpec := { name := "fnExactJudgeOrder", fn := fun _ => fun
  | [d1, d2] => { results := [.lit (.bool false)], args := [d1, d2] }
  | _ => none }
def FnExactJudgeOrderWrongFalsely : Prop := fnExactJudgeOrderRow.holds Try.pinned (OpenSpec.ofChange fnExactJudgeOrderWrong)

/-- 'laws.FnExactJudgeEnds': WHATEVER THE INPUT: true; the input reads as it did. -/
def fnExactJudgeEndsSpec : ChangeSpec := { name := "fnExactJudgeEnds", fn := fun _ => fun
  | [d1, d2] => { results := [.lit (.bool true)], args := [d1, d2] }
  | _ => none }
def fnExactJudgeEndsRow : OpenClaim := { program := "ytdejncnjaebjfaa", sum := "56a6285072e5526f7e00ae146270ccb2e08adb74cb3fc09c9a10a7398d957047", func := "loop.example/g00097/laws.FnExactJudgeEnds", spec := "fnExactJudgeEnds", unfollowed := true, recurses := true, apart := false }
def FnExactJudgeEndsSaid : Prop := fnExactJudgeEndsRow.holds Try.pinned (OpenSpec.ofChange fnExactJudgeEndsSpec)

/-- ITS FALSE NEIGHBOUR: 'it returns false'. Refute it at one input. -/
def fnExactJudgeEndsWrong : ChangeSpec := { name := "fnExactJudgeEnds", fn := fun _ => fun
  | [d1, d2] => { results := [.lit (.bool false)], args := [d1, d2] }
  | _ => none }
def FnExactJudgeEndsWrongFalsely : Prop := fnExactJudgeEndsRow.holds Try.pinned (OpenSpec.ofChange fnExactJudgeEndsWrong)

/-- 'laws.FnExactJudgeBefore': WHATEVER THE INPUT: true; the input reads as it did. -/
def fnExactJudgeBeforeSpec : ChangeSpec := { name := "fnExactJudgeBefore", fn := fun _ => fun
  | [d1, d2] => { results := [.lit (.bool true)], args := [d1, d2] }
  | _ => none }
def fnExactJudgeBeforeRow : OpenClaim := { program := "ytdejncnjaebjfaa", sum := "56a6285072e5526f7e00ae146270ccb2e08adb74cb3fc09c9a10a7398d957047", func := "loop.example/g00097/laws.FnExactJudgeBefore", spec := "fnExactJudgeBefore", inPlace := ["slices.overlaps[loop.example/g00097/impl.Cell]"], unfollowed := true, recurses := true, apart := false }
def FnExactJudgeBeforeSaid : Prop := fnExactJudgeBeforeRow.holds Try.pinned (OpenSpec.ofChange fnExactJudgeBeforeSpec)

/-- ITS FALSE NEIGHBOUR: 'it returns false'. Refute it at one input. -/
def fnExactJudgeBeforeWrong : ChangeSpec := { name := "fnExactJudgeBefore", fn := fun _ => fun
  | [d1, d2] => { results := [.lit (.bool false)], args := [d1, d2] }
  | _ => none }
def FnExactJudgeBeforeWrongFalsely : Prop := fnExactJudgeBeforeRow.holds Try.pinned (OpenSpec.ofChange fnExactJudgeBeforeWrong)

/-- 'laws.FnExactJudgeReads': WHATEVER THE INPUT: true; the input reads as it did. -/
def fnExactJudgeReadsSpec : ChangeSpec := { name := "fnExactJudgeReads", fn := fun _ => fun
  | [d1, d2] => { results := [.lit (.bool true)], args := [d1, d2] }
  | _ => none }
def fnExactJudgeReadsRow : OpenClaim := { program := "ytdejncnjaebjfaa", sum := "56a6285072e5526f7e00ae146270ccb2e08adb74cb3fc09c9a10a7398d957047", func := "loop.example/g00097/laws.FnExactJudgeReads", spec := "fnExactJudgeReads", inPlace := ["slices.overlaps[loop.example/g00097/impl.Cell]"], unfollowed := true, recurses := true, apart := false }
def FnExactJudgeReadsSaid : Prop := fnExactJudgeReadsRow.holds Try.pinned (OpenSpec.ofChange fnExactJudgeReadsSpec)

/-- ITS FALSE NEIGHBOUR: 'it returns false'. Refute it at one input. -/
def fnExactJudgeReadsWrong : ChangeSpec := { name := "fnExactJudgeReads", fn := fun _ => fun
  | [d1, d2] => { results := [.lit (.bool false)], args := [d1, d2] }
  | _ => none }
def FnExactJudgeReadsWrongFalsely : Prop := fnExactJudgeReadsRow.holds Try.pinned (OpenSpec.ofChange fnExactJudgeReadsWrong)

/- THE SECOND FORM. 'bulk': how many values and letters a reading holds, each counted each time it is reached (what is shared counts as often as it is met; a slice's spare places count too). A statement '..UptoSaid' is the law's where the arguments, and the package variables that the reading takes, are together of bulk at most 1048576: NARROWER than '..Said'. Prove '..Said' where nothing that the law and all that it calls make is longer than what came in: it says more and counts as full. Else prove '..UptoSaid'. A law counts once. -/
mutual
def uptoBulk {H : Type} : DataW H → Nat
  | .lit (.string bytes) => bytes.length + 1
  | .lit _ => 1
  | .nil => 1
  | .ptr d => uptoBulk d + 1
  | .slice elems spare => uptoBulkAll elems + uptoBulkAll spare + 1
  | .agg parts => uptoBulkAll parts + 1
  | .iface _ d => uptoBulk d + 1
  | .map entries => uptoBulkEntries entries + 1
  | .held _ => 1
def uptoBulkAll {H : Type} : List (DataW H) → Nat
  | [] => 0
  | d :: r => uptoBulk d + uptoBulkAll r
def uptoBulkEntries {H : Type} : List (Lit × DataW H) → Nat
  | [] => 0
  | x :: r => uptoBulkEntry x + uptoBulkEntries r
def uptoBulkEntry {H : Type} : Lit × DataW H → Nat
  | (.string bytes, d) => bytes.length + uptoBulk d + 1
  | (_, d) => uptoBulk d + 1
 end
def uptoSmall : (H : Type) → List (DataW H) → Bool := fun _ ds => decide (uptoBulkAll ds ≤ 1048576)
def OpenSpec.upto (s : _root_.Go.ChangeSpec) : _root_.Go.OpenSpec := { _root_.Go.OpenSpec.ofChange s with cond := some uptoSmall }

/-- 'laws.FnExactDeedLine', WHERE WHAT IT READS IS OF BULK AT MOST 1048576: true; the input reads as it did. -/
def fnExactDeedLineUptoRow : OpenClaim := { program := "ytdejncnjaebjfaa", sum := "56a6285072e5526f7e00ae146270ccb2e08adb74cb3fc09c9a10a7398d957047", func := "loop.example/g00097/laws.FnExactDeedLine", spec := "fnExactDeedLine", recurses := true, apart := false, narrowed := true }
def FnExactDeedLineUptoSaid : Prop := fnExactDeedLineUptoRow.holds Try.pinned (OpenSpec.upto fnExactDeedLineSpec)

/-- 'laws.FnExactScriptText', WHERE WHAT IT READS IS OF BULK AT MOST 1048576: true; the input reads as it did. -/
def fnExactScriptTextUptoRow : OpenClaim := { program := "ytdejncnjaebjfaa", sum := "56a6285072e5526f7e00ae146270ccb2e08adb74cb3fc09c9a10a7398d957047", func := "loop.example/g00097/laws.FnExactScriptText", spec := "fnExactScriptText", recurses := true, apart := false, narrowed := true }
def FnExactScriptTextUptoSaid : Prop := fnExactScriptTextUptoRow.holds Try.pinned (OpenSpec.upto fnExactScriptTextSpec)

/-- 'laws.FnExactJudgeOrder', WHERE WHAT IT READS IS OF BULK AT MOST 1048576: true; the input reads as it did. -/
def fnExactJudgeOrderUptoRow : OpenClaim := { program := "ytdejncnjaebjfaa", sum := "56a6285072e5526f7e00ae146270ccb2e08adb74cb3fc09c9a10a7398d957047", func := "loop.example/g00097/laws.FnExactJudgeOrder", spec := "fnExactJudgeOrder", unfollowed := true, recurses := true, apart := false, narrowed := true }
def FnExactJudgeOrderUptoSaid : Prop := fnExactJudgeOrderUptoRow.holds Try.pinned (OpenSpec.upto fnExactJudgeOrderSpec)

/-- 'laws.FnExactJudgeEnds', WHERE WHAT IT READS IS OF BULK AT MOST 1048576: true; the input reads as it did. -/
def fnExactJudgeEndsUptoRow : OpenClaim := { program := "ytdejncnjaebjfaa", sum := "56a6285072e5526f7e00ae146270ccb2e08adb74cb3fc09c9a10a7398d957047", func := "loop.example/g00097/laws.FnExactJudgeEnds", spec := "fnExactJudgeEnds", unfollowed := true, recurses := true, apart := false, narrowed := true }
def FnExactJudgeEndsUptoSaid : Prop := fnExactJudgeEndsUptoRow.holds Try.pinned (OpenSpec.upto fnExactJudgeEndsSpec)

/-- 'laws.FnExactJudgeBefore', WHERE WHAT IT READS IS OF BULK AT MOST 1048576: true; the input reads as it did. -/
def fnExactJudgeBeforeUptoRow : OpenClaim := { program := "ytdejncnjaebjfaa", sum := "56a6285072e5526f7e00ae146270ccb2e08adb74cb3fc09c9a10a7398d957047", func := "loop.example/g00097/laws.FnExactJudgeBefore", spec := "fnExactJudgeBefore", inPlace := ["slices.overlaps[loop.example/g00097/impl.Cell]"], unfollowed := true, recurses := true, apart := false, narrowed := true }
def FnExactJudgeBeforeUptoSaid : Prop := fnExactJudgeBeforeUptoRow.holds Try.pinned (OpenSpec.upto fnExactJudgeBeforeSpec)

/-- 'laws.FnExactJudgeReads', WHERE WHAT IT READS IS OF BULK AT MOST 1048576: true; the input reads as it did. -/
def fnExactJudgeReadsUptoRow : OpenClaim := { program := "ytdejncnjaebjfaa", sum := "56a6285072e5526f7e00ae146270ccb2e08adb74cb3fc09c9a10a7398d957047", func := "loop.example/g00097/laws.FnExactJudgeReads", spec := "fnExactJudgeReads", inPlace := ["slices.overlaps[loop.example/g00097/impl.Cell]"], unfollowed := true, recurses := true, apart := false, narrowed := true }
def FnExactJudgeReadsUptoSaid : Prop := fnExactJudgeReadsUptoRow.holds Try.pinned (OpenSpec.upto fnExactJudgeReadsSpec)

end Rows
end Go.Proofs.Ytdejncnjaebjfaa
