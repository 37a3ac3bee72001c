/-
  No cell of these rows narrows 'for every input' (looked for: loops, veiled, ifaces, maps, wideKeys, modest, calm, conditions, laid).
  DERIVED. THE GIVEN ROWS OF THIS SEAT. 5 by the template 'for every input the law returns true; each argument reads behind the call as it read before'; 0 by the template 'total and deterministic' (their statements: YtgiihlbljopjkaaTotals.lean).
  GIVEN WITH THE SEED: the statements are not yours to turn. If you find one false, say at which input.
  Laid BY PROGRAM, IN A SANDBOX (cutbox-rows.mjs): the forced cells as the released guide's own fill.sh prints them over the translation e025000f682a03b7… (all of the seat's roots in one cut). By AI agents, Wed Nov 11 2026. No macro, syntax, notation, axiom, sorry.
-/
import Derived.Test.YtgiihlbljopjkaaChecked
import GoSem.Claim
import GoSem.ClaimJoined
import GoSem.ClaimMapViews
import Derived.JoinedTies
import Derived.KernelRfl
namespace Go.Proofs.Ytgiihlbljopjkaa
/- THE CELL 'sum', in the pinned program and in every row, IS THE sha256 OF THE DUMP (.gsa) THAT YtgiihlbljopjkaaProg.lean LOADS. Nothing in Lean hashes anything: it is a label: what it is worth is what the hold of that sum in a sandbox is worth. -/
noncomputable def Try.pinned : Pinned := { name := "ytgiihlbljopjkaa", sum := "e025000f682a03b70354f3994094560801e279fdc3171856d37d68596804ca75", checked := Try.checked }
namespace Rows
def none {H : Type} : Left H := { results := [], args := [] }

/-- 'laws.FnExactTextOf': WHATEVER THE INPUT: true; the input reads as it did. -/
def fnExactTextOfSpec : ChangeSpec := { name := "fnExactTextOf", fn := fun _ => fun
  | [d] => { results := [.lit (.bool true)], args := [d] }
  | _ => none }
def fnExactTextOfRow : OpenClaim := { program := "ytgiihlbljopjkaa", sum := "e025000f682a03b70354f3994094560801e279fdc3171856d37d68596804ca75", func := "loop.example/g00097/laws.FnExactTextOf", spec := "fnExactTextOf", recurses := true, apart := false }
def FnExactTextOfSaid : Prop := fnExactTextOfRow.holds Try.pinned (OpenSpec.ofChange fnExactTextOfSpec)

/-- ITS FALSE NEIGHBOUR: 'it returns false'. Refute it at one input. -/
def fnExactTextOfWrong : ChangeSpec := { name := "fnExactTextOf", fn := fun _ => fun
  | [d] => { results := [.lit (.bool false)], args := [d] }
  | _ => none }
def FnExactTextOfWrongFalsely : Prop := fnExactTextOfRow.holds Try.pinned (OpenSpec.ofChange fnExactTextOfWrong)

/-- 'laws.FnExactNumOf': WHATEVER THE INPUT: true; the input reads as it did. -/
def fnExactNumOfSpec : ChangeSpec := { name := "fnExactNumOf", fn := fun _ => fun
  | [d] => { results := [.lit (.bool true)], args := [d] }
  | _ => none }
def fnExactNumOfRow : OpenClaim := { program := "ytgiihlbljopjkaa", sum := "e025000f682a03b70354f3994094560801e279fdc3171856d37d68596804ca75", func := "loop.example/g00097/laws.FnExactNumOf", spec := "fnExactNumOf", recurses := true, apart := false }
def FnExactNumOfSaid : Prop := fnExactNumOfRow.holds Try.pinned (OpenSpec.ofChange fnExactNumOfSpec)

/-- ITS FALSE NEIGHBOUR: 'it returns false'. Refute it at one input. -/
def fnExactNumOfWrong : ChangeSpec := { name := "fnExactNumOf", fn := fun _ => fun
  | [d] => { results := [.lit (.bool false)], args := [d] }
  | _ => none }
def FnExactNumOfWrongFalsely : Prop := fnExactNumOfRow.holds Try.pinned (OpenSpec.ofChange fnExactNumOfWrong)

/-- 'laws.FnNum18': WHATEVER THE INPUT: true; the input reads as it did. -/
def fnNum18Spec : ChangeSpec := { name := "fnNum18", fn := fun _ => fun
  | [d] => { results := [.lit (.bool true)], args := [d] }
  | _ => none }
def fnNum18Row : OpenClaim := { program := "ytgiihlbljopjkaa", sum := "e025000f682a03b70354f3994094560801e279fdc3171856d37d68596804ca75", func := "loop.example/g00097/laws.FnNum18", spec := "fnNum18", recurses := true, apart := false }
def FnNum18Said : Prop := fnNum18Row.holds Try.pinned (OpenSpec.ofChange fnNum18Spec)

/-- ITS FALSE NEIGHBOUR: 'it returns false'. Refute it at one input. -/
def fnNum18Wrong : ChangeSpec := { name := "fnNum18", fn := fun _ => fun
  | [d] => { results := [.lit (.bool false)], args := [d] }
  | _ => none }
def FnNum18WrongFalsely : Prop := fnNum18Row.holds Try.pinned (OpenSpec.ofChange fnNum18Wrong)

/-- 'laws.FnExactShowCells': WHATEVER THE INPUT: true; the input reads as it did. -/
def fnExactShowCellsSpec : ChangeSpec := { name := "fnExactShowCells", fn := fun _ => fun
  | [d] => { results := [.lit (.bool true)], args := [d] }
  | _ => none }
def fnExactShowCellsRow : OpenClaim := { program := "ytgiihlbljopjkaa", sum := "e025000f682a03b70354f3994094560801e279fdc3171856d37d68596804ca75", func := "loop.example/g00097/laws.FnExactShowCells", spec := "fnExactShowCells", inPlace := ["internal/abi.NoEscape", "internal/bytealg.MakeNoZero"], recurses := true, apart := false }
def FnExactShowCellsSaid : Prop := fnExactShowCellsRow.holds Try.pinned (OpenSpec.ofChange fnExactShowCellsSpec)

/-- ITS FALSE NEIGHBOUR: 'it returns false'. Refute it at one input. -/
def fnExactShowCellsWrong : ChangeSpec := { name := "fnExactShowCells", fn := fun _ => fun
  | [d] => { results := [.lit (.bool false)], args := [d] }
  | _ => none }
def FnExactShowCellsWrongFalsely : Prop := fnExactShowCellsRow.holds Try.pinned (OpenSpec.ofChange fnExactShowCellsWrong)

/-- 'laws.FnExactDeedLine': WHATEVER THE INPUT: true; the input reads as it did. -/
def fnExactDeedLineSpec : ChangeSpec := { name := "fnExactDeedLine", fn := fun _ => fun
  | [d] => { results := [.lit (.bool true)], args := [d] }
  | _ => none }
def fnExactDeedLineRow : OpenClaim := { program := "ytgiihlbljopjkaa", sum := "e025000f682a03b70354f3994094560801e279fdc3171856d37d68596804ca75", func := "loop.example/g00097/laws.FnExactDeedLine", spec := "fnExactDeedLine", recurses := true, apart := false }
def FnExactDeedLineSaid : Prop := fnExactDeedLineRow.holds Try.pinned (OpenSpec.ofChange fnExactDeedLineSpec)

/-- ITS FALSE NEIGHBOUR: 'it returns false'. Refute it at one input. -/
def fnExactDeedLineWrong : ChangeSpec := { name := "fnExactDeedLine", fn := fun _ => fun
  | [d] => { results := [.lit (.bool false)], args := [d] }
  | _ => none }
def FnExactDeedLineWrongFalsely : Prop := fnExactDeedLineRow.holds Try.pinned (OpenSpec.ofChange fnExactDeedLineWrong)

/- THE SECOND FORM. 'bulk': how many values and letters a reading holds, each counted each time it is reached (what is shared counts as often as it is met; a slice's spare places count too). A statement '..UptoSaid' is the law's where the arguments, and the package variables that the reading takes, are together of bulk at most 1048576: NARROWER than '..Said'. Prove '..Said' where nothing that the law and all that it calls make is longer than what came in: it says more and counts as full. Else prove '..UptoSaid'. A law counts once. -/
mutual
def uptoBulk {H : Type} : DataW H → Nat
  | .lit (.string bytes) => bytes.length + 1
  | .lit _ => 1
  | .nil => 1
  | .ptr d => uptoBulk d + 1
  | .slice elems spare => uptoBulkAll elems + uptoBulkAll spare + 1
  | .agg parts => uptoBulkAll parts + 1
  | .iface _ d => uptoBulk d + 1
  | .map entries => uptoBulkEntries entries + 1
  | .held _ => 1
def uptoBulkAll {H : Type} : List (DataW H) → Nat
  | [] => 0
  | d :: r => uptoBulk d + uptoBulkAll r
def uptoBulkEntries {H : Type} : List (Lit × DataW H) → Nat
  | [] => 0
  | x :: r => uptoBulkEntry x + uptoBulkEntries r
def uptoBulkEntry {H : Type} : Lit × DataW H → Nat
  | (.string bytes, d) => bytes.length + uptoBulk d + 1
  | (_, d) => uptoBulk d + 1
 end
def uptoSmall : (H : Type) → List (DataW H) → Bool := fun _ ds => decide (uptoBulkAll ds ≤ 1048576)
def OpenSpec.upto (s : _root_.Go.ChangeSpec) : _root_.Go.OpenSpec := { _root_.Go.OpenSpec.ofChange s with cond := some uptoSmall }

/-- 'laws.FnExactTextOf', WHERE WHAT IT READS IS OF BULK AT MOST 1048576: true; the input reads as it did. -/
def fnExactTextOfUptoRow : OpenClaim := { program := "ytgiihlbljopjkaa", sum := "e025000f682a03b70354f3994094560801e279fdc3171856d37d68596804ca75", func := "loop.example/g00097/laws.FnExactTextOf", spec := "fnExactTextOf", recurses := true, apart := false, narrowed := true }
def FnExactTextOfUptoSaid : Prop := fnExactTextOfUptoRow.holds Try.pinned (OpenSpec.upto fnExactTextOfSpec)

/-- 'laws.FnExactNumOf', WHERE WHAT IT READS IS OF BULK AT MOST 1048576: true; the input reads as it did. -/
def fnExactNumOfUptoRow : OpenClaim := { program := "ytgiihlbljopjkaa", sum := "e025000f682a03b70354f3994094560801e279fdc3171856d37d68596804ca75", func := "loop.example/g00097/laws.FnExactNumOf", spec := "fnExactNumOf", recurses := true, apart := false, narrowed := true }
def FnExactNumOfUptoSaid : Prop := fnExactNumOfUptoRow.holds Try.pinned (OpenSpec.upto fnExactNumOfSpec)

/-- 'laws.FnNum18', WHERE WHAT IT READS IS OF BULK AT MOST 1048576: true; the input reads as it did. -/
def fnNum18UptoRow : OpenClaim := { program := "ytgiihlbljopjkaa", sum := "e025000f682a03b70354f3994094560801e279fdc3171856d37d68596804ca75", func := "loop.example/g00097/laws.FnNum18", spec := "fnNum18", recurses := true, apart := false, narrowed := true }
def FnNum18UptoSaid : Prop := fnNum18UptoRow.holds Try.pinned (OpenSpec.upto fnNum18Spec)

/-- 'laws.FnExactShowCells', WHERE WHAT IT READS IS OF BULK AT MOST 1048576: true; the input reads as it did. -/
def fnExactShowCellsUptoRow : OpenClaim := { program := "ytgiihlbljopjkaa", sum := "e025000f682a03b70354f3994094560801e279fdc3171856d37d68596804ca75", func := "loop.example/g00097/laws.FnExactShowCells", spec := "fnExactShowCells", inPlace := ["internal/abi.NoEscape", "internal/bytealg.MakeNoZero"], recurses := true, apart := false, narrowed := true }
def FnExactShowCellsUptoSaid : Prop := fnExactShowCellsUptoRow.holds Try.pinned (OpenSpec.upto fnExactShowCellsSpec)

/-- 'laws.FnExactDeedLine', WHERE WHAT IT READS IS OF BULK AT MOST 1048576: true; the input reads as it did. -/
def fnExactDeedLineUptoRow : OpenClaim := { program := "ytgiihlbljopjkaa", sum := "e025000f682a03b70354f3994094560801e279fdc3171856d37d68596804ca75", func := "loop.example/g00097/laws.FnExactDeedLine", spec := "fnExactDeedLine", recurses := true, apart := false, narrowed := true }
def FnExactDeedLineUptoSaid : Prop := fnExactDeedLineUptoRow.holds Try.pinned (OpenSpec.upto fnExactDeedLineSpec)

end Rows
end Go.Proofs.Ytgiihlbljopjkaa
