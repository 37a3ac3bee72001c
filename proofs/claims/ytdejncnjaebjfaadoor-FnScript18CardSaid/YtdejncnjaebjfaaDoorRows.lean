/-
  NARROWER THAN 'FOR EVERY INPUT', by the rows' own cells (each row's printed sentence says how): FnExactParseDeed: laid · FnExactParseScript: laid · FnScript18: laid · FnLine18: laid.
  DERIVED. THE GIVEN ROWS OF THIS SEAT. 4 by the template 'for every input the law returns true; each argument reads behind the call as it read before'; 0 by the template 'total and deterministic' (their statements: YtdejncnjaebjfaaDoorTotals.lean).
  GIVEN WITH THE SEED: the statements are not yours to turn. If you find one false, say at which input.
  Laid BY PROGRAM, IN A SANDBOX (cutbox-rows.mjs): the forced cells as the released guide's own fill.sh prints them over the translation 77e0d996697da4a2… (all of the seat's roots in one cut). By AI agents, Wed Nov 11 2026. No macro, syntax, notation, axiom, sorry.
-/
import Derived.Test.YtdejncnjaebjfaaDoorChecked
import GoSem.PinnedTables
import GoSem.Claim
import GoSem.ClaimJoined
import GoSem.ClaimMapViews
import Derived.JoinedTies
import Derived.KernelRfl
namespace Go.Proofs.YtdejncnjaebjfaaDoor
/- THE CELL 'sum', in the pinned program and in every row, IS THE sha256 OF THE DUMP (.gsa) THAT YtdejncnjaebjfaaDoorProg.lean LOADS. Nothing in Lean hashes anything: it is a label: what it is worth is what the hold of that sum in a sandbox is worth. -/
noncomputable def Tryd.pinned : Pinned := { name := "ytdejncnjaebjfaadoor", sum := "77e0d996697da4a2a2d9ba719ec375484a5ecc36ae93c43cb7f6325488772d63", checked := Tryd.checked }
namespace Rows
def none {H : Type} : Left H := { results := [], args := [] }

/- WHAT THE LISTED PACKAGE-LEVEL VARIABLES READ AS WHEN THE CALL BEGINS. Each datum BY PROGRAM (the guide's laid-datum.mjs) off the statement by which the dump's own 'gosem.cut.vars' lays the variable. In a bare row this is a premise. The card (YtdejncnjaebjfaaDoorCards.lean) ties it to the program's text. -/
def laid_unicode_utf8_acceptRanges {H : Type} : DataW H := .agg [.agg [.lit (.int .u8 128), .lit (.int .u8 191)], .agg [.lit (.int .u8 160), .lit (.int .u8 191)], .agg [.lit (.int .u8 128), .lit (.int .u8 159)], .agg [.lit (.int .u8 144), .lit (.int .u8 191)], .agg [.lit (.int .u8 128), .lit (.int .u8 143)], .agg [.lit (.int .u8 0), .lit (.int .u8 0)], .agg [.lit (.int .u8 0), .lit (.int .u8 0)], .agg [.lit (.int .u8 0), .lit (.int .u8 0)], .agg [.lit (.int .u8 0), .lit (.int .u8 0)], .agg [.lit (.int .u8 0), .lit (.int .u8 0)], .agg [.lit (.int .u8 0), .lit (.int .u8 0)], .agg [.lit (.int .u8 0), .lit (.int .u8 0)], .agg [.lit (.int .u8 0), .lit (.int .u8 0)], .agg [.lit (.int .u8 0), .lit (.int .u8 0)], .agg [.lit (.int .u8 0), .lit (.int .u8 0)], .agg [.lit (.int .u8 0), .lit (.int .u8 0)]]
/-- One of Go's own tables, pinned by name: the form's constant. -/
def laid_unicode_utf8_first : DataW Unit := Go.Pinned.utf8First

/-- 'laws.FnExactParseDeed': WHATEVER THE INPUT: true; the input reads as it did. -/
def fnExactParseDeedSpec : ChangeSpec := { name := "fnExactParseDeed", fn := fun _ => fun
  | [d] => { results := [.lit (.bool true)], args := [d] }
  | _ => none }
def fnExactParseDeedRow : OpenClaim := { program := "ytdejncnjaebjfaadoor", sum := "77e0d996697da4a2a2d9ba719ec375484a5ecc36ae93c43cb7f6325488772d63", func := "loop.example/g00097/laws.FnExactParseDeed", spec := "fnExactParseDeed", inPlace := ["internal/bytealg.CountString", "internal/bytealg.IndexByteString", "internal/bytealg.IndexString"], recurses := true, named := ["unicode/utf8.first", "unicode/utf8.acceptRanges", "internal/bytealg.MaxLen"], apart := false, laid := [("unicode/utf8.acceptRanges", laid_unicode_utf8_acceptRanges), ("unicode/utf8.first", laid_unicode_utf8_first)] }
def FnExactParseDeedSaid : Prop := fnExactParseDeedRow.holds Tryd.pinned (OpenSpec.ofChange fnExactParseDeedSpec)

/-- ITS FALSE NEIGHBOUR: 'it returns false'. Refute it at one input. -/
def fnExactParseDeedWrong : ChangeSpec := { name := "fnExactParseDeed", fn := fun _ => fun
  | [d] => { results := [.lit (.bool false)], args := [d] }
  | _ => none }
def FnExactParseDeedWrongFalsely : Prop := fnExactParseDeedRow.holds Tryd.pinned (OpenSpec.ofChange fnExactParseDeedWrong)

/-- 'laws.FnExactParseScript': WHATEVER THE INPUT: true; the input reads as it did. -/
def fnExactParseScriptSpec : ChangeSpec := { name := "fnExactParseScript", fn := fun _ => fun
  | [d] => { results := [.lit (.bool true)], args := [d] }
  | _ => none }
def fnExactParseScriptRow : OpenClaim := { program := "ytdejncnjaebjfaadoor", sum := "77e0d996697da4a2a2d9ba719ec375484a5ecc36ae93c43cb7f6325488772d63", func := "loop.example/g00097/laws.FnExactParseScript", spec := "fnExactParseScript", inPlace := ["internal/bytealg.IndexByteString", "internal/bytealg.IndexString", "internal/bytealg.CountString"], recurses := true, named := ["internal/bytealg.MaxLen", "unicode/utf8.first", "unicode/utf8.acceptRanges"], apart := false, laid := [("unicode/utf8.acceptRanges", laid_unicode_utf8_acceptRanges), ("unicode/utf8.first", laid_unicode_utf8_first)] }
def FnExactParseScriptSaid : Prop := fnExactParseScriptRow.holds Tryd.pinned (OpenSpec.ofChange fnExactParseScriptSpec)

/-- ITS FALSE NEIGHBOUR: 'it returns false'. Refute it at one input. -/
def fnExactParseScriptWrong : ChangeSpec := { name := "fnExactParseScript", fn := fun _ => fun
  | [d] => { results := [.lit (.bool false)], args := [d] }
  | _ => none }
def FnExactParseScriptWrongFalsely : Prop := fnExactParseScriptRow.holds Tryd.pinned (OpenSpec.ofChange fnExactParseScriptWrong)

/-- 'laws.FnScript18': WHATEVER THE INPUT: true; the input reads as it did. -/
def fnScript18Spec : ChangeSpec := { name := "fnScript18", fn := fun _ => fun
  | [d] => { results := [.lit (.bool true)], args := [d] }
  | _ => none }
def fnScript18Row : OpenClaim := { program := "ytdejncnjaebjfaadoor", sum := "77e0d996697da4a2a2d9ba719ec375484a5ecc36ae93c43cb7f6325488772d63", func := "loop.example/g00097/laws.FnScript18", spec := "fnScript18", inPlace := ["internal/bytealg.IndexByteString", "internal/bytealg.IndexString", "internal/bytealg.CountString"], recurses := true, named := ["internal/bytealg.MaxLen", "unicode/utf8.first", "unicode/utf8.acceptRanges"], apart := false, laid := [("unicode/utf8.acceptRanges", laid_unicode_utf8_acceptRanges), ("unicode/utf8.first", laid_unicode_utf8_first)] }
def FnScript18Said : Prop := fnScript18Row.holds Tryd.pinned (OpenSpec.ofChange fnScript18Spec)

/-- ITS FALSE NEIGHBOUR: 'it returns false'. Refute it at one input. -/
def fnScript18Wrong : ChangeSpec := { name := "fnScript18", fn := fun _ => fun
  | [d] => { results := [.lit (.bool false)], args := [d] }
  | _ => none }
def FnScript18WrongFalsely : Prop := fnScript18Row.holds Tryd.pinned (OpenSpec.ofChange fnScript18Wrong)

/-- 'laws.FnLine18': WHATEVER THE INPUT: true; the input reads as it did. -/
def fnLine18Spec : ChangeSpec := { name := "fnLine18", fn := fun _ => fun
  | [d] => { results := [.lit (.bool true)], args := [d] }
  | _ => none }
def fnLine18Row : OpenClaim := { program := "ytdejncnjaebjfaadoor", sum := "77e0d996697da4a2a2d9ba719ec375484a5ecc36ae93c43cb7f6325488772d63", func := "loop.example/g00097/laws.FnLine18", spec := "fnLine18", inPlace := ["internal/bytealg.CountString", "internal/bytealg.IndexByteString", "internal/bytealg.IndexString"], recurses := true, named := ["unicode/utf8.first", "unicode/utf8.acceptRanges", "internal/bytealg.MaxLen"], apart := false, laid := [("unicode/utf8.acceptRanges", laid_unicode_utf8_acceptRanges), ("unicode/utf8.first", laid_unicode_utf8_first)] }
def FnLine18Said : Prop := fnLine18Row.holds Tryd.pinned (OpenSpec.ofChange fnLine18Spec)

/-- ITS FALSE NEIGHBOUR: 'it returns false'. Refute it at one input. -/
def fnLine18Wrong : ChangeSpec := { name := "fnLine18", fn := fun _ => fun
  | [d] => { results := [.lit (.bool false)], args := [d] }
  | _ => none }
def FnLine18WrongFalsely : Prop := fnLine18Row.holds Tryd.pinned (OpenSpec.ofChange fnLine18Wrong)

/- THE SECOND FORM. 'bulk': how many values and letters a reading holds, each counted each time it is reached (what is shared counts as often as it is met; a slice's spare places count too). A statement '..UptoSaid' is the law's where the arguments, and the package variables that the reading takes, are together of bulk at most 1048576: NARROWER than '..Said'. Prove '..Said' where nothing that the law and all that it calls make is longer than what came in: it says more and counts as full. Else prove '..UptoSaid'. A law counts once. -/
mutual
def uptoBulk {H : Type} : DataW H → Nat
  | .lit (.string bytes) => bytes.length + 1
  | .lit _ => 1
  | .nil => 1
  | .ptr d => uptoBulk d + 1
  | .slice elems spare => uptoBulkAll elems + uptoBulkAll spare + 1
  | .agg parts => uptoBulkAll parts + 1
  | .iface _ d => uptoBulk d + 1
  | .map entries => uptoBulkEntries entries + 1
  | .held _ => 1
def uptoBulkAll {H : Type} : List (DataW H) → Nat
  | [] => 0
  | d :: r => uptoBulk d + uptoBulkAll r
def uptoBulkEntries {H : Type} : List (Lit × DataW H) → Nat
  | [] => 0
  | x :: r => uptoBulkEntry x + uptoBulkEntries r
def uptoBulkEntry {H : Type} : Lit × DataW H → Nat
  | (.string bytes, d) => bytes.length + uptoBulk d + 1
  | (_, d) => uptoBulk d + 1
 end
def uptoSmall : (H : Type) → List (DataW H) → Bool := fun _ ds => decide (uptoBulkAll ds ≤ 1048576)
def OpenSpec.upto (s : _root_.Go.ChangeSpec) : _root_.Go.OpenSpec := { _root_.Go.OpenSpec.ofChange s with cond := some uptoSmall }

/-- 'laws.FnExactParseDeed', WHERE WHAT IT READS IS OF BULK AT MOST 1048576: true; the input reads as it did. -/
def fnExactParseDeedUptoRow : OpenClaim := { program := "ytdejncnjaebjfaadoor", sum := "77e0d996697da4a2a2d9ba719ec375484a5ecc36ae93c43cb7f6325488772d63", func := "loop.example/g00097/laws.FnExactParseDeed", spec := "fnExactParseDeed", inPlace := ["internal/bytealg.CountString", "internal/bytealg.IndexByteString", "internal/bytealg.IndexString"], recurses := true, named := ["unicode/utf8.first", "unicode/utf8.acceptRanges", "internal/bytealg.MaxLen"], apart := false, laid := [("unicode/utf8.acceptRanges", laid_unicode_utf8_acceptRanges), ("unicode/utf8.first", laid_unicode_utf8_first)], narrowed := true }
def FnExactParseDeedUptoSaid : Prop := fnExactParseDeedUptoRow.holds Tryd.pinned (OpenSpec.upto fnExactParseDeedSpec)

/-- 'laws.FnExactParseScript', WHERE WHAT IT READS IS OF BULK AT MOST 1048576: true; the input reads as it did. -/
def fnExactParseScriptUptoRow : OpenClaim := { program := "ytdejncnjaebjfaadoor", sum := "77e0d996697da4a2a2d9ba719ec375484a5ecc36ae93c43cb7f6325488772d63", func := "loop.example/g00097/laws.FnExactParseScript", spec := "fnExactParseScript", inPlace := ["internal/bytealg.IndexByteString", "internal/bytealg.IndexString", "internal/bytealg.CountString"], recurses := true, named := ["internal/bytealg.MaxLen", "unicode/utf8.first", "unicode/utf8.acceptRanges"], apart := false, laid := [("unicode/utf8.acceptRanges", laid_unicode_utf8_acceptRanges), ("unicode/utf8.first", laid_unicode_utf8_first)], narrowed := true }
def FnExactParseScriptUptoSaid : Prop := fnExactParseScriptUptoRow.holds Tryd.pinned (OpenSpec.upto fnExactParseScriptSpec)

/-- 'laws.FnScript18', WHERE WHAT IT READS IS OF BULK AT MOST 1048576: true; the input reads as it did. -/
def fnScript18UptoRow : OpenClaim := { program := "ytdejncnjaebjfaadoor", sum := "77e0d996697da4a2a2d9ba719ec375484a5ecc36ae93c43cb7f6325488772d63", func := "loop.example/g00097/laws.FnScript18", spec := "fnScript18", inPlace := ["internal/bytealg.IndexByteString", "internal/bytealg.IndexString", "internal/bytealg.CountString"], recurses := true, named := ["internal/bytealg.MaxLen", "unicode/utf8.first", "unicode/utf8.acceptRanges"], apart := false, laid := [("unicode/utf8.acceptRanges", laid_unicode_utf8_acceptRanges), ("unicode/utf8.first", laid_unicode_utf8_first)], narrowed := true }
def FnScript18UptoSaid : Prop := fnScript18UptoRow.holds Tryd.pinned (OpenSpec.upto fnScript18Spec)

/-- 'laws.FnLine18', WHERE WHAT IT READS IS OF BULK AT MOST 1048576: true; the input reads as it did. -/
def fnLine18UptoRow : OpenClaim := { program := "ytdejncnjaebjfaadoor", sum := "77e0d996697da4a2a2d9ba719ec375484a5ecc36ae93c43cb7f6325488772d63", func := "loop.example/g00097/laws.FnLine18", spec := "fnLine18", inPlace := ["internal/bytealg.CountString", "internal/bytealg.IndexByteString", "internal/bytealg.IndexString"], recurses := true, named := ["unicode/utf8.first", "unicode/utf8.acceptRanges", "internal/bytealg.MaxLen"], apart := false, laid := [("unicode/utf8.acceptRanges", laid_unicode_utf8_acceptRanges), ("unicode/utf8.first", laid_unicode_utf8_first)], narrowed := true }
def FnLine18UptoSaid : Prop := fnLine18UptoRow.holds Tryd.pinned (OpenSpec.upto fnLine18Spec)

end Rows
end Go.Proofs.YtdejncnjaebjfaaDoor
