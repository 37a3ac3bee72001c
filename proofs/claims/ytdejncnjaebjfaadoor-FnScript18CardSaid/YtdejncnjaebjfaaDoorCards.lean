/-
  DERIVED. GIVEN WITH THE SEED: THE CARDS: each row of YtdejncnjaebjfaaDoorRows.lean that lists a variable, with what it lists TIED to the program's text (the seventh form; the later family's looks); each row that meets fmt, with fmt's text TOLD by the authors' own Lean function (tested against real Go, not proved from fmt's source: count such statements apart). THE CARD IS WHAT COUNTS. Prove the row's statement (the work); the ties are given (YtdejncnjaebjfaaDoorTie.lean); close each card by the builder's one call (the guide's Derived/Test/ToyasCard.lean, 'card_holds'). Laid BY PROGRAM, IN A SANDBOX (cutbox-door.mjs). By AI agents, Wed Nov 11 2026. No macro, syntax, notation, axiom, sorry.
-/
import Derived.Test.YtdejncnjaebjfaaDoorRows
import GoSem.ClaimSeven
namespace Go.Proofs.YtdejncnjaebjfaaDoor
namespace Rows

/-- THE TIED CARD OF 'laws.FnExactParseDeed'. -/
def fnExactParseDeedCard : Claim7 := { stood := { row := fnExactParseDeedRow, standIns := [], harness := (true, "7f84e3ea1deb75add6e3281bb3b6b7e2bd62a911825655a3a21a6afdb7d2a583"), looks := false }, kinds := [], alts := [], laidByText := true, laidKinds := [.data, .pinned], laidTests := true, laidLooks := .later }
def FnExactParseDeedCardSaid : Prop := Claim7.holds Tryd.pinned (.plain (OpenSpec.ofChange fnExactParseDeedSpec)) fnExactParseDeedCard

/-- THE TIED CARD OF 'laws.FnExactParseScript'. -/
def fnExactParseScriptCard : Claim7 := { stood := { row := fnExactParseScriptRow, standIns := [], harness := (true, "7f84e3ea1deb75add6e3281bb3b6b7e2bd62a911825655a3a21a6afdb7d2a583"), looks := false }, kinds := [], alts := [], laidByText := true, laidKinds := [.data, .pinned], laidTests := true, laidLooks := .later }
def FnExactParseScriptCardSaid : Prop := Claim7.holds Tryd.pinned (.plain (OpenSpec.ofChange fnExactParseScriptSpec)) fnExactParseScriptCard

/-- THE TIED CARD OF 'laws.FnScript18'. -/
def fnScript18Card : Claim7 := { stood := { row := fnScript18Row, standIns := [], harness := (true, "7f84e3ea1deb75add6e3281bb3b6b7e2bd62a911825655a3a21a6afdb7d2a583"), looks := false }, kinds := [], alts := [], laidByText := true, laidKinds := [.data, .pinned], laidTests := true, laidLooks := .later }
def FnScript18CardSaid : Prop := Claim7.holds Tryd.pinned (.plain (OpenSpec.ofChange fnScript18Spec)) fnScript18Card

/-- THE TIED CARD OF 'laws.FnLine18'. -/
def fnLine18Card : Claim7 := { stood := { row := fnLine18Row, standIns := [], harness := (true, "7f84e3ea1deb75add6e3281bb3b6b7e2bd62a911825655a3a21a6afdb7d2a583"), looks := false }, kinds := [], alts := [], laidByText := true, laidKinds := [.data, .pinned], laidTests := true, laidLooks := .later }
def FnLine18CardSaid : Prop := Claim7.holds Tryd.pinned (.plain (OpenSpec.ofChange fnLine18Spec)) fnLine18Card

/-- THE SECOND FORM's CARD OF 'laws.FnExactParseDeed'. -/
def fnExactParseDeedUptoCard : Claim7 := { stood := { row := fnExactParseDeedUptoRow, standIns := [], harness := (true, "7f84e3ea1deb75add6e3281bb3b6b7e2bd62a911825655a3a21a6afdb7d2a583"), looks := false }, kinds := [], alts := [], laidByText := true, laidKinds := [.data, .pinned], laidTests := true, laidLooks := .later }
def FnExactParseDeedUptoCardSaid : Prop := Claim7.holds Tryd.pinned (.plain (OpenSpec.upto fnExactParseDeedSpec)) fnExactParseDeedUptoCard

/-- THE SECOND FORM's CARD OF 'laws.FnExactParseScript'. -/
def fnExactParseScriptUptoCard : Claim7 := { stood := { row := fnExactParseScriptUptoRow, standIns := [], harness := (true, "7f84e3ea1deb75add6e3281bb3b6b7e2bd62a911825655a3a21a6afdb7d2a583"), looks := false }, kinds := [], alts := [], laidByText := true, laidKinds := [.data, .pinned], laidTests := true, laidLooks := .later }
def FnExactParseScriptUptoCardSaid : Prop := Claim7.holds Tryd.pinned (.plain (OpenSpec.upto fnExactParseScriptSpec)) fnExactParseScriptUptoCard

/-- THE SECOND FORM's CARD OF 'laws.FnScript18'. -/
def fnScript18UptoCard : Claim7 := { stood := { row := fnScript18UptoRow, standIns := [], harness := (true, "7f84e3ea1deb75add6e3281bb3b6b7e2bd62a911825655a3a21a6afdb7d2a583"), looks := false }, kinds := [], alts := [], laidByText := true, laidKinds := [.data, .pinned], laidTests := true, laidLooks := .later }
def FnScript18UptoCardSaid : Prop := Claim7.holds Tryd.pinned (.plain (OpenSpec.upto fnScript18Spec)) fnScript18UptoCard

/-- THE SECOND FORM's CARD OF 'laws.FnLine18'. -/
def fnLine18UptoCard : Claim7 := { stood := { row := fnLine18UptoRow, standIns := [], harness := (true, "7f84e3ea1deb75add6e3281bb3b6b7e2bd62a911825655a3a21a6afdb7d2a583"), looks := false }, kinds := [], alts := [], laidByText := true, laidKinds := [.data, .pinned], laidTests := true, laidLooks := .later }
def FnLine18UptoCardSaid : Prop := Claim7.holds Tryd.pinned (.plain (OpenSpec.upto fnLine18Spec)) fnLine18UptoCard
end Rows
end Go.Proofs.YtdejncnjaebjfaaDoor
