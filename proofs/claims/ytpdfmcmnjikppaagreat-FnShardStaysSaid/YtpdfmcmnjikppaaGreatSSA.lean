/-
 The closed facts of the row.
-/
import Derived.Test.YtpdfmcmnjikppaaGreatRows
import Derived.WalkKit
import Derived.ProofKit
import Derived.OpenShut
import Derived.ShutString
import Derived.ChangeOld
import Derived.Below
set_option linter.unusedSimpArgs false
set_option linter.unusedVariables false
set_option linter.unusedSectionVars false
namespace Go.Proofs.YtpdfmcmnjikppaaGreat.fnShardStays
open Go.ChangeShapes Go.WideShapes Go.ChangeAt Go.RowKit
open Go.ChangeMaps (open_string shut_string)
noncomputable abbrev aQ0:=Rows.fnShardStaysRow
noncomputable abbrev aQ1:=Tryz.pinned.checked.prog
noncomputable abbrev aQ2:=Rows.fnShardStaysSpec
theorem own:ownKnob Tryz.prog.godebug=none:=by kernel_rfl
theorem laidOut:laidOutB Tryz.prog=true:=by kernel_rfl
theorem j1:(aQ0.wf (OpenSpec.ofChange aQ2))=true:=by kernel_rfl
theorem j2:(laidOutB aQ1)=true:=by kernel_rfl
theorem j3:(mapsRowed aQ1)=true:=by kernel_rfl
theorem j4:(Tryz.f6.params.all (aQ1.readableRec ·))=true:=by kernel_rfl
theorem j5:(namedTie aQ1 aQ0.named aQ2.vars)=true:=by kernel_rfl
theorem j6:((aQ0.stops == []))=true:=by kernel_rfl
theorem j7:((aQ1.stops == []))=true:=by kernel_rfl
theorem j8:((aQ0.knobs == []))=true:=by kernel_rfl
theorem j9:((aQ1.stopKnobs == []))=true:=by kernel_rfl
theorem j10:((aQ0.inPlace==aQ1.inPlace 6))=true:=by kernel_rfl
theorem j11:((aQ0.unfollowed==aQ1.unfollowed 6))=true:=by kernel_rfl
theorem j12:((aQ0.recurses==aQ1.recurses 6))=true:=by kernel_rfl
theorem j13:((aQ0.named==aQ1.varsNamed 6))=true:=by kernel_rfl
theorem j14:((aQ0.maps==(Tryz.f6.params.toList++aQ2.plain.varTypes aQ1).any (aQ1.mapsRec ·)))=true:=by kernel_rfl
theorem j15:((aQ0.ifaces==(Tryz.f6.params.toList++aQ2.plain.varTypes aQ1).any (aQ1.ifacesRec ·)))=true:=by kernel_rfl
theorem j16:((aQ0.mapsOut==aQ1.mapsAmong Tryz.f6.resultTypes.toList))=true:=by kernel_rfl
theorem j17:((aQ0.loops==(Tryz.f6.params.toList++aQ2.plain.varTypes aQ1).any (aQ1.loopsFrom ·)))=true:=by kernel_rfl
theorem j18:((aQ0.wideKeys==(Tryz.f6.params.toList++aQ2.plain.varTypes aQ1++Tryz.f6.resultTypes.toList).any (aQ1.wideKeysFrom ·)))=true:=by kernel_rfl
theorem j19:(aQ2.vars.all (aQ1.varReadable ·))=true:=by kernel_rfl
theorem j20:(Tryz.f6.resultTypes.all (fun t=>aQ1.readableRec t&&decide (t<aQ1.types.size)))=true:=by kernel_rfl
theorem j21:((aQ0.ifacesOut==Tryz.f6.resultTypes.toList.any (aQ1.ifacesRec ·)))=true:=by kernel_rfl
theorem j22:((aQ0.loopsOut==Tryz.f6.resultTypes.toList.any (aQ1.loopsFrom ·)))=true:=by kernel_rfl
theorem j23:((aQ0.plainKeys==aQ1.plainKeys))=true:=by kernel_rfl
theorem j24:(aQ0.shortTexts.isNone)=true:=by kernel_rfl
theorem j25:(aQ1.stopsHeard)=true:=by kernel_rfl
theorem j26:(aQ1.mayEnter)=true:=by kernel_rfl
theorem j27:((aQ0.lifted==aQ1.liftsFinal))=true:=by kernel_rfl
theorem j28:((aQ1.make==some aQ0.make))=true:=by kernel_rfl
theorem j29:((aQ0.kinds==(if aQ0.domain.isEmpty then [] else Tryz.f6.params.toList.map fun t=>match aQ1.underlying t with | some (.int k)=>some k | _=>none)))=true:=by kernel_rfl
theorem j30:((aQ0.pinned==aQ0.pinnedBy))=true:=by kernel_rfl
theorem j31:((aQ0.veiled==(Tryz.f6.params.toList++aQ2.plain.varTypes aQ1++Tryz.f6.resultTypes.toList).any (aQ1.veiledRec ·)))=true:=by kernel_rfl
theorem j32:(aQ0.veiledFits aQ1 Tryz.f6.params.toList (Tryz.f6.params.toList++aQ2.plain.varTypes aQ1++Tryz.f6.resultTypes.toList))=true:=by kernel_rfl
theorem and_i {a b:Bool} (ha:a=true) (hb:b=true):(a&&b)=true:=by rw [ha,hb]; rfl
set_option maxRecDepth 100000 in
theorem joined:joinedFacts aQ1 6 Tryz.f6 aQ2 aQ0=true:=by
 unfold joinedFacts
 exact (and_i (and_i (and_i (and_i (and_i (and_i (and_i (and_i (and_i (and_i (and_i (and_i (and_i (and_i (and_i (and_i (and_i (and_i (and_i (and_i (and_i (and_i (and_i (and_i (and_i (and_i (and_i (and_i (and_i (and_i (and_i j1 j2) j3) j4) j5) j6) j7) j8) j9) j10) j11) j12) j13) j14) j15) j16) j17) j18) j19) j20) j21) j22) j23) j24) j25) j26) j27) j28) j29) j30) j31) j32)
theorem fnamed:aQ1.funcNamed aQ0.func=some 6:=by kernel_rfl
theorem isI:Func.isInstance aQ1 Tryz.f6 aQ0.origin aQ0.targs:=of_decide_eq_true (by kernel_rfl)
theorem isW:Func.isWrapper aQ1 Tryz.f6 aQ0.wrapper aQ0.mainSum:=by unfold Func.isWrapper; first | (rw [if_pos (by decide +kernel)]; kernel_rfl) | (rw [if_neg (by decide +kernel)]; exact ⟨rfl,rfl⟩)
end Go.Proofs.YtpdfmcmnjikppaaGreat.fnShardStays
