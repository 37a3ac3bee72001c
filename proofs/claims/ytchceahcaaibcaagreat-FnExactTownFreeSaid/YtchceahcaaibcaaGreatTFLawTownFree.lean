/-
 The law FnExactTownFree: the row's step round the walk 'walk' (the text YtchceahcaaibcaaGreatTL10).
-/
import Derived.Test.YtchceahcaaibcaaGreatTF1
import Derived.Test.YtchceahcaaibcaaGreatTF2
import Derived.Test.YtchceahcaaibcaaGreatTF3
import Derived.Test.YtchceahcaaibcaaGreatTF4
import Derived.Test.YtchceahcaaibcaaGreatTF5
import Derived.Test.YtchceahcaaibcaaGreatTF6
import Derived.Test.YtchceahcaaibcaaGreatTF7
import Derived.Test.YtchceahcaaibcaaGreatRows
import Derived.WalkKit
import Derived.ProofKit
import Derived.OpenShut
import Derived.ShutString
import Derived.ChangeOld
import Derived.Below
set_option linter.unusedSimpArgs false
set_option linter.unusedVariables false
set_option linter.unusedSectionVars false
namespace Go.Proofs.YtchceahcaaibcaaGreat.fnExactTownFree
open Go.ChangeShapes Go.WideShapes Go.ChangeAt Go.RowKit
open Go.ChangeMaps (open_string shut_string)
theorem own:ownKnob Tryz.prog.godebug=none:=by kernel_rfl
theorem laidOut:laidOutB Tryz.prog=true:=by kernel_rfl
set_option maxRecDepth 100000 in
theorem lifted (os:Os) (started:os.Started) (H:Type) (enc:TypeId × Value→H) :
  ReturnsInHanded {} Tryz.checked os 10 .any (Rows.fnExactTownFreeSpec.pre6 enc Tryz.prog Tryz.f10 Rows.fnExactTownFreeRow.domain false) (Rows.fnExactTownFreeSpec.post enc Tryz.prog Tryz.f10 false true false false):=by
 refine returnsInHanded_of_change (C:=Tryz.checked) own started (by kernel_rfl) Tryz.func10
  (ChangeSpec.witness6 (enc:=enc) (C:=Tryz.checked) false ⟨#[],#[.agg #[.int .i64 0,.slice none 0 0,.int .i64 0,.int .i64 0,.int .i64 0,.int .i64 0,.int .i64 0,.int .i64 0,.slice none 0 0,.slice none 0 0,.slice none 0 0,.slice none 0 0,.slice none 0 0,.slice none 0 0,.slice none 0 0],.int .i64 0],[]⟩ 8 (by kernel_rfl) (by kernel_rfl) (by kernel_rfl) (by kernel_rfl)) ?_
 intro W base args ds gs before hval0 hW hcnd _
 have hval:∀ (j:Nat) t v,Tryz.f10.params[j]?=some t→args[j]?=some v→Value.okWide Tryz.prog W .any base t v:=hval0
 have hW':=hW
 obtain ⟨p,q,hA0,hV,rfl,hfz,hnd⟩:=hW
 have hA:DataW.TrodAll enc Tryz.prog W 0 (fun _=>true) true Tryz.f10.params.toList args.toList ds p:=hA0
 rw [Tryz.params10] at hA hval
 obtain ⟨v0,vs0,d0,ds0,p0,q0,hargs,rfl,rfl,h0,r0⟩:=trodAll_cons hA
 obtain ⟨v1,vs1,d1,ds1,p1,q1,rfl,rfl,rfl,h1,r1⟩:=trodAll_cons r0
 obtain ⟨rfl,rfl,rfl⟩:=trodAll_nil r1
 obtain rfl:args = #[v0,v1]:=by cases args; simp_all
 obtain ⟨rfl,rfl⟩:=trodVars_none hV
 have k0:=h0
 have lt0:∀ x∈p0,x.block<W.heap.size:=by obtain ⟨m,hm⟩:=k0; exact DataW.trod_lt m _ _ _ hm
 have k1:=h1
 have lt1:∀ x∈p1,x.block<W.heap.size:=by obtain ⟨m,hm⟩:=k1; exact DataW.trod_lt m _ _ _ hm
 obtain ⟨x0,s0⟩:=arg_agg (row:=rLTown) Tryz.underlying37 (by kernel_rfl) (by kernel_rfl) (hval 0 37 v0 rfl rfl) k0
 obtain ⟨a1,rfl⟩:=okWide_int Tryz.underlying3 (hval 1 3 v1 rfl rfl)
 obtain ⟨x1,s1⟩:=arg_one (T:=3) (s:=si) (by kernel_rfl) (by kernel_rfl) rfl k1
 clear hA0 hval0
 have hs:SoundFn Tryz.prog 10 [⟨ag rLTown,x0⟩,⟨ri,x1⟩] ⟨rb,[.b true]⟩:=l_TownFree_ok [⟨ag rLTown,x0⟩,⟨ri,x1⟩] ⟨rb,[.b true]⟩ (by kernel_rfl)
 refine (ev_walk hs (args_2 s0 s1)).mono fun e W' ⟨he,bel⟩=>?_
 subst he
 exact ⟨_,rfl,_,_,_,[],_,[],hW',trodAll_mk1 (shut_bool Tryz.underlying4 _),(trodAll_cons_mk (Below.trod laidOut (by kernel_rfl) (of_decide_eq_true (by kernel_rfl)) k0 bel lt0) (trodAll_cons_mk (Below.trod laidOut (by kernel_rfl) (of_decide_eq_true (by kernel_rfl)) k1 bel lt1) trodAll_mk0)),rfl,bel.frame _,fun h=>by cases h⟩
theorem j1:(Rows.fnExactTownFreeRow.wf (OpenSpec.ofChange Rows.fnExactTownFreeSpec))=true:=by kernel_rfl
theorem j2:(laidOutB Tryz.pinned.checked.prog)=true:=by kernel_rfl
theorem j3:(mapsRowed Tryz.pinned.checked.prog)=true:=by kernel_rfl
theorem j4:(Tryz.f10.params.all (Tryz.pinned.checked.prog.readableRec ·))=true:=by kernel_rfl
theorem j5:(namedTie Tryz.pinned.checked.prog Rows.fnExactTownFreeRow.named Rows.fnExactTownFreeSpec.vars)=true:=by kernel_rfl
theorem j6:((Rows.fnExactTownFreeRow.stops == []))=true:=by kernel_rfl
theorem j7:((Tryz.pinned.checked.prog.stops == []))=true:=by kernel_rfl
theorem j8:((Rows.fnExactTownFreeRow.knobs == []))=true:=by kernel_rfl
theorem j9:((Tryz.pinned.checked.prog.stopKnobs == []))=true:=by kernel_rfl
theorem j10:((Rows.fnExactTownFreeRow.inPlace==Tryz.pinned.checked.prog.inPlace 10))=true:=by kernel_rfl
theorem j11:((Rows.fnExactTownFreeRow.unfollowed==Tryz.pinned.checked.prog.unfollowed 10))=true:=by kernel_rfl
theorem j12:((Rows.fnExactTownFreeRow.recurses==Tryz.pinned.checked.prog.recurses 10))=true:=by kernel_rfl
theorem j13:((Rows.fnExactTownFreeRow.named==Tryz.pinned.checked.prog.varsNamed 10))=true:=by kernel_rfl
theorem j14:((Rows.fnExactTownFreeRow.maps==(Tryz.f10.params.toList++Rows.fnExactTownFreeSpec.plain.varTypes Tryz.pinned.checked.prog).any (Tryz.pinned.checked.prog.mapsRec ·)))=true:=by kernel_rfl
theorem j15:((Rows.fnExactTownFreeRow.ifaces==(Tryz.f10.params.toList++Rows.fnExactTownFreeSpec.plain.varTypes Tryz.pinned.checked.prog).any (Tryz.pinned.checked.prog.ifacesRec ·)))=true:=by kernel_rfl
theorem j16:((Rows.fnExactTownFreeRow.mapsOut==Tryz.pinned.checked.prog.mapsAmong Tryz.f10.resultTypes.toList))=true:=by kernel_rfl
theorem j17:((Rows.fnExactTownFreeRow.loops==(Tryz.f10.params.toList++Rows.fnExactTownFreeSpec.plain.varTypes Tryz.pinned.checked.prog).any (Tryz.pinned.checked.prog.loopsFrom ·)))=true:=by kernel_rfl
theorem j18:((Rows.fnExactTownFreeRow.wideKeys==(Tryz.f10.params.toList++Rows.fnExactTownFreeSpec.plain.varTypes Tryz.pinned.checked.prog++Tryz.f10.resultTypes.toList).any (Tryz.pinned.checked.prog.wideKeysFrom ·)))=true:=by kernel_rfl
theorem j19:(Rows.fnExactTownFreeSpec.vars.all (Tryz.pinned.checked.prog.varReadable ·))=true:=by kernel_rfl
theorem j20:(Tryz.f10.resultTypes.all (fun t=>Tryz.pinned.checked.prog.readableRec t&&decide (t<Tryz.pinned.checked.prog.types.size)))=true:=by kernel_rfl
theorem j21:((Rows.fnExactTownFreeRow.ifacesOut==Tryz.f10.resultTypes.toList.any (Tryz.pinned.checked.prog.ifacesRec ·)))=true:=by kernel_rfl
theorem j22:((Rows.fnExactTownFreeRow.loopsOut==Tryz.f10.resultTypes.toList.any (Tryz.pinned.checked.prog.loopsFrom ·)))=true:=by kernel_rfl
theorem j23:((Rows.fnExactTownFreeRow.plainKeys==Tryz.pinned.checked.prog.plainKeys))=true:=by kernel_rfl
theorem j24:(Rows.fnExactTownFreeRow.shortTexts.isNone)=true:=by kernel_rfl
theorem j25:(Tryz.pinned.checked.prog.stopsHeard)=true:=by kernel_rfl
theorem j26:(Tryz.pinned.checked.prog.mayEnter)=true:=by kernel_rfl
theorem j27:((Rows.fnExactTownFreeRow.lifted==Tryz.pinned.checked.prog.liftsFinal))=true:=by kernel_rfl
theorem j28:((Tryz.pinned.checked.prog.make==some Rows.fnExactTownFreeRow.make))=true:=by kernel_rfl
theorem j29:((Rows.fnExactTownFreeRow.kinds==(if Rows.fnExactTownFreeRow.domain.isEmpty then [] else Tryz.f10.params.toList.map fun t=>match Tryz.pinned.checked.prog.underlying t with | some (.int k)=>some k | _=>none)))=true:=by kernel_rfl
theorem j30:((Rows.fnExactTownFreeRow.pinned==Rows.fnExactTownFreeRow.pinnedBy))=true:=by kernel_rfl
theorem j31:((Rows.fnExactTownFreeRow.veiled==(Tryz.f10.params.toList++Rows.fnExactTownFreeSpec.plain.varTypes Tryz.pinned.checked.prog++Tryz.f10.resultTypes.toList).any (Tryz.pinned.checked.prog.veiledRec ·)))=true:=by kernel_rfl
theorem j32:(Rows.fnExactTownFreeRow.veiledFits Tryz.pinned.checked.prog Tryz.f10.params.toList (Tryz.f10.params.toList++Rows.fnExactTownFreeSpec.plain.varTypes Tryz.pinned.checked.prog++Tryz.f10.resultTypes.toList))=true:=by kernel_rfl
theorem and_i {a b:Bool} (ha:a=true) (hb:b=true):(a&&b)=true:=by rw [ha,hb]; rfl
set_option maxRecDepth 100000 in
theorem joined:joinedFacts Tryz.pinned.checked.prog 10 Tryz.f10 Rows.fnExactTownFreeSpec Rows.fnExactTownFreeRow=true:=by
 unfold joinedFacts
 exact (and_i (and_i (and_i (and_i (and_i (and_i (and_i (and_i (and_i (and_i (and_i (and_i (and_i (and_i (and_i (and_i (and_i (and_i (and_i (and_i (and_i (and_i (and_i (and_i (and_i (and_i (and_i (and_i (and_i (and_i (and_i j1 j2) j3) j4) j5) j6) j7) j8) j9) j10) j11) j12) j13) j14) j15) j16) j17) j18) j19) j20) j21) j22) j23) j24) j25) j26) j27) j28) j29) j30) j31) j32)
theorem fnamed:Tryz.pinned.checked.prog.funcNamed Rows.fnExactTownFreeRow.func=some 10:=by kernel_rfl
theorem isI:Func.isInstance Tryz.pinned.checked.prog Tryz.f10 Rows.fnExactTownFreeRow.origin Rows.fnExactTownFreeRow.targs:=of_decide_eq_true (by kernel_rfl)
theorem isW:Func.isWrapper Tryz.pinned.checked.prog Tryz.f10 Rows.fnExactTownFreeRow.wrapper Rows.fnExactTownFreeRow.mainSum:=by unfold Func.isWrapper; first | (rw [if_pos (by decide +kernel)]; kernel_rfl) | (rw [if_neg (by decide +kernel)]; exact ⟨rfl,rfl⟩)
theorem over:Rows.fnExactTownFreeRow.holds Tryz.pinned (OpenSpec.ofChange Rows.fnExactTownFreeSpec):=
 OpenClaim.holds_of_wide 10 Tryz.f10 rfl rfl rfl rfl rfl rfl rfl ⟨rfl,rfl,rfl,rfl,rfl⟩ rfl rfl rfl rfl rfl fnamed Tryz.func10 joined
  isI isW
  (fun os started H enc _=>lifted os started H enc)
theorem proved:Rows.FnExactTownFreeSaid:=over
#print axioms proved
end Go.Proofs.YtchceahcaaibcaaGreat.fnExactTownFree
