/-
 The law FnExactOnRequest: the row's step round the walk 'walk' (the text YthbbbhpjkgpdcaaGreatQL).
-/
import Derived.Test.YthbbbhpjkgpdcaaGreatOR1
import Derived.Test.YthbbbhpjkgpdcaaGreatOR2
import Derived.Test.YthbbbhpjkgpdcaaGreatOR3
import Derived.Test.YthbbbhpjkgpdcaaGreatOR4
import Derived.Test.YthbbbhpjkgpdcaaGreatOR5
import Derived.Test.YthbbbhpjkgpdcaaGreatOR6
import Derived.Test.YthbbbhpjkgpdcaaGreatOR7
import Derived.Test.YthbbbhpjkgpdcaaGreatOR8
import Derived.Test.YthbbbhpjkgpdcaaGreatRows
import Derived.WalkKit
import Derived.ProofKit
import Derived.OpenShut
import Derived.ShutString
import Derived.ChangeOld
import Derived.Below
set_option linter.unusedSimpArgs false
set_option linter.unusedVariables false
set_option linter.unusedSectionVars false
namespace Go.Proofs.YthbbbhpjkgpdcaaGreat.fnExactOnRequest
open Go.ChangeShapes Go.WideShapes Go.ChangeAt Go.RowKit
open Go.ChangeMaps (open_string shut_string)
theorem own:ownKnob Tryz.prog.godebug=none:=by kernel_rfl
theorem laidOut:laidOutB Tryz.prog=true:=by kernel_rfl
set_option maxRecDepth 100000 in
theorem lifted (os:Os) (started:os.Started) (H:Type) (enc:TypeId × Value→H) :
  ReturnsInHanded {} Tryz.checked os 3 .any (Rows.fnExactOnRequestSpec.pre6 enc Tryz.prog Tryz.f3 Rows.fnExactOnRequestRow.domain false) (Rows.fnExactOnRequestSpec.post enc Tryz.prog Tryz.f3 false true false false):=by
 refine returnsInHanded_of_change (C:=Tryz.checked) own started (by kernel_rfl) Tryz.func3
  (ChangeSpec.witness6 (enc:=enc) (C:=Tryz.checked) false ⟨#[],#[.agg #[.int .i64 0,.int .i64 0,.int .i64 0,.int .i64 0,.int .i64 0,.int .i64 0,.int .i64 0,.slice none 0 0,.slice none 0 0,.slice none 0 0,.slice none 0 0,.int .i64 0,.int .i64 0],.agg #[.int .i64 0,.int .i64 0,.int .i64 0,.int .i64 0,.int .i64 0,.int .i64 0,.int .i64 0,.int .i64 0,.int .i64 0,.int .i64 0,.int .i64 0,.int .i64 0,.int .i64 0,.int .i64 0,.slice none 0 0,.slice none 0 0,.slice none 0 0]],[]⟩ 8 (by kernel_rfl) (by kernel_rfl) (by kernel_rfl) (by kernel_rfl)) ?_
 intro W base args ds gs before hval0 hW hcnd _
 have hval:∀ (j:Nat) t v,Tryz.f3.params[j]?=some t→args[j]?=some v→Value.okWide Tryz.prog W .any base t v:=hval0
 have hW':=hW
 obtain ⟨p,q,hA0,hV,rfl,hfz,hnd⟩:=hW
 have hA:DataW.TrodAll enc Tryz.prog W 0 (fun _=>true) true Tryz.f3.params.toList args.toList ds p:=hA0
 rw [Tryz.params3] at hA hval
 obtain ⟨v0,vs0,d0,ds0,p0,q0,hargs,rfl,rfl,h0,r0⟩:=trodAll_cons hA
 obtain ⟨v1,vs1,d1,ds1,p1,q1,rfl,rfl,rfl,h1,r1⟩:=trodAll_cons r0
 obtain ⟨rfl,rfl,rfl⟩:=trodAll_nil r1
 obtain rfl:args = #[v0,v1]:=by cases args; simp_all
 obtain ⟨rfl,rfl⟩:=trodVars_none hV
 have k0:=h0
 have lt0:∀ x∈p0,x.block<W.heap.size:=by obtain ⟨m,hm⟩:=k0; exact DataW.trod_lt m _ _ _ hm
 have k1:=h1
 have lt1:∀ x∈p1,x.block<W.heap.size:=by obtain ⟨m,hm⟩:=k1; exact DataW.trod_lt m _ _ _ hm
 obtain ⟨x0,s0⟩:=arg_agg (row:=rLReplica) Tryz.underlying31 (by kernel_rfl) (by kernel_rfl) (hval 0 31 v0 rfl rfl) k0
 obtain ⟨x1,s1⟩:=arg_agg (row:=rLMsg) Tryz.underlying35 (by kernel_rfl) (by kernel_rfl) (hval 1 35 v1 rfl rfl) k1
 clear hA0 hval0
 have hs:SoundFn Tryz.prog 3 [⟨ag rLReplica,x0⟩,⟨ag rLMsg,x1⟩] ⟨rb,[.b true]⟩:=l_OnRequest_ok [⟨ag rLReplica,x0⟩,⟨ag rLMsg,x1⟩] ⟨rb,[.b true]⟩ (by kernel_rfl)
 refine (ev_walk hs (args_2 s0 s1)).mono fun e W' ⟨he,bel⟩=>?_
 subst he
 exact ⟨_,rfl,_,_,_,[],_,[],hW',trodAll_mk1 (shut_bool Tryz.underlying4 _),(trodAll_cons_mk (Below.trod laidOut (by kernel_rfl) (of_decide_eq_true (by kernel_rfl)) k0 bel lt0) (trodAll_cons_mk (Below.trod laidOut (by kernel_rfl) (of_decide_eq_true (by kernel_rfl)) k1 bel lt1) trodAll_mk0)),rfl,bel.frame _,fun h=>by cases h⟩
theorem j1:(Rows.fnExactOnRequestRow.wf (OpenSpec.ofChange Rows.fnExactOnRequestSpec))=true:=by kernel_rfl
theorem j2:(laidOutB Tryz.pinned.checked.prog)=true:=by kernel_rfl
theorem j3:(mapsRowed Tryz.pinned.checked.prog)=true:=by kernel_rfl
theorem j4:(Tryz.f3.params.all (Tryz.pinned.checked.prog.readableRec ·))=true:=by kernel_rfl
theorem j5:(namedTie Tryz.pinned.checked.prog Rows.fnExactOnRequestRow.named Rows.fnExactOnRequestSpec.vars)=true:=by kernel_rfl
theorem j6:((Rows.fnExactOnRequestRow.stops == []))=true:=by kernel_rfl
theorem j7:((Tryz.pinned.checked.prog.stops == []))=true:=by kernel_rfl
theorem j8:((Rows.fnExactOnRequestRow.knobs == []))=true:=by kernel_rfl
theorem j9:((Tryz.pinned.checked.prog.stopKnobs == []))=true:=by kernel_rfl
theorem j10:((Rows.fnExactOnRequestRow.inPlace==Tryz.pinned.checked.prog.inPlace 3))=true:=by kernel_rfl
theorem j11:((Rows.fnExactOnRequestRow.unfollowed==Tryz.pinned.checked.prog.unfollowed 3))=true:=by kernel_rfl
theorem j12:((Rows.fnExactOnRequestRow.recurses==Tryz.pinned.checked.prog.recurses 3))=true:=by kernel_rfl
theorem j13:((Rows.fnExactOnRequestRow.named==Tryz.pinned.checked.prog.varsNamed 3))=true:=by kernel_rfl
theorem j14:((Rows.fnExactOnRequestRow.maps==(Tryz.f3.params.toList++Rows.fnExactOnRequestSpec.plain.varTypes Tryz.pinned.checked.prog).any (Tryz.pinned.checked.prog.mapsRec ·)))=true:=by kernel_rfl
theorem j15:((Rows.fnExactOnRequestRow.ifaces==(Tryz.f3.params.toList++Rows.fnExactOnRequestSpec.plain.varTypes Tryz.pinned.checked.prog).any (Tryz.pinned.checked.prog.ifacesRec ·)))=true:=by kernel_rfl
theorem j16:((Rows.fnExactOnRequestRow.mapsOut==Tryz.pinned.checked.prog.mapsAmong Tryz.f3.resultTypes.toList))=true:=by kernel_rfl
theorem j17:((Rows.fnExactOnRequestRow.loops==(Tryz.f3.params.toList++Rows.fnExactOnRequestSpec.plain.varTypes Tryz.pinned.checked.prog).any (Tryz.pinned.checked.prog.loopsFrom ·)))=true:=by kernel_rfl
theorem j18:((Rows.fnExactOnRequestRow.wideKeys==(Tryz.f3.params.toList++Rows.fnExactOnRequestSpec.plain.varTypes Tryz.pinned.checked.prog++Tryz.f3.resultTypes.toList).any (Tryz.pinned.checked.prog.wideKeysFrom ·)))=true:=by kernel_rfl
theorem j19:(Rows.fnExactOnRequestSpec.vars.all (Tryz.pinned.checked.prog.varReadable ·))=true:=by kernel_rfl
theorem j20:(Tryz.f3.resultTypes.all (fun t=>Tryz.pinned.checked.prog.readableRec t&&decide (t<Tryz.pinned.checked.prog.types.size)))=true:=by kernel_rfl
theorem j21:((Rows.fnExactOnRequestRow.ifacesOut==Tryz.f3.resultTypes.toList.any (Tryz.pinned.checked.prog.ifacesRec ·)))=true:=by kernel_rfl
theorem j22:((Rows.fnExactOnRequestRow.loopsOut==Tryz.f3.resultTypes.toList.any (Tryz.pinned.checked.prog.loopsFrom ·)))=true:=by kernel_rfl
theorem j23:((Rows.fnExactOnRequestRow.plainKeys==Tryz.pinned.checked.prog.plainKeys))=true:=by kernel_rfl
theorem j24:(Rows.fnExactOnRequestRow.shortTexts.isNone)=true:=by kernel_rfl
theorem j25:(Tryz.pinned.checked.prog.stopsHeard)=true:=by kernel_rfl
theorem j26:(Tryz.pinned.checked.prog.mayEnter)=true:=by kernel_rfl
theorem j27:((Rows.fnExactOnRequestRow.lifted==Tryz.pinned.checked.prog.liftsFinal))=true:=by kernel_rfl
theorem j28:((Tryz.pinned.checked.prog.make==some Rows.fnExactOnRequestRow.make))=true:=by kernel_rfl
theorem j29:((Rows.fnExactOnRequestRow.kinds==(if Rows.fnExactOnRequestRow.domain.isEmpty then [] else Tryz.f3.params.toList.map fun t=>match Tryz.pinned.checked.prog.underlying t with | some (.int k)=>some k | _=>none)))=true:=by kernel_rfl
theorem j30:((Rows.fnExactOnRequestRow.pinned==Rows.fnExactOnRequestRow.pinnedBy))=true:=by kernel_rfl
theorem j31:((Rows.fnExactOnRequestRow.veiled==(Tryz.f3.params.toList++Rows.fnExactOnRequestSpec.plain.varTypes Tryz.pinned.checked.prog++Tryz.f3.resultTypes.toList).any (Tryz.pinned.checked.prog.veiledRec ·)))=true:=by kernel_rfl
theorem j32:(Rows.fnExactOnRequestRow.veiledFits Tryz.pinned.checked.prog Tryz.f3.params.toList (Tryz.f3.params.toList++Rows.fnExactOnRequestSpec.plain.varTypes Tryz.pinned.checked.prog++Tryz.f3.resultTypes.toList))=true:=by kernel_rfl
theorem and_i {a b:Bool} (ha:a=true) (hb:b=true):(a&&b)=true:=by rw [ha,hb]; rfl
set_option maxRecDepth 100000 in
theorem joined:joinedFacts Tryz.pinned.checked.prog 3 Tryz.f3 Rows.fnExactOnRequestSpec Rows.fnExactOnRequestRow=true:=by
 unfold joinedFacts
 exact (and_i (and_i (and_i (and_i (and_i (and_i (and_i (and_i (and_i (and_i (and_i (and_i (and_i (and_i (and_i (and_i (and_i (and_i (and_i (and_i (and_i (and_i (and_i (and_i (and_i (and_i (and_i (and_i (and_i (and_i (and_i j1 j2) j3) j4) j5) j6) j7) j8) j9) j10) j11) j12) j13) j14) j15) j16) j17) j18) j19) j20) j21) j22) j23) j24) j25) j26) j27) j28) j29) j30) j31) j32)
theorem fnamed:Tryz.pinned.checked.prog.funcNamed Rows.fnExactOnRequestRow.func=some 3:=by kernel_rfl
theorem isI:Func.isInstance Tryz.pinned.checked.prog Tryz.f3 Rows.fnExactOnRequestRow.origin Rows.fnExactOnRequestRow.targs:=of_decide_eq_true (by kernel_rfl)
theorem isW:Func.isWrapper Tryz.pinned.checked.prog Tryz.f3 Rows.fnExactOnRequestRow.wrapper Rows.fnExactOnRequestRow.mainSum:=by unfold Func.isWrapper; first | (rw [if_pos (by decide +kernel)]; kernel_rfl) | (rw [if_neg (by decide +kernel)]; exact ⟨rfl,rfl⟩)
theorem over:Rows.fnExactOnRequestRow.holds Tryz.pinned (OpenSpec.ofChange Rows.fnExactOnRequestSpec):=
 OpenClaim.holds_of_wide 3 Tryz.f3 rfl rfl rfl rfl rfl rfl rfl ⟨rfl,rfl,rfl,rfl,rfl⟩ rfl rfl rfl rfl rfl fnamed Tryz.func3 joined
  isI isW
  (fun os started H enc _=>lifted os started H enc)
theorem proved:Rows.FnExactOnRequestSaid:=over
#print axioms proved
end Go.Proofs.YthbbbhpjkgpdcaaGreat.fnExactOnRequest
