/-
 The law FnExactShardFreeze: the row's step round the walk 'walk' (the text YtpdfmcmnjikppaaGreatTL13).
-/
import Derived.Test.YtpdfmcmnjikppaaGreatSF1
import Derived.Test.YtpdfmcmnjikppaaGreatSF2
import Derived.Test.YtpdfmcmnjikppaaGreatSF3
import Derived.Test.YtpdfmcmnjikppaaGreatSF4
import Derived.Test.YtpdfmcmnjikppaaGreatSF5
import Derived.Test.YtpdfmcmnjikppaaGreatSF6
import Derived.Test.YtpdfmcmnjikppaaGreatSF7
import Derived.Test.YtpdfmcmnjikppaaGreatRows
import Derived.WalkKit
import Derived.ProofKit
import Derived.OpenShut
import Derived.ShutString
import Derived.ChangeOld
import Derived.Below
set_option linter.unusedSimpArgs false
set_option linter.unusedVariables false
set_option linter.unusedSectionVars false
namespace Go.Proofs.YtpdfmcmnjikppaaGreat.fnExactShardFreeze
open Go.ChangeShapes Go.WideShapes Go.ChangeAt Go.RowKit
open Go.ChangeMaps (open_string shut_string)
theorem own:ownKnob Tryz.prog.godebug=none:=by kernel_rfl
theorem laidOut:laidOutB Tryz.prog=true:=by kernel_rfl
set_option maxRecDepth 100000 in
theorem lifted (os:Os) (started:os.Started) (H:Type) (enc:TypeId × Value→H) :
  ReturnsInHanded {} Tryz.checked os 3 .any (Rows.fnExactShardFreezeSpec.pre6 enc Tryz.prog Tryz.f3 Rows.fnExactShardFreezeRow.domain false) (Rows.fnExactShardFreezeSpec.post enc Tryz.prog Tryz.f3 false true false false):=by
 refine returnsInHanded_of_change (C:=Tryz.checked) own started (by kernel_rfl) Tryz.func3
  (ChangeSpec.witness6 (enc:=enc) (C:=Tryz.checked) false ⟨#[],#[.agg #[.int .i64 0,.slice none 0 0,.slice none 0 0,.slice none 0 0,.slice none 0 0,.slice none 0 0,.slice none 0 0,.slice none 0 0,.int .i64 0],.int .i64 0,.agg #[.int .i64 0,.int .i64 0]],[]⟩ 8 (by kernel_rfl) (by kernel_rfl) (by kernel_rfl) (by kernel_rfl)) ?_
 intro W base args ds gs before hval0 hW hcnd _
 have hval:∀ (j:Nat) t v,Tryz.f3.params[j]?=some t→args[j]?=some v→Value.okWide Tryz.prog W .any base t v:=hval0
 have hW':=hW
 obtain ⟨p,q,hA0,hV,rfl,hfz,hnd⟩:=hW
 have hA:DataW.TrodAll enc Tryz.prog W 0 (fun _=>true) true Tryz.f3.params.toList args.toList ds p:=hA0
 rw [Tryz.params3] at hA hval
 obtain ⟨v0,vs0,d0,ds0,p0,q0,hargs,rfl,rfl,h0,r0⟩:=trodAll_cons hA
 obtain ⟨v1,vs1,d1,ds1,p1,q1,rfl,rfl,rfl,h1,r1⟩:=trodAll_cons r0
 obtain ⟨v2,vs2,d2,ds2,p2,q2,rfl,rfl,rfl,h2,r2⟩:=trodAll_cons r1
 obtain ⟨rfl,rfl,rfl⟩:=trodAll_nil r2
 obtain rfl:args = #[v0,v1,v2]:=by cases args; simp_all
 obtain ⟨rfl,rfl⟩:=trodVars_none hV
 have k0:=h0
 have lt0:∀ x∈p0,x.block<W.heap.size:=by obtain ⟨m,hm⟩:=k0; exact DataW.trod_lt m _ _ _ hm
 have k1:=h1
 have lt1:∀ x∈p1,x.block<W.heap.size:=by obtain ⟨m,hm⟩:=k1; exact DataW.trod_lt m _ _ _ hm
 have k2:=h2
 have lt2:∀ x∈p2,x.block<W.heap.size:=by obtain ⟨m,hm⟩:=k2; exact DataW.trod_lt m _ _ _ hm
 obtain ⟨x0,s0⟩:=arg_agg (row:=rLShard) Tryz.underlying28 (by kernel_rfl) (by kernel_rfl) (hval 0 28 v0 rfl rfl) k0
 obtain ⟨a1,rfl⟩:=okWide_int Tryz.underlying3 (hval 1 3 v1 rfl rfl)
 obtain ⟨x1,s1⟩:=arg_one (T:=3) (s:=si) (by kernel_rfl) (by kernel_rfl) rfl k1
 obtain ⟨x2,s2⟩:=arg_agg (row:=rLRange) Tryz.underlying30 (by kernel_rfl) (by kernel_rfl) (hval 2 30 v2 rfl rfl) k2
 clear hA0 hval0
 have hs:SoundFn Tryz.prog 3 [⟨ag rLShard,x0⟩,⟨ri,x1⟩,⟨ag rLRange,x2⟩] ⟨rb,[.b true]⟩:=l_ShardFreeze_ok [⟨ag rLShard,x0⟩,⟨ri,x1⟩,⟨ag rLRange,x2⟩] ⟨rb,[.b true]⟩ (by kernel_rfl)
 refine (ev_walk hs (args_3 s0 s1 s2)).mono fun e W' ⟨he,bel⟩=>?_
 subst he
 exact ⟨_,rfl,_,_,_,[],_,[],hW',trodAll_mk1 (shut_bool Tryz.underlying4 _),(trodAll_cons_mk (Below.trod laidOut (by kernel_rfl) (of_decide_eq_true (by kernel_rfl)) k0 bel lt0) (trodAll_cons_mk (Below.trod laidOut (by kernel_rfl) (of_decide_eq_true (by kernel_rfl)) k1 bel lt1) (trodAll_cons_mk (Below.trod laidOut (by kernel_rfl) (of_decide_eq_true (by kernel_rfl)) k2 bel lt2) trodAll_mk0))),rfl,bel.frame _,fun h=>by cases h⟩
theorem j1:(Rows.fnExactShardFreezeRow.wf (OpenSpec.ofChange Rows.fnExactShardFreezeSpec))=true:=by kernel_rfl
theorem j2:(laidOutB Tryz.pinned.checked.prog)=true:=by kernel_rfl
theorem j3:(mapsRowed Tryz.pinned.checked.prog)=true:=by kernel_rfl
theorem j4:(Tryz.f3.params.all (Tryz.pinned.checked.prog.readableRec ·))=true:=by kernel_rfl
theorem j5:(namedTie Tryz.pinned.checked.prog Rows.fnExactShardFreezeRow.named Rows.fnExactShardFreezeSpec.vars)=true:=by kernel_rfl
theorem j6:((Rows.fnExactShardFreezeRow.stops == []))=true:=by kernel_rfl
theorem j7:((Tryz.pinned.checked.prog.stops == []))=true:=by kernel_rfl
theorem j8:((Rows.fnExactShardFreezeRow.knobs == []))=true:=by kernel_rfl
theorem j9:((Tryz.pinned.checked.prog.stopKnobs == []))=true:=by kernel_rfl
theorem j10:((Rows.fnExactShardFreezeRow.inPlace==Tryz.pinned.checked.prog.inPlace 3))=true:=by kernel_rfl
theorem j11:((Rows.fnExactShardFreezeRow.unfollowed==Tryz.pinned.checked.prog.unfollowed 3))=true:=by kernel_rfl
theorem j12:((Rows.fnExactShardFreezeRow.recurses==Tryz.pinned.checked.prog.recurses 3))=true:=by kernel_rfl
theorem j13:((Rows.fnExactShardFreezeRow.named==Tryz.pinned.checked.prog.varsNamed 3))=true:=by kernel_rfl
theorem j14:((Rows.fnExactShardFreezeRow.maps==(Tryz.f3.params.toList++Rows.fnExactShardFreezeSpec.plain.varTypes Tryz.pinned.checked.prog).any (Tryz.pinned.checked.prog.mapsRec ·)))=true:=by kernel_rfl
theorem j15:((Rows.fnExactShardFreezeRow.ifaces==(Tryz.f3.params.toList++Rows.fnExactShardFreezeSpec.plain.varTypes Tryz.pinned.checked.prog).any (Tryz.pinned.checked.prog.ifacesRec ·)))=true:=by kernel_rfl
theorem j16:((Rows.fnExactShardFreezeRow.mapsOut==Tryz.pinned.checked.prog.mapsAmong Tryz.f3.resultTypes.toList))=true:=by kernel_rfl
theorem j17:((Rows.fnExactShardFreezeRow.loops==(Tryz.f3.params.toList++Rows.fnExactShardFreezeSpec.plain.varTypes Tryz.pinned.checked.prog).any (Tryz.pinned.checked.prog.loopsFrom ·)))=true:=by kernel_rfl
theorem j18:((Rows.fnExactShardFreezeRow.wideKeys==(Tryz.f3.params.toList++Rows.fnExactShardFreezeSpec.plain.varTypes Tryz.pinned.checked.prog++Tryz.f3.resultTypes.toList).any (Tryz.pinned.checked.prog.wideKeysFrom ·)))=true:=by kernel_rfl
theorem j19:(Rows.fnExactShardFreezeSpec.vars.all (Tryz.pinned.checked.prog.varReadable ·))=true:=by kernel_rfl
theorem j20:(Tryz.f3.resultTypes.all (fun t=>Tryz.pinned.checked.prog.readableRec t&&decide (t<Tryz.pinned.checked.prog.types.size)))=true:=by kernel_rfl
theorem j21:((Rows.fnExactShardFreezeRow.ifacesOut==Tryz.f3.resultTypes.toList.any (Tryz.pinned.checked.prog.ifacesRec ·)))=true:=by kernel_rfl
theorem j22:((Rows.fnExactShardFreezeRow.loopsOut==Tryz.f3.resultTypes.toList.any (Tryz.pinned.checked.prog.loopsFrom ·)))=true:=by kernel_rfl
theorem j23:((Rows.fnExactShardFreezeRow.plainKeys==Tryz.pinned.checked.prog.plainKeys))=true:=by kernel_rfl
theorem j24:(Rows.fnExactShardFreezeRow.shortTexts.isNone)=true:=by kernel_rfl
theorem j25:(Tryz.pinned.checked.prog.stopsHeard)=true:=by kernel_rfl
theorem j26:(Tryz.pinned.checked.prog.mayEnter)=true:=by kernel_rfl
theorem j27:((Rows.fnExactShardFreezeRow.lifted==Tryz.pinned.checked.prog.liftsFinal))=true:=by kernel_rfl
theorem j28:((Tryz.pinned.checked.prog.make==some Rows.fnExactShardFreezeRow.make))=true:=by kernel_rfl
theorem j29:((Rows.fnExactShardFreezeRow.kinds==(if Rows.fnExactShardFreezeRow.domain.isEmpty then [] else Tryz.f3.params.toList.map fun t=>match Tryz.pinned.checked.prog.underlying t with | some (.int k)=>some k | _=>none)))=true:=by kernel_rfl
theorem j30:((Rows.fnExactShardFreezeRow.pinned==Rows.fnExactShardFreezeRow.pinnedBy))=true:=by kernel_rfl
theorem j31:((Rows.fnExactShardFreezeRow.veiled==(Tryz.f3.params.toList++Rows.fnExactShardFreezeSpec.plain.varTypes Tryz.pinned.checked.prog++Tryz.f3.resultTypes.toList).any (Tryz.pinned.checked.prog.veiledRec ·)))=true:=by kernel_rfl
theorem j32:(Rows.fnExactShardFreezeRow.veiledFits Tryz.pinned.checked.prog Tryz.f3.params.toList (Tryz.f3.params.toList++Rows.fnExactShardFreezeSpec.plain.varTypes Tryz.pinned.checked.prog++Tryz.f3.resultTypes.toList))=true:=by kernel_rfl
theorem and_i {a b:Bool} (ha:a=true) (hb:b=true):(a&&b)=true:=by rw [ha,hb]; rfl
set_option maxRecDepth 100000 in
theorem joined:joinedFacts Tryz.pinned.checked.prog 3 Tryz.f3 Rows.fnExactShardFreezeSpec Rows.fnExactShardFreezeRow=true:=by
 unfold joinedFacts
 exact (and_i (and_i (and_i (and_i (and_i (and_i (and_i (and_i (and_i (and_i (and_i (and_i (and_i (and_i (and_i (and_i (and_i (and_i (and_i (and_i (and_i (and_i (and_i (and_i (and_i (and_i (and_i (and_i (and_i (and_i (and_i j1 j2) j3) j4) j5) j6) j7) j8) j9) j10) j11) j12) j13) j14) j15) j16) j17) j18) j19) j20) j21) j22) j23) j24) j25) j26) j27) j28) j29) j30) j31) j32)
theorem fnamed:Tryz.pinned.checked.prog.funcNamed Rows.fnExactShardFreezeRow.func=some 3:=by kernel_rfl
theorem isI:Func.isInstance Tryz.pinned.checked.prog Tryz.f3 Rows.fnExactShardFreezeRow.origin Rows.fnExactShardFreezeRow.targs:=of_decide_eq_true (by kernel_rfl)
theorem isW:Func.isWrapper Tryz.pinned.checked.prog Tryz.f3 Rows.fnExactShardFreezeRow.wrapper Rows.fnExactShardFreezeRow.mainSum:=by unfold Func.isWrapper; first | (rw [if_pos (by decide +kernel)]; kernel_rfl) | (rw [if_neg (by decide +kernel)]; exact ⟨rfl,rfl⟩)
theorem over:Rows.fnExactShardFreezeRow.holds Tryz.pinned (OpenSpec.ofChange Rows.fnExactShardFreezeSpec):=
 OpenClaim.holds_of_wide 3 Tryz.f3 rfl rfl rfl rfl rfl rfl rfl ⟨rfl,rfl,rfl,rfl,rfl⟩ rfl rfl rfl rfl rfl fnamed Tryz.func3 joined
  isI isW
  (fun os started H enc _=>lifted os started H enc)
theorem proved:Rows.FnExactShardFreezeSaid:=over
#print axioms proved
end Go.Proofs.YtpdfmcmnjikppaaGreat.fnExactShardFreeze
