/-
 The law FnExactShardPrepare: the row's step round the walk 'walk' (the text YtpdfmcmnjikppaaGreatTL15).
-/
import Derived.Test.YtpdfmcmnjikppaaGreatSP1
import Derived.Test.YtpdfmcmnjikppaaGreatSP2
import Derived.Test.YtpdfmcmnjikppaaGreatSP3
import Derived.Test.YtpdfmcmnjikppaaGreatSP4
import Derived.Test.YtpdfmcmnjikppaaGreatSP5
import Derived.Test.YtpdfmcmnjikppaaGreatSP6
import Derived.Test.YtpdfmcmnjikppaaGreatSP7
import Derived.Test.YtpdfmcmnjikppaaGreatRows
import Derived.WalkKit
import Derived.ProofKit
import Derived.OpenShut
import Derived.ShutString
import Derived.ChangeOld
import Derived.Below
set_option linter.unusedSimpArgs false
set_option linter.unusedVariables false
set_option linter.unusedSectionVars false
namespace Go.Proofs.YtpdfmcmnjikppaaGreat.fnExactShardPrepare
open Go.ChangeShapes Go.WideShapes Go.ChangeAt Go.RowKit
open Go.ChangeMaps (open_string shut_string)
theorem own:ownKnob Tryz.prog.godebug=none:=by kernel_rfl
theorem laidOut:laidOutB Tryz.prog=true:=by kernel_rfl
theorem args_4 {P:Program} {W:World} {t t1 t2 t3:T} {v v1 v2 v3:Value} (h:VT P W (g0 W.heap.size (prot0 W)) W.heap.size t v) (h1:VT P W (g0 W.heap.size (prot0 W)) W.heap.size t1 v1) (h2:VT P W (g0 W.heap.size (prot0 W)) W.heap.size t2 v2) (h3:VT P W (g0 W.heap.size (prot0 W)) W.heap.size t3 v3):ArgsV P (prot0 W) W [t,t1,t2,t3] #[v,v1,v2,v3]:=⟨rfl,fun j t' hj=>by
 match j,hj with
 | 0,hj=>injection hj with hj; subst hj; exact ⟨v,rfl,h⟩
 | 1,hj=>injection hj with hj; subst hj; exact ⟨v1,rfl,h1⟩
 | 2,hj=>injection hj with hj; subst hj; exact ⟨v2,rfl,h2⟩
 | 3,hj=>injection hj with hj; subst hj; exact ⟨v3,rfl,h3⟩⟩
set_option maxRecDepth 100000 in
theorem lifted (os:Os) (started:os.Started) (H:Type) (enc:TypeId × Value→H) :
  ReturnsInHanded {} Tryz.checked os 4 .any (Rows.fnExactShardPrepareSpec.pre6 enc Tryz.prog Tryz.f4 Rows.fnExactShardPrepareRow.domain false) (Rows.fnExactShardPrepareSpec.post enc Tryz.prog Tryz.f4 false true false false):=by
 refine returnsInHanded_of_change (C:=Tryz.checked) own started (by kernel_rfl) Tryz.func4
  (ChangeSpec.witness6 (enc:=enc) (C:=Tryz.checked) false ⟨#[],#[.agg #[.int .i64 0,.slice none 0 0,.slice none 0 0,.slice none 0 0,.slice none 0 0,.slice none 0 0,.slice none 0 0,.slice none 0 0,.int .i64 0],.int .i64 0,.slice none 0 0,.slice none 0 0],[]⟩ 8 (by kernel_rfl) (by kernel_rfl) (by kernel_rfl) (by kernel_rfl)) ?_
 intro W base args ds gs before hval0 hW hcnd _
 have hval:∀ (j:Nat) t v,Tryz.f4.params[j]?=some t→args[j]?=some v→Value.okWide Tryz.prog W .any base t v:=hval0
 have hW':=hW
 obtain ⟨p,q,hA0,hV,rfl,hfz,hnd⟩:=hW
 have hA:DataW.TrodAll enc Tryz.prog W 0 (fun _=>true) true Tryz.f4.params.toList args.toList ds p:=hA0
 rw [Tryz.params4] at hA hval
 obtain ⟨v0,vs0,d0,ds0,p0,q0,hargs,rfl,rfl,h0,r0⟩:=trodAll_cons hA
 obtain ⟨v1,vs1,d1,ds1,p1,q1,rfl,rfl,rfl,h1,r1⟩:=trodAll_cons r0
 obtain ⟨v2,vs2,d2,ds2,p2,q2,rfl,rfl,rfl,h2,r2⟩:=trodAll_cons r1
 obtain ⟨v3,vs3,d3,ds3,p3,q3,rfl,rfl,rfl,h3,r3⟩:=trodAll_cons r2
 obtain ⟨rfl,rfl,rfl⟩:=trodAll_nil r3
 obtain rfl:args = #[v0,v1,v2,v3]:=by cases args; simp_all
 obtain ⟨rfl,rfl⟩:=trodVars_none hV
 have k0:=h0
 have lt0:∀ x∈p0,x.block<W.heap.size:=by obtain ⟨m,hm⟩:=k0; exact DataW.trod_lt m _ _ _ hm
 have k1:=h1
 have lt1:∀ x∈p1,x.block<W.heap.size:=by obtain ⟨m,hm⟩:=k1; exact DataW.trod_lt m _ _ _ hm
 have k2:=h2
 have lt2:∀ x∈p2,x.block<W.heap.size:=by obtain ⟨m,hm⟩:=k2; exact DataW.trod_lt m _ _ _ hm
 have k3:=h3
 have lt3:∀ x∈p3,x.block<W.heap.size:=by obtain ⟨m,hm⟩:=k3; exact DataW.trod_lt m _ _ _ hm
 obtain ⟨x0,s0⟩:=arg_agg (row:=rLShard) Tryz.underlying28 (by kernel_rfl) (by kernel_rfl) (hval 0 28 v0 rfl rfl) k0
 obtain ⟨a1,rfl⟩:=okWide_int Tryz.underlying3 (hval 1 3 v1 rfl rfl)
 obtain ⟨x1,s1⟩:=arg_one (T:=3) (s:=si) (by kernel_rfl) (by kernel_rfl) rfl k1
 obtain ⟨a2,len2,cap2,rfl⟩:=okWide_slice Tryz.underlying22 (hval 2 22 v2 rfl rfl)
 obtain ⟨x2,s2⟩:=arg_one (T:=22) (s:=.sl 30) (by kernel_rfl) (by kernel_rfl) rfl k2
 obtain ⟨a3,len3,cap3,rfl⟩:=okWide_slice Tryz.underlying48 (hval 3 48 v3 rfl rfl)
 obtain ⟨x3,s3⟩:=arg_one (T:=48) (s:=.sl 124) (by kernel_rfl) (by kernel_rfl) rfl k3
 clear hA0 hval0
 have hs:SoundFn Tryz.prog 4 [⟨ag rLShard,x0⟩,⟨ri,x1⟩,⟨sd (.sl 30),x2⟩,⟨sd (.sl 124),x3⟩] ⟨rb,[.b true]⟩:=l_ShardPrepare_ok [⟨ag rLShard,x0⟩,⟨ri,x1⟩,⟨sd (.sl 30),x2⟩,⟨sd (.sl 124),x3⟩] ⟨rb,[.b true]⟩ (by kernel_rfl)
 refine (ev_walk hs (args_4 s0 s1 s2 s3)).mono fun e W' ⟨he,bel⟩=>?_
 subst he
 exact ⟨_,rfl,_,_,_,[],_,[],hW',trodAll_mk1 (shut_bool Tryz.underlying4 _),(trodAll_cons_mk (Below.trod laidOut (by kernel_rfl) (of_decide_eq_true (by kernel_rfl)) k0 bel lt0) (trodAll_cons_mk (Below.trod laidOut (by kernel_rfl) (of_decide_eq_true (by kernel_rfl)) k1 bel lt1) (trodAll_cons_mk (Below.trod laidOut (by kernel_rfl) (of_decide_eq_true (by kernel_rfl)) k2 bel lt2) (trodAll_cons_mk (Below.trod laidOut (by kernel_rfl) (of_decide_eq_true (by kernel_rfl)) k3 bel lt3) trodAll_mk0)))),rfl,bel.frame _,fun h=>by cases h⟩
theorem j1:(Rows.fnExactShardPrepareRow.wf (OpenSpec.ofChange Rows.fnExactShardPrepareSpec))=true:=by kernel_rfl
theorem j2:(laidOutB Tryz.pinned.checked.prog)=true:=by kernel_rfl
theorem j3:(mapsRowed Tryz.pinned.checked.prog)=true:=by kernel_rfl
theorem j4:(Tryz.f4.params.all (Tryz.pinned.checked.prog.readableRec ·))=true:=by kernel_rfl
theorem j5:(namedTie Tryz.pinned.checked.prog Rows.fnExactShardPrepareRow.named Rows.fnExactShardPrepareSpec.vars)=true:=by kernel_rfl
theorem j6:((Rows.fnExactShardPrepareRow.stops == []))=true:=by kernel_rfl
theorem j7:((Tryz.pinned.checked.prog.stops == []))=true:=by kernel_rfl
theorem j8:((Rows.fnExactShardPrepareRow.knobs == []))=true:=by kernel_rfl
theorem j9:((Tryz.pinned.checked.prog.stopKnobs == []))=true:=by kernel_rfl
theorem j10:((Rows.fnExactShardPrepareRow.inPlace==Tryz.pinned.checked.prog.inPlace 4))=true:=by kernel_rfl
theorem j11:((Rows.fnExactShardPrepareRow.unfollowed==Tryz.pinned.checked.prog.unfollowed 4))=true:=by kernel_rfl
theorem j12:((Rows.fnExactShardPrepareRow.recurses==Tryz.pinned.checked.prog.recurses 4))=true:=by kernel_rfl
theorem j13:((Rows.fnExactShardPrepareRow.named==Tryz.pinned.checked.prog.varsNamed 4))=true:=by kernel_rfl
theorem j14:((Rows.fnExactShardPrepareRow.maps==(Tryz.f4.params.toList++Rows.fnExactShardPrepareSpec.plain.varTypes Tryz.pinned.checked.prog).any (Tryz.pinned.checked.prog.mapsRec ·)))=true:=by kernel_rfl
theorem j15:((Rows.fnExactShardPrepareRow.ifaces==(Tryz.f4.params.toList++Rows.fnExactShardPrepareSpec.plain.varTypes Tryz.pinned.checked.prog).any (Tryz.pinned.checked.prog.ifacesRec ·)))=true:=by kernel_rfl
theorem j16:((Rows.fnExactShardPrepareRow.mapsOut==Tryz.pinned.checked.prog.mapsAmong Tryz.f4.resultTypes.toList))=true:=by kernel_rfl
theorem j17:((Rows.fnExactShardPrepareRow.loops==(Tryz.f4.params.toList++Rows.fnExactShardPrepareSpec.plain.varTypes Tryz.pinned.checked.prog).any (Tryz.pinned.checked.prog.loopsFrom ·)))=true:=by kernel_rfl
theorem j18:((Rows.fnExactShardPrepareRow.wideKeys==(Tryz.f4.params.toList++Rows.fnExactShardPrepareSpec.plain.varTypes Tryz.pinned.checked.prog++Tryz.f4.resultTypes.toList).any (Tryz.pinned.checked.prog.wideKeysFrom ·)))=true:=by kernel_rfl
theorem j19:(Rows.fnExactShardPrepareSpec.vars.all (Tryz.pinned.checked.prog.varReadable ·))=true:=by kernel_rfl
theorem j20:(Tryz.f4.resultTypes.all (fun t=>Tryz.pinned.checked.prog.readableRec t&&decide (t<Tryz.pinned.checked.prog.types.size)))=true:=by kernel_rfl
theorem j21:((Rows.fnExactShardPrepareRow.ifacesOut==Tryz.f4.resultTypes.toList.any (Tryz.pinned.checked.prog.ifacesRec ·)))=true:=by kernel_rfl
theorem j22:((Rows.fnExactShardPrepareRow.loopsOut==Tryz.f4.resultTypes.toList.any (Tryz.pinned.checked.prog.loopsFrom ·)))=true:=by kernel_rfl
theorem j23:((Rows.fnExactShardPrepareRow.plainKeys==Tryz.pinned.checked.prog.plainKeys))=true:=by kernel_rfl
theorem j24:(Rows.fnExactShardPrepareRow.shortTexts.isNone)=true:=by kernel_rfl
theorem j25:(Tryz.pinned.checked.prog.stopsHeard)=true:=by kernel_rfl
theorem j26:(Tryz.pinned.checked.prog.mayEnter)=true:=by kernel_rfl
theorem j27:((Rows.fnExactShardPrepareRow.lifted==Tryz.pinned.checked.prog.liftsFinal))=true:=by kernel_rfl
theorem j28:((Tryz.pinned.checked.prog.make==some Rows.fnExactShardPrepareRow.make))=true:=by kernel_rfl
theorem j29:((Rows.fnExactShardPrepareRow.kinds==(if Rows.fnExactShardPrepareRow.domain.isEmpty then [] else Tryz.f4.params.toList.map fun t=>match Tryz.pinned.checked.prog.underlying t with | some (.int k)=>some k | _=>none)))=true:=by kernel_rfl
theorem j30:((Rows.fnExactShardPrepareRow.pinned==Rows.fnExactShardPrepareRow.pinnedBy))=true:=by kernel_rfl
theorem j31:((Rows.fnExactShardPrepareRow.veiled==(Tryz.f4.params.toList++Rows.fnExactShardPrepareSpec.plain.varTypes Tryz.pinned.checked.prog++Tryz.f4.resultTypes.toList).any (Tryz.pinned.checked.prog.veiledRec ·)))=true:=by kernel_rfl
theorem j32:(Rows.fnExactShardPrepareRow.veiledFits Tryz.pinned.checked.prog Tryz.f4.params.toList (Tryz.f4.params.toList++Rows.fnExactShardPrepareSpec.plain.varTypes Tryz.pinned.checked.prog++Tryz.f4.resultTypes.toList))=true:=by kernel_rfl
theorem and_i {a b:Bool} (ha:a=true) (hb:b=true):(a&&b)=true:=by rw [ha,hb]; rfl
set_option maxRecDepth 100000 in
theorem joined:joinedFacts Tryz.pinned.checked.prog 4 Tryz.f4 Rows.fnExactShardPrepareSpec Rows.fnExactShardPrepareRow=true:=by
 unfold joinedFacts
 exact (and_i (and_i (and_i (and_i (and_i (and_i (and_i (and_i (and_i (and_i (and_i (and_i (and_i (and_i (and_i (and_i (and_i (and_i (and_i (and_i (and_i (and_i (and_i (and_i (and_i (and_i (and_i (and_i (and_i (and_i (and_i j1 j2) j3) j4) j5) j6) j7) j8) j9) j10) j11) j12) j13) j14) j15) j16) j17) j18) j19) j20) j21) j22) j23) j24) j25) j26) j27) j28) j29) j30) j31) j32)
theorem fnamed:Tryz.pinned.checked.prog.funcNamed Rows.fnExactShardPrepareRow.func=some 4:=by kernel_rfl
theorem isI:Func.isInstance Tryz.pinned.checked.prog Tryz.f4 Rows.fnExactShardPrepareRow.origin Rows.fnExactShardPrepareRow.targs:=of_decide_eq_true (by kernel_rfl)
theorem isW:Func.isWrapper Tryz.pinned.checked.prog Tryz.f4 Rows.fnExactShardPrepareRow.wrapper Rows.fnExactShardPrepareRow.mainSum:=by unfold Func.isWrapper; first | (rw [if_pos (by decide +kernel)]; kernel_rfl) | (rw [if_neg (by decide +kernel)]; exact ⟨rfl,rfl⟩)
theorem over:Rows.fnExactShardPrepareRow.holds Tryz.pinned (OpenSpec.ofChange Rows.fnExactShardPrepareSpec):=
 OpenClaim.holds_of_wide 4 Tryz.f4 rfl rfl rfl rfl rfl rfl rfl ⟨rfl,rfl,rfl,rfl,rfl⟩ rfl rfl rfl rfl rfl fnamed Tryz.func4 joined
  isI isW
  (fun os started H enc _=>lifted os started H enc)
theorem proved:Rows.FnExactShardPrepareSaid:=over
#print axioms proved
end Go.Proofs.YtpdfmcmnjikppaaGreat.fnExactShardPrepare
