/-
 The law: the row's step round the walk.
-/
import Derived.Test.YtpdfmcmnjikppaaGreatSS10
import Derived.Test.YtpdfmcmnjikppaaGreatSSA
set_option linter.unusedSimpArgs false
set_option linter.unusedVariables false
set_option linter.unusedSectionVars false
namespace Go.Proofs.YtpdfmcmnjikppaaGreat.fnShardStays
open Go.ChangeShapes Go.WideShapes Go.ChangeAt Go.RowKit
open Go.ChangeMaps (open_string shut_string)
set_option maxRecDepth 100000 in
theorem lifted (os:Os) (started:os.Started) (H:Type) (enc:TypeId × Value→H) :
  ReturnsInHanded {} Tryz.checked os 6 .any (aQ2.pre6 enc Tryz.prog Tryz.f6 aQ0.domain false) (aQ2.post enc Tryz.prog Tryz.f6 false true false false):=by
 refine returnsInHanded_of_change (C:=Tryz.checked) own started (by kernel_rfl) Tryz.func6
  (ChangeSpec.witness6 (enc:=enc) (C:=Tryz.checked) false ⟨#[],#[.slice none 0 0],[]⟩ 8 (by kernel_rfl) (by kernel_rfl) (by kernel_rfl) (by kernel_rfl)) ?_
 intro W base args ds gs before hval0 hW hcnd _
 have hval:∀ (j:Nat) t v,Tryz.f6.params[j]?=some t→args[j]?=some v→Value.okWide Tryz.prog W .any base t v:=hval0
 have hW':=hW
 obtain ⟨p,q,hA0,hV,rfl,hfz,hnd⟩:=hW
 have hA:DataW.TrodAll enc Tryz.prog W 0 (fun _=>true) true Tryz.f6.params.toList args.toList ds p:=hA0
 rw [Tryz.params6] at hA hval
 obtain ⟨v0,vs0,d0,ds0,p0,q0,hargs,rfl,rfl,h0,r0⟩:=trodAll_cons hA
 obtain ⟨rfl,rfl,rfl⟩:=trodAll_nil r0
 obtain rfl:args = #[v0]:=by cases args; simp_all
 obtain ⟨rfl,rfl⟩:=trodVars_none hV
 have k0:=h0
 have lt0:∀ x∈p0,x.block<W.heap.size:=by obtain ⟨m,hm⟩:=k0; exact DataW.trod_lt m _ _ _ hm
 obtain ⟨a0,len0,cap0,rfl⟩:=okWide_slice Tryz.underlying65 (hval 0 65 v0 rfl rfl)
 obtain ⟨x0,s0⟩:=aiS (T:=65) (s:=.sl 5) (by kernel_rfl) (by kernel_rfl) rfl k0
 clear hA0 hval0
 have hs:aQ Tryz.prog 6 [⟨sd (.sl 5),x0⟩] ⟨rb,[.b true]⟩:=by
  have hb:Gu (gd x0 0)=true:=List.all_eq_true.2 fun k hk=>by
   have hk:=List.mem_range.1 hk
   have h:=afm (x:=gd x0 0) Tryz.underlying65 Tryz.underlying5 (by kernel_rfl) (by kernel_rfl) rfl k0 s0 _ (List.getElem_mem hk)
   rw [aU hk]
   simp only [inB,Bool.and_eq_true,decide_eq_true_eq]
   exact h
  refine DT [⟨sd (.sl 5),x0⟩] ⟨rb,[.b true]⟩ ?_
  show some ((⟨rb,[.b true]⟩:T),Gu (gd x0 0))=_
  rw [hb]
 refine (ajj hs (akY s0)).mono fun e W' ⟨he,bel⟩=>?_
 subst he
 exact ⟨_,rfl,_,_,_,[],_,[],hW',trodAll_mk1 (shut_bool Tryz.underlying4 _),(trodAll_cons_mk (Below.trod laidOut (by kernel_rfl) (of_decide_eq_true (by kernel_rfl)) k0 bel lt0) trodAll_mk0),rfl,bel.frame _,fun h=>by cases h⟩
theorem gZ:aQ0.holds Tryz.pinned (OpenSpec.ofChange aQ2):=
 OpenClaim.holds_of_wide 6 Tryz.f6 rfl rfl rfl rfl rfl rfl rfl ⟨rfl,rfl,rfl,rfl,rfl⟩ rfl rfl rfl rfl rfl fnamed Tryz.func6 joined
  isI isW
  (fun os started H enc _=>lifted os started H enc)
theorem proved:Rows.FnShardStaysSaid:=gZ
#print axioms proved
end Go.Proofs.YtpdfmcmnjikppaaGreat.fnShardStays
