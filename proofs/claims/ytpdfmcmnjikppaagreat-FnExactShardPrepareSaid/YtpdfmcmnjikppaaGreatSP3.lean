/-
 Texts of the proof,put together: part 3.
-/
import Derived.Test.YtpdfmcmnjikppaaGreatSP1
import Derived.Test.YtpdfmcmnjikppaaGreatSP2
import Derived.Deep.LoopGhost
set_option linter.unusedSimpArgs false
set_option linter.unusedVariables false
set_option linter.unusedSectionVars false
namespace Go.Proofs.YtpdfmcmnjikppaaGreat
open Go.RowKit
section
variable [Low] {P:Program} {w w':World} {g g':G} {base:Nat} {σ:St} {a:Act}
theorem rcond_ok {c:Bool} {x y:R} {key:Option Dom} {out:Nat × List D} (h:rcond c x y=some (key,some out)):(c=true→∃ k,x=some (k,some out))∧(c=false→∃ k,y=some (k,some out)):=by
 unfold rcond at h
 split at h
 ·split at h
  ·simp only [Option.some.injEq,Prod.mk.injEq] at h
   obtain ⟨_,h⟩:=h
   cases c with
   | true=>exact ⟨fun _=>⟨_,by rw [cond_true] at h; rw [h]⟩,fun h=>by cases h⟩
   | false=>exact ⟨fun h=>(by cases h),fun _=>⟨_,by rw [cond_false] at h; rw [h]⟩⟩
  ·cases h
 ·cases h
theorem rneed_ok {c:Bool} {x:R} {key:Option Dom} {out:Nat × List D} (h:rneed c x=some (key,some out)):c=true∧x=some (key,some out):=by
 unfold rneed at h
 split at h
 ·simp only [Option.some.injEq,Prod.mk.injEq] at h
  obtain ⟨rfl,h⟩:=h
  cases c with
  | true=>rw [cond_true] at h; subst h; exact ⟨rfl,rfl⟩
  | false=>cases h
 ·cases h
theorem evOp_goes (hr:Rel P w g base σ a) {call:FuncId→List T→Option (T × Bool)} (hcall:CallOk P call) {o:Oper} {σ':St} (hd:∀ d,o.dst=some d→d<a.tmps.size) (h:evOp P call σ o=some (σ',true)):Goes P base σ' o a w:=by
 obtain ⟨dst,op,ty,pos,after,guard⟩:=o
 unfold evOp at h
 simp only at h
 split at h
 ·exact (evAlloc_ok hr rfl rfl hd h).goes
 ·exact (evBox_ok hr rfl rfl hd h).goes
 ·exact (evBuild_ok hr rfl rfl hd h).goes
 ·rename_i t n parts d
  cases hdp:deepAt call d with
  | false=>rw [hdp,cond_false] at h; exact (evBuildSlice_ok hr rfl rfl hd h).goes
  | true=>rw [hdp,cond_true] at h; exact (evBuildSliceD_ok hr rfl rfl hd h).goes
 ·exact (evMakeSlice_ok hr rfl rfl hd h).goes
 ·exact (evStore_ok hr rfl hd h).goes
 ·exact (evNil_ok hr rfl rfl hd h).goes
 ·rename_i xs ts d
  split at h
  ·rename_i x y t t' h1 h2
   cases ht:(t==t') with
   | false=>rw [ht] at h; cases h
   | true =>
    rw [ht,cond_true] at h
    have ht:t=t':=by simpa using ht
    subst ht
    have e1:xs = #[x,y]:=by cases xs; simp_all
    have e2:ts = #[t,t]:=by cases ts; simp_all
    subst e1; subst e2
    exact (evAppend_ok hr rfl rfl hd h).goes
  ·cases h
 ·rename_i f xs ts d
  split at h
  ·rename_i r he
   injection h with h
   subst h
   exact evW_ok hr hcall rfl hd he
  ·split at h
   ·rename_i r he
    injection h with h
    subst h
    exact (evCall_ok hr hcall rfl rfl hd he).goes
   ·exact evP_ok hr hcall rfl rfl hd h
 ·simp at h
 ·simp at h
 ·exact (evPure_ok hr hd h).goes
theorem yielded_of {ops:Array Oper} {tm:Array Value} {j t:Nat} (h:(ops[j]?).bind (·.dst)=some t) (hn:t<tm.size):yielded ops tm j=match tm.getD t undef with | .bool b=>some b | _=>none:=by
 unfold yielded
 rw [h]
 simp only [Option.bind_some,Array.getElem?_eq_getElem hn,Array.getD_eq_getD_getElem?,Option.getD_some]
 cases tm[t] <;> rfl
theorem vd_bool {prot:Nat→Nat} {x:D} {v:Value} (h:VD P w prot .bool x v):v=.bool x.bool:=by
 cases h; rfl
theorem want_ok (hr:Rel P w g base σ a) {ops:Array Oper} (hops:∀ o∈ops.toList,∀ d,o.dst=some d→d<a.tmps.size) {o:Oper} :
  match want ops σ o with
  | .yes=>Region.wanted o (yielded ops a.tmps)=true
  | .no=>Region.wanted o (yielded ops a.tmps)=false
  | .ask t g b=>t<a.tmps.size∧a.tmps.getD t undef=.bool g∧Region.wanted o (yielded ops a.tmps)=(g==b)
  | .bad=>True:=by
 unfold want Region.wanted
 cases hg:o.guard with
 | none=>rfl
 | some q =>
  obtain ⟨j,b⟩:=q
  simp only
  cases hj:(ops[j]?).bind (·.dst) with
  | none=>trivial
  | some t =>
   simp only
   have ht:t<a.tmps.size:=by
    cases ho:ops[j]? with
    | none=>rw [ho] at hj; cases hj
    | some o'=>rw [ho] at hj; exact hops o' (by simpa using Array.mem_of_getElem? ho) t hj
   have hy:=yielded_of (tm:=a.tmps) hj ht
   have hv:=hr.env t
   rw [hy]
   generalize look2 t σ.e σ.r=v at *
   obtain ⟨sh,p⟩:=v
   cases sh with
   | tup xs =>
    cases xs with
    | nil =>
     obtain ⟨vs,h1,h2,_⟩:=hv
     have:vs = #[]:=by simpa using h2
     subst this
     simp only [h1]; rfl
    | cons x xs=>trivial
   | one x=>cases x with
    | agg xs=>trivial
    | c x=>cases x with
     | kb c =>
      have hv:a.tmps.getD t undef=.bool c:=hv
      simp only [hv]
      cases c <;> cases b <;> rfl
     | d s=>cases s with
      | bool =>
       have hv:VD P w g.prot .bool (gd p 0) (a.tmps.getD t undef):=hv
       have hv:=vd_bool hv
       exact ⟨ht,hv,by rw [hv]; cases (gd p 0).bool <;> cases b <;> rfl⟩
      | _=>trivial
     | _=>trivial
theorem evOps_ok {call:FuncId→List T→Option (T × Bool)} (hcall:CallOk P call) {ops:Array Oper} {k:St→R} {out:Nat × List D} {n:Nat} {Q:Exit→Act→World→Prop} {w0:World}
  (hk:∀ σ' w' g' a' key',k σ'=some (key',some out)→Rel P w' g' base σ' a'→a'.tmps.size=n→Below base w0 w'→Q .normal a' w') :
  ∀ (rest:List Oper) (σ:St) (w:World) (g:G) (a:Act) (key:Option Dom),(∀ o∈rest,∀ d,o.dst=some d→d<n)→(∀ o∈ops.toList,∀ d,o.dst=some d→d<n) →
   evOps P call ops rest σ k=some (key,some out)→Rel P w g base σ a→a.tmps.size=n→Below base w0 w→wpList P ops Q rest a w
 | [],σ,w,g,a,key,_,_,h,hr,hn,hb=>hk σ w g a key h hr hn hb
 | o::rest,σ,w,g,a,key,hrest,hops,h,hr,hn,hb=>by
  have ih:=evOps_ok hcall (ops:=ops) (Q:=Q) (w0:=w0) hk rest
  have hd:∀ d,o.dst=some d→d<a.tmps.size:=fun d hd=>by rw [hn]; exact hrest o (by simp) d hd
  have hops':∀ o∈ops.toList,∀ d,o.dst=some d→d<a.tmps.size:=fun o ho d hd=>by rw [hn]; exact hops o ho d hd
  -- the operation runs
  have yes:∀ {σ:St} {key:Option Dom},Rel P w g base σ a→evYes P call σ o (fun σ'=>evOps P call ops rest σ' k)=some (key,some out)→o.wp P a w (wpList P ops Q rest) Q:=by
   intro σ key hr h
   unfold evYes at h
   split at h
   ·rename_i σ' ok he
    obtain ⟨hok,hcont⟩:=rneed_ok h
    subst hok
    exact evOp_goes hr hcall hd he _ _ fun z w' g' hr' hb'=>ih σ' w' g' _ key (fun o ho=>hrest o (by simp [ho])) hops hcont hr' (by rw [put_size]; exact hn) (hb.trans hb')
   ·cases h
  -- it is passed over
  have no:∀ {σ:St} {key:Option Dom},Rel P w g base σ a→evOps P call ops rest (σ.put o.dst .none_) k=some (key,some out)→wpList P ops Q rest (a.put o.dst undef) w:=by
   intro σ key hr h
   exact ih _ w g _ key (fun o ho=>hrest o (by simp [ho])) hops h (hr.put hd (t:=.none_) ⟨#[],rfl,rfl,fun j x h=>by simp at h⟩) (by rw [put_size]; exact hn) hb
  have hw:=want_ok hr hops' (o:=o)
  unfold evOps evStep evStepG at h
  unfold wpList
  cases hq:want ops σ o with
  | yes =>
   rw [hq] at h hw
   simp only at h hw
   rw [if_pos hw]
   exact .inl (yes hr h)
  | no =>
   rw [hq] at h hw
   simp only at h hw
   rw [if_neg (by simp [hw])]
   exact no hr h
  | ask t gg b =>
   rw [hq] at h hw
   simp only at h hw
   obtain ⟨ht,hv,hw⟩:=hw
   obtain ⟨h1,h2⟩:=rcond_ok h
   have hkb:∀ c:Bool,gg=c→Rel P w g base (σ.put (some t) (.c (.kb c) D0)) a:=fun c hc=>by
    have:=hr.put (dst:=some t) (fun d hd=>by injection hd with hd; subst hd; exact ht) (t:=.c (.kb c) D0) (v:=.bool gg) (by rw [hc]; exact rfl)
    have e:a.put (some t) (.bool gg)=a:=by
     rw [← hv]
     obtain ⟨tm,df⟩:=a
     simp only [Act.put]
     congr 1
     refine Array.ext_getElem? fun i=>?_
     rw [Array.getElem?_setIfInBounds]
     split
     ·rename_i e
      subst e
      have ht':t<tm.size:=ht
      first
       | exact (Array.getElem?_eq_getElem ht').symm
       | (rw [if_pos ht',Array.getD_eq_getD_getElem?,Array.getElem?_eq_getElem ht']; rfl)
     ·rfl
    rwa [e] at this
   cases gg with
   | true =>
    obtain ⟨k',h1⟩:=h1 rfl
    have hr':=hkb true rfl
    cases b with
    | true =>
     rw [if_pos (by rw [hw]; rfl)]
     exact .inl (yes hr' h1)
    | false =>
     rw [if_neg (by rw [hw]; decide)]
     exact no hr' h1
   | false =>
    obtain ⟨k',h2⟩:=h2 rfl
    have hr':=hkb false rfl
    cases b with
    | true =>
     rw [if_neg (by rw [hw]; decide)]
     exact no hr' h2
    | false =>
     rw [if_pos (by rw [hw]; rfl)]
     exact .inl (yes hr' h2)
  | bad=>rw [hq] at h; cases h
theorem look_eput (i:Nat) (v:T):∀ (e:Env) (j:Nat),look j (eput i v e)=if j=i then v else look j e
 | [],j=>by
  by_cases h:j=i
  ·subst h; simp [eput,look]
  ·simp only [eput,look]; rw [if_neg h,show (j==i)=false from by simpa using h]; rfl
 | (k,u)::e,j=>by
  unfold eput
  by_cases hk:i=k
  ·subst hk
   simp only [beq_self_eq_true,cond_true,look]
   by_cases h:j=i
   ·subst h; simp
   ·rw [if_neg h,show (j==i)=false from by simpa using h]; rfl
  ·rw [show (i==k)=false from by simpa using hk,cond_false]
   simp only [look]
   rw [look_eput i v e j]
   by_cases h:j=k
   ·subst h
    simp only [beq_self_eq_true,cond_true]
    rw [if_neg (fun e=>hk e.symm)]
   ·rw [show (j==k)=false from by simpa using h]; rfl
theorem look_edrop (i:Nat):∀ (e:Env) (j:Nat),look j (edrop i e)=if j=i then .any else look j e
 | [],j=>by simp [edrop,look]
 | (k,u)::e,j=>by
  unfold edrop
  by_cases hk:i=k
  ·subst hk
   simp only [beq_self_eq_true,cond_true,look]
   rw [look_edrop i e j]
   by_cases h:j=i
   ·subst h; simp
   ·rw [if_neg h,if_neg h,show (j==i)=false from by simpa using h]; rfl
  ·rw [show (i==k)=false from by simpa using hk,cond_false]
   simp only [look]
   rw [look_edrop i e j]
   by_cases h:j=k
   ·subst h
    simp only [beq_self_eq_true,cond_true]
    rw [if_neg (fun e=>hk e.symm)]
   ·rw [show (j==k)=false from by simpa using h]; rfl
theorem look_settle (ks:List Nat) (e:Env) (j:Nat):∀ (r:Env),look j (settleE ks e r)=look2 j e r∨look j (settleE ks e r)=.any
 | []=>.inl rfl
 | (i,v)::r=>by
  unfold settleE look2
  by_cases h:j=i
  ·subst h
   cases ks.contains j with
   | true=>rw [cond_true,look_eput,if_pos rfl]; simp
   | false=>rw [cond_false,look_edrop,if_pos rfl]; exact .inr rfl
  ·rw [show (j==i)=false from by simpa using h,cond_false]
   cases ks.contains i with
   | true=>rw [cond_true,look_eput,if_neg h]; exact look_settle ks e j r
   | false=>rw [cond_false,look_edrop,if_neg h]; exact look_settle ks e j r
theorem toData1_r {σ:St} (h:σ.r = []) (i:Nat):(σ.toData1 i).r = []:=by
 unfold St.toData1
 split
 ·show List.map _ σ.r = []
  rw [h]; rfl
 ·exact h
theorem toData_r {σ:St} (h:σ.r = []):∀ is:List Nat,(σ.toData is).r = []
 | []=>h
 | i::is=>toData1_r (toData_r h is) i
theorem Rel.toData1 (hr:Rel P w g base σ a) (hσ:σ.r = []) (i:Nat):∃ g',Rel P w g' base (σ.toData1 i) a:=by
 unfold St.toData1
 split
 ·rename_i t x e hsh
  have hs:=hr.seal [t]
  refine ⟨sealG g [t],fun j=>?_,hs.box,hs.fresh,hs.base_le,hs.defers,hs.low,hs.mine⟩
  have hrn:(σ.map (sealC [t])).r = []:=by show List.map _ σ.r = []; rw [hσ]; rfl
  have hj:=hs.env j
  change VT P w _ base (look2 j (σ.map (sealC [t])).e (σ.map (sealC [t])).r) _ at hj
  rw [hrn] at hj
  show VT P w _ base (look2 j (eput i _ (σ.map (sealC [t])).e) (σ.map (sealC [t])).r) _
  rw [hrn]
  change VT P w _ base (look j (σ.map (sealC [t])).e) _ at hj
  show VT P w _ base (look j (eput i _ (σ.map (sealC [t])).e)) _
  rw [look_eput]
  by_cases hji:j=i
  ·subst hji
   rw [if_pos rfl]
   have e1:look j (σ.map (sealC [t])).e=⟨(look j σ.e).sh.map (sealC [t]),(look j σ.e).p⟩:=look_map (fun t'=>(⟨t'.sh.map (sealC [t]),t'.p⟩:T)) (by simp [Sh.map,Sh1.map,sealC]) σ.e j
   rw [e1,hsh] at hj
   have hj:VC P w (sealG g [t]) base (.own t (x && !([t]:List Tok).contains t) e) (gd (look j σ.e).p 0) (a.tmps.getD j undef):=hj
   have hx:(x && !([t]:List Tok).contains t)=false:=by simp
   rw [hx] at hj
   obtain ⟨row,h1,h2⟩:=hj
   exact own_vd' h1 h2
  ·rw [if_neg hji]; exact hj
 ·exact ⟨g,hr⟩
theorem Rel.toData (hr:Rel P w g base σ a) (hσ:σ.r = []):∀ is:List Nat,∃ g',Rel P w g' base (σ.toData is) a
 | []=>⟨g,hr⟩
 | i::is=>by
  obtain ⟨g1,h1⟩:=Rel.toData hr hσ is
  exact h1.toData1 (toData_r hσ is) i
theorem settle_r (σ:St) (ks:List Nat):(σ.settle ks).r = []:=toData_r rfl _
theorem Rel.settle (hr:Rel P w g base σ a) (ks:List Nat):∃ g',Rel P w g' base (σ.settle ks) a:=by
 refine Rel.toData (g:=g) (σ:=⟨[],settleE ks σ.e σ.r,σ.h⟩) ?_ rfl _
 refine ⟨fun i=>?_,hr.box,hr.fresh,hr.base_le,hr.defers,hr.low,hr.mine⟩
 show VT P w g base (look i (settleE ks σ.e σ.r)) _
 rcases look_settle ks σ.e i σ.r with h | h
 ·rw [h]; exact hr.env i
 ·rw [h]; trivial
theorem look_dropAll (j:Nat):∀ (ds:List Nat) (e:Env),look j (dropAll ds e)=look j e∨look j (dropAll ds e)=.any
 | [],_=>.inl rfl
 | i::ds,e=>by
  unfold dropAll
  rw [look_edrop]
  by_cases h:j=i
  ·rw [if_pos h]; exact .inr rfl
  ·rw [if_neg h]; exact look_dropAll j ds e
theorem look2_dropAll (j:Nat) (ds:List Nat) (e:Env):∀ (r:Env),look2 j (dropAll ds e) r=look2 j e r∨look2 j (dropAll ds e) r=.any
 | []=>look_dropAll j ds e
 | (i,v)::r=>by
  unfold look2
  cases (j==i) with
  | true=>exact .inl rfl
  | false=>exact look2_dropAll j ds e r
theorem Rel.shed (hr:Rel P w g base σ a) (ks:List Nat) (c:Code):Rel P w g base (σ.shed ks c) a:=by
 unfold St.shed
 cases isLoopC c with
 | false=>exact hr
 | true =>
  refine ⟨fun i=>?_,hr.box,hr.fresh,hr.base_le,hr.defers,hr.low,hr.mine⟩
  show VT P w g base (look2 i (dropAll (dropsOf ks) σ.e) σ.r) _
  rcases look2_dropAll i (dropsOf ks) σ.e σ.r with h | h
  ·rw [h]; exact hr.env i
  ·rw [h]; trivial
theorem look_restrict (e:Env) (j:Nat):∀ (dom:List Nat),look j (restrictE dom e)=look j e∨look j (restrictE dom e)=.any
 | []=>.inr rfl
 | i::dom=>by
  show look j ((i,look i e)::restrictE dom e)=_∨look j ((i,look i e)::restrictE dom e)=_
  simp only [look]
  by_cases h:j=i
  ·subst h; left; simp only [beq_self_eq_true,cond_true]
  ·rw [show (j==i)=false from by simpa using h]
   simp only [cond_false]
   exact look_restrict e j dom
theorem hlook_filter (q:Nat→Bool) (i:Nat):∀ (h:Boxes),hlook i (h.filter fun p=>q p.1)=if q i=true then hlook i h else none
 | []=>by simp [hlook]
 | (j,v)::h=>by
  rw [List.filter_cons]
  by_cases hq:q j=true
  ·rw [if_pos hq]
   simp only [hlook]
   rw [hlook_filter q i h]
   by_cases e:i=j
   ·subst e; simp [hq]
   ·rw [show (i==j)=false from by simpa using e]; rfl
  ·rw [if_neg hq,hlook_filter q i h]
   by_cases e:i=j
   ·subst e; rw [if_neg hq,if_neg hq]
   ·simp only [hlook]; rw [show (i==j)=false from by simpa using e]; rfl
theorem Rel.restrictD (hr:Rel P w g base σ a) (hre:σ.r = []) (d:Dom):Rel P w g base (restrictD d σ) a:=by
 refine ⟨fun i=>?_,fun id cs ds h=>?_,hr.fresh,hr.base_le,hr.defers,hr.low,hr.mine⟩
 ·show VT P w g base (look i (restrictE _ σ.e)) _
  rcases look_restrict σ.e i (d.1.map (·.1)) with h | h
  ·rw [h]
   have:=hr.env i
   rw [hre] at this
   exact this
  ·rw [h]; trivial
 ·have e:=hlook_filter (fun i=>(d.2.map (·.1)).contains i) id σ.h
  change hlook id (Go.Proofs.YtpdfmcmnjikppaaGreat.restrictD d σ).h=_ at e
  rw [h] at e
  split at e
  ·exact hr.box id cs ds e.symm
  ·cases e
theorem look_restrict2 (σ:St) (j:Nat):∀ (dom:List Nat),look j (dom.map fun i=>(i,look2 i σ.e σ.r))=look2 j σ.e σ.r∨look j (dom.map fun i=>(i,look2 i σ.e σ.r))=.any
 | []=>.inr rfl
 | i::dom=>by
  simp only [List.map_cons,look]
  by_cases h:j=i
  ·subst h; left; simp only [beq_self_eq_true,cond_true]
  ·rw [show (j==i)=false from by simpa using h]
   simp only [cond_false]
   exact look_restrict2 σ j dom
theorem Rel.restrict (hr:Rel P w g base σ a) (σ₀:St):Rel P w g base (σ₀.restrict σ) a:=by
 refine ⟨fun i=>?_,fun id cs ds h=>?_,hr.fresh,hr.base_le,hr.defers,hr.low,hr.mine⟩
 ·show VT P w g base (look i ((σ₀.e.map (·.1)).map fun i=>(i,look2 i σ.e σ.r))) _
  rcases look_restrict2 σ i (σ₀.e.map (·.1)) with h | h
  ·rw [h]; exact hr.env i
  ·rw [h]; trivial
 ·have e:=hlook_filter (fun i=>(σ₀.h.map (·.1)).contains i) id σ.h
  change hlook id (σ₀.restrict σ).h=_ at e
  rw [h] at e
  split at e
  ·exact hr.box id cs ds e.symm
  ·cases e
theorem sub_congr {p q:List D}:∀ (n o o':Nat),(∀ j,j<n→gd p (o+j)=gd q (o'+j))→sub p o n=sub q o' n
 | 0,_,_,_=>rfl
 | n+1,o,o',h=>by
  rw [sub,sub,show gd p o=gd q o' from by simpa using h 0 (by omega),sub_congr n (o+1) (o'+1) (fun j hj=>by
   have:=h (j+1) (by omega)
   rw [show o+1+j=o+(j+1) from by omega,show o'+1+j=o'+(j+1) from by omega]
   exact this)]
theorem offs_le:∀ (xs:List Sh1) (j:Nat) x,xs[j]?=some x→offs xs j+x.size≤xs.foldr (fun s n=>s.size+n) 0
 | [],j,x,h=>by simp at h
 | y::xs,0,x,h=>by
  simp only [List.getElem?_cons_zero,Option.some.injEq] at h
  subst h
  simp [offs]
 | y::xs,j+1,x,h=>by
  have:=offs_le xs j x (by simpa using h)
  simp only [offs,List.take_succ_cons,List.foldr_cons] at this ⊢
  omega
theorem vcs_congr {cs:List Ce} {p q:List D} {arr:Array Value} (h:∀ j,j<cs.length→gd p j=gd q j) (hv:VCs P w g base cs p arr):VCs P w g base cs q arr:=by
 refine ⟨hv.1,fun j c hj=>?_⟩
 obtain ⟨u,h1,h2⟩:=hv.2 j c hj
 exact ⟨u,h1,by rw [← h j (List.getElem?_eq_some_iff.1 hj).1]; exact h2⟩
theorem v1_congr {x:Sh1} {p q:List D} {v:Value} (h:∀ j,j<x.size→gd p j=gd q j) (hv:V1 P w g base x p v):V1 P w g base x q v:=by
 cases x with
 | c x=>show VC P w g base x (gd q 0) v; rw [← h 0 (by simp [Sh1.size])]; exact hv
 | agg xs=>obtain ⟨arr,h1,h2⟩:=hv; exact ⟨arr,h1,vcs_congr h h2⟩
theorem vs_congr {s:Sh} {p q:List D} {v:Value} (h:∀ j,j<s.size→gd p j=gd q j) (hv:VS P w g base s p v):VS P w g base s q v:=by
 cases s with
 | one x=>exact v1_congr h hv
 | tup xs =>
  obtain ⟨vs,h1,h2,h3⟩:=hv
  refine ⟨vs,h1,h2,fun j x hj=>?_⟩
  obtain ⟨u,k1,k2⟩:=h3 j x hj
  refine ⟨u,k1,?_⟩
  have hle:=offs_le xs j x hj
  rw [← sub_congr x.size (offs xs j) (offs xs j) (fun i hi=>h _ (by simp only [Sh.size]; omega))]
  exact k2
def flatE (e:Env):List D:=e.flatMap fun p=>sub p.2.p 0 p.2.sh.size
def flatH (h:Boxes):List D:=h.flatMap fun p=>sub p.2.2 0 p.2.1.length
theorem gd_mid (pre xs post:List D) (j:Nat) (h:j<xs.length):gd (pre++xs++post) (pre.length+j)=gd xs j:=by
 unfold gd
 rw [List.getD_eq_getElem?_getD,List.getD_eq_getElem?_getD,List.getElem?_append_left (by simp; omega),List.getElem?_append_right (by omega)]
 simp
theorem mkE_ok:∀ (e:Env) (pre post:List D),(mkE (e.map fun p=>(p.1,p.2.sh)) (pre++flatE e++post) pre.length).2=pre.length+(flatE e).length ∧
  ∀ i v,VT P w g base (look i e) v→VT P w g base (look i (mkE (e.map fun p=>(p.1,p.2.sh)) (pre++flatE e++post) pre.length).1) v
 | [],pre,post=>⟨by simp [mkE,flatE],fun i v h=>h⟩
 | (k,t)::e,pre,post=>by
  have hs:(sub t.p 0 t.sh.size).length=t.sh.size:=sub_length _ _ _
  have ef:pre++flatE ((k,t)::e)++post=(pre++sub t.p 0 t.sh.size)++flatE e++post:=by simp [flatE,List.append_assoc]
  obtain ⟨k1,k2⟩:=mkE_ok e (pre++sub t.p 0 t.sh.size) post
  have hl:(pre++sub t.p 0 t.sh.size).length=pre.length+t.sh.size:=by rw [List.length_append,hs]
  rw [hl,← ef] at k1 k2
  have hfl:(flatE ((k,t)::e)).length=t.sh.size+(flatE e).length:=by simp [flatE,hs]
  refine ⟨?_,fun i v h=>?_⟩
  ·simp only [List.map_cons,mkE]
   rw [k1,hfl]; omega
  ·simp only [List.map_cons,mkE,look]
   unfold look at h
   by_cases hi:i=k
   ·subst hi
    simp only [beq_self_eq_true,cond_true] at h ⊢
    refine vs_congr (fun j hj=>?_) h
    have hj:j<t.sh.size:=hj
    have e1:pre++flatE ((i,t)::e)++post=pre++sub t.p 0 t.sh.size++(flatE e++post):=by simp [flatE,List.append_assoc]
    show gd t.p j=gd (sub (pre++flatE ((i,t)::e)++post) pre.length t.sh.size) j
    rw [gd_sub _ _ _ _ hj,e1,gd_mid _ _ _ _ (by rw [hs]; exact hj),gd_sub _ _ _ _ hj,Nat.zero_add]
   ·rw [show (i==k)=false from by simpa using hi,cond_false] at h ⊢
    exact k2 i v h
theorem mkH_ok:∀ (h:Boxes) (pre post:List D) (i:Nat) cs ds,hlook i (mkH (h.map fun p=>(p.1,p.2.1)) (pre++flatH h++post) pre.length)=some (cs,ds)→∃ ds0,hlook i h=some (cs,ds0)∧ds.length=cs.length∧∀ j,j<cs.length→gd ds0 j=gd ds j
 | [],pre,post,i,cs,ds,h=>by simp [mkH,hlook] at h
 | (k,c,d)::r,pre,post,i,cs,ds,h=>by
  have hs:(sub d 0 c.length).length=c.length:=sub_length _ _ _
  have ef:pre++flatH ((k,c,d)::r)++post=(pre++sub d 0 c.length)++flatH r++post:=by simp [flatH,List.append_assoc]
  simp only [List.map_cons,mkH,hlook] at h ⊢
  by_cases hi:i=k
  ·subst hi
   simp only [beq_self_eq_true,cond_true,Option.some.injEq,Prod.mk.injEq] at h ⊢
   obtain ⟨rfl,rfl⟩:=h
   refine ⟨d,⟨rfl,rfl⟩,sub_length _ _ _,fun j hj=>?_⟩
   have e1:pre++flatH ((i,c,d)::r)++post=pre++sub d 0 c.length++(flatH r++post):=by simp [flatH,List.append_assoc]
   rw [gd_sub _ _ _ _ hj,e1,gd_mid _ _ _ _ (by rw [hs]; exact hj),gd_sub _ _ _ _ hj,Nat.zero_add]
  ·rw [show (i==k)=false from by simpa using hi,cond_false] at h ⊢
   rw [ef,show pre.length+c.length=(pre++sub d 0 c.length).length from by rw [List.length_append,hs]] at h
   exact mkH_ok r _ post i cs ds h
theorem Rel.mkSt (hr:Rel P w g base σ a) (hre:σ.r = []):Rel P w g base (mkSt σ.dom σ.flat) a:=by
 have e1:=mkE_ok (P:=P) (w:=w) (g:=g) (base:=base) σ.e [] (flatH σ.h)
 simp only [List.nil_append,List.length_nil,Nat.zero_add] at e1
 refine ⟨fun i=>?_,fun id cs ds h=>?_,hr.fresh,hr.base_le,hr.defers,hr.low,hr.mine⟩
 ·refine e1.2 i _ ?_
  have:=hr.env i
  rw [hre] at this
  exact this
 ·have h:hlook id (mkH (σ.h.map fun p=>(p.1,p.2.1)) (flatE σ.e++flatH σ.h) (mkE (σ.e.map fun p=>(p.1,p.2.sh)) (flatE σ.e++flatH σ.h) 0).2)=some (cs,ds):=h
  rw [e1.1] at h
  have:=mkH_ok σ.h (flatE σ.e) [] id cs ds (by rw [List.append_nil]; exact h)
  obtain ⟨ds0,h1,h2,h3⟩:=this
  obtain ⟨k1,k2,k3,kl,arr,E,k4,k5⟩:=hr.box id cs ds0 h1
  exact ⟨k1,k2,k3,h2,arr,E,k4,vcs_congr h3 k5⟩
end
end Go.Proofs.YtpdfmcmnjikppaaGreat
namespace Go.Proofs.YtpdfmcmnjikppaaGreat
open Go.RowKit
section
variable {P:Program} {ops:Array Oper}
def QF:Exit→Act→World→Prop:=fun _ _ _=>False
theorem wp_QF {o:Oper} {a:Act} {w:World} {K K':Act→World→Prop} {Q:Exit→Act→World→Prop} (hK:∀ a w,K a w→K' a w) (hh:o.wp P a w K QF):o.wp P a w K' Q:=by
 unfold Oper.wp at *
 generalize (execOp a.eval o).run P w=r at *
 cases r with
 | ok n w' =>
  cases n <;> simp only [Oper.upon] at hh ⊢
  case value=>exact hK _ _ hh
  case skip=>exact hK _ _ hh
  case defer=>exact hK _ _ hh
  case enter =>
   refine Calls.mono hh fun e w'' he=>?_
   cases e with
   | returned v=>exact hK _ _ he
   | panicked c=>exact he.elim
   | outgrown=>obtain ⟨_,_,h⟩:=he; exact h.elim
  case row=>exact Rows.mono hh fun _ _ he=>hK _ _ he
 | halt x w' =>
  cases x <;> simp only [Oper.upon] at hh
  exact hh.elim
theorem wpOp_QF {i:Nat} {a:Act} {w:World} {K K':Act→World→Prop} {Q:Exit→Act→World→Prop} (hK:∀ a w,K a w→K' a w) (hh:wpOp P ops QF i K a w):wpOp P ops Q i K' a w:=by
 unfold wpOp at *
 split
 ·exact hK _ _ (by simpa [*] using hh)
 ·rename_i o ho
  simp only [ho] at hh
  split
  ·rename_i hw
   simp only [hw,if_true] at hh
   rcases hh with hh | ⟨_,_,_,hl⟩
   ·exact .inl (wp_QF hK hh)
   ·exact hl.elim
  ·rename_i hw; simp only [hw] at hh; exact hK _ _ hh
def Grew (ops:Array Oper) (B:Nat) (i:Nat) (w w':World):Prop:=w.heap.size≤w'.heap.size∧(alone ops i=false→∀ o,ops[i]?=some o→(calm o=true→Below w.heap.size w w')∧(storeTo ops o=true→Below B w w'))
theorem Grew.refl {ops:Array Oper} {B i:Nat} {w:World}:Grew ops B i w w:=⟨Nat.le_refl _,fun _ _ _=>⟨fun _=>Below.refl _ _,fun _=>Below.refl _ _⟩⟩
def wpAnyB (P:Program) (ops:Array Oper) (B:Nat) (Q:Act→World→Prop):Nat→Array Bool→Act→World→Prop
 | 0,listed,a,w=>Region.ready .any ops listed = []∧Q a w
 | n+1,listed,a,w =>
  (Region.ready .any ops listed = []→Q a w) ∧
  ∀ i∈Region.ready .any ops listed,wpOp P ops QF i (fun a' w'=>Grew ops B i w w'∧wpAnyB P ops B Q n (listed.setIfInBounds i true) a' w') a w
theorem wpAny_of_B {B:Nat} {Q:Act→World→Prop} {Q':Exit→Act→World→Prop} (hQ:∀ a w,Q a w→Q' .normal a w):∀ (n:Nat) (listed:Array Bool) (a:Act) (w:World),wpAnyB P ops B Q n listed a w→wpAny P .any ops Q' n listed a w
 | 0,_,_,_,h=>⟨h.1,hQ _ _ h.2⟩
 | n+1,_,_,_,h=>⟨fun h0=>hQ _ _ (h.1 h0),fun i hi=>wpOp_QF (fun a' w' h'=>wpAny_of_B hQ n _ a' w' h'.2) (h.2 i hi)⟩
def YieldsP (P:Program) (ops:Array Oper) (B:Nat) (o:Oper) (v:Value) (a:Act) (w:World):Prop:=
 (Region.wanted o (yielded ops a.tmps)=true∧∀ w',(Below B w w'∨noMem o=true)→(execOp a.eval o).run P w'=.ok (.value v) w')∨(Region.wanted o (yielded ops a.tmps)=false∧v=undef)
theorem YieldsP.wpOp {B i:Nat} {o:Oper} {v:Value} {a:Act} {w:World} {Q:Exit→Act→World→Prop} (hi:ops[i]?=some o) (hy:YieldsP P ops B o v a w) {K:Act→World→Prop} (h:K (a.put o.dst v) w):wpOp P ops Q i K a w:=by
 unfold Go.wpOp
 simp only [hi]
 rcases hy with ⟨hw,hv⟩ | ⟨hw,rfl⟩
 ·simp only [hw,if_true,Oper.wp,hv w (.inl (Below.refl _ _)),Oper.upon]; exact .inl h
 ·simp only [hw,Bool.false_eq_true,if_false]; exact h
theorem YieldsP.later {B:Nat} {o:Oper} {v:Value} {a:Act} {w w':World} (hy:YieldsP P ops B o v a w) (h:Below B w w'∨noMem o=true):YieldsP P ops B o v a w':=by
 rcases hy with ⟨hw,hv⟩ | hy
 ·refine .inl ⟨hw,fun w'' h'=>hv w'' ?_⟩
  rcases h with h | h
  ·exact h'.imp (fun h'=>h.trans h') id
  ·exact .inr h
 ·exact .inr hy
theorem wpOp_apart {B j:Nat} {oi oj:Oper} {v:Value} {w:World} (hj:ops[j]?=some oj) (hap:oi.apart ops oj=true) (hsi:∀ cs b,oi.op≠.select cs b) (hsj:∀ cs b,oj.op≠.select cs b) {K:Act→World→Prop} {a:Act}
  (hy:YieldsP P ops B oi v a w) (h:wpOp P ops QF j K (a.put oi.dst v) w):wpOp P ops QF j (fun a' w'=>YieldsP P ops B oi v a' w∧K (a'.put oi.dst v) w') a w:=by
 obtain ⟨h1,h2,h3⟩:=Oper.apart_spec hap
 have keep:∀ u,YieldsP P ops B oi v (a.put oj.dst u) w:=fun u=>by
  unfold YieldsP at *
  rw [execOp_put oi hsi a oj.dst u h3,wanted_put oi a oj.dst u h3]
  exact hy
 unfold wpOp at *
 simp only [hj] at *
 rw [wanted_put oj a oi.dst v h1] at h
 split
 ·rename_i hw
  simp only [hw,if_true] at h
  rcases h with h | ⟨_,_,_,hl⟩
  ·refine .inl ?_
   unfold Oper.wp at *
   rw [execOp_put oj hsj a oi.dst v h1] at h
   generalize (execOp a.eval oj).run P w=r at *
   cases r with
   | ok n w' =>
    cases n <;> simp only [Oper.upon] at h ⊢
    case value u=>exact ⟨keep u,by rw [← Act.put_comm a v u h2]; exact h⟩
    case skip=>exact ⟨keep _,by rw [← Act.put_comm a v undef h2]; exact h⟩
    case defer d =>
     refine ⟨?_,?_⟩
     ·have:=keep undef
      unfold YieldsP at this ⊢
      cases hdd:oj.dst <;> rw [hdd] at this <;> exact this
     ·rw [← Act.put_comm _ v undef h2,← Act.put_defers]
      exact h
    case enter f args =>
     refine Calls.mono h fun e w'' he=>?_
     cases e with
     | returned u=>exact ⟨keep u,by rw [← Act.put_comm a v u h2]; exact he⟩
     | panicked c=>exact he.elim
     | outgrown=>exact he
    case row row args=>exact Rows.mono h fun u w'' he=>⟨keep u,by rw [← Act.put_comm a v u h2]; exact he⟩
   | halt x w' =>
    cases x <;> simp only [Oper.upon] at h
    exact h.elim
  ·exact hl.elim
 ·rename_i hw
  simp only [hw] at h
  exact ⟨keep _,by rw [← Act.put_comm a v undef h2]; exact h⟩
def Waits (ops:Array Oper) (listed:Array Bool) (i:Nat) (S:Nat→Bool):Prop:=∀ j,S j=true→listed.getD j true=false∧∃ oj,ops[j]?=some oj∧∃ e∈oj.after,Region.binds .any e=true∧(e.on=i∨S e.on=true)
theorem Waits.none {ops:Array Oper} {listed:Array Bool} {i:Nat}:Waits ops listed i (fun _=>false):=fun j h=>by cases h
def Closed (ops:Array Oper) (listed:Array Bool):Prop:=∀ k ok,ops[k]?=some ok→listed.getD k false=true→∀ e∈ok.after,Region.binds .any e=true→listed.getD e.on false=true
theorem Closed.start (ops:Array Oper):Closed ops (Array.replicate ops.size false):=fun k ok hk hl=>by
 have:=(Array.getElem?_eq_some_iff.1 hk).1
 simp [this] at hl
theorem Closed.step {ops:Array Oper} {listed:Array Bool} {i:Nat} (h:Closed ops listed) (hi:i∈Region.ready .any ops listed):Closed ops (listed.setIfInBounds i true):=fun k ok hk hl e he hb=>by
 by_cases hki:i=k
 ·subst hki
  obtain ⟨_,o,ho,hall⟩:=mem_ready.1 hi
  rw [hk] at ho; injection ho with ho; subst ho
  exact getD_set_true (hall e he hb)
 ·rw [getD_set_ne false hki] at hl
  exact getD_set_true (h k ok hk hl e he hb)
theorem unlisted {listed:Array Bool} {i:Nat} (h:listed.getD i true=false):listed.getD i false=true→False:=fun h'=>by
 rcases Nat.lt_or_ge i listed.size with hl | hl
 ·simp [hl] at h h'; rw [h] at h'; cases h'
 ·simp [Array.getElem?_eq_none hl] at h
theorem back_ok {ops:Array Oper} (h:backOk ops=true) {j:Nat} {oj:Oper} (hj:ops[j]?=some oj) {e:Edge} (he:e∈oj.after):e.on<j:=by
 have:=List.all_eq_true.1 h j (List.mem_range.2 (Array.getElem?_eq_some_iff.1 hj).1)
 simp only [hj] at this
 simpa using Array.all_eq_true_iff_forall_mem.1 this e he
theorem awaits_no {ops:Array Oper} {listed:Array Bool} {i j:Nat} (hb:backOk ops=true) (hcl:Closed ops listed) (hi:listed.getD i true=false) (h:awaits ops i j=true) (hj:j∈Region.ready .any ops listed):False:=by
 unfold awaits at h
 rw [Bool.and_eq_true] at h
 obtain ⟨h1,h2⟩:=h
 have h2:∃ S,Waits ops (Array.replicate ops.size false) i S∧S j=true:=by
  refine ⟨fun j=>(waits ops (Array.replicate ops.size false) i).contains j,fun j hj=>?_,h2⟩
  have:=List.all_eq_true.1 h1 j (List.contains_iff_mem.1 hj)
  simp only [Bool.and_eq_true,Bool.not_eq_true'] at this
  obtain ⟨h1,h2⟩:=this
  refine ⟨h1,?_⟩
  split at h2
  ·rename_i oj hoj
   obtain ⟨e,he,hb⟩:=Array.any_eq_true'.1 h2
   simp only [Bool.and_eq_true,Bool.or_eq_true,beq_iff_eq] at hb
   exact ⟨oj,hoj,e,he,hb.1,hb.2⟩
  ·cases h2
 obtain ⟨S,hW,hSj⟩:=h2
 have hno:∀ k,S k=true→listed.getD k false=true→False:=by
  intro k
  induction k using Nat.strongRecOn with
  | _ k ih =>
  intro hk hl
  obtain ⟨_,ok,hok,e,he,hbe,ho⟩:=hW k hk
  have hle:=hcl k ok hok hl e he hbe
  rcases ho with ho | ho
  ·rw [ho] at hle
   exact unlisted hi hle
  ·exact ih e.on (back_ok hb hok he) ho hle
 obtain ⟨_,oj,hoj,e,he,hbe,ho⟩:=hW j hSj
 obtain ⟨_,oj',hoj',hall⟩:=mem_ready.1 hj
 rw [hoj] at hoj'; injection hoj' with hoj'; subst hoj'
 have hle:=hall e he hbe
 rcases ho with ho | ho
 ·rw [ho] at hle
  exact unlisted hi hle
 ·exact hno e.on ho hle
theorem alone_no {ops:Array Oper} {listed:Array Bool} {i j:Nat} (hcl:Closed ops listed) (hi:i∈Region.ready .any ops listed) (hj:j∈Region.ready .any ops listed) (hji:j≠i) {oi:Oper} (hoi:ops[i]?=some oi):alone ops j=false∨noMem oi=true:=by
 cases h:alone ops j with
 | false=>exact .inl rfl
 | true =>
  refine .inr ?_
  unfold alone at h
  rw [Bool.and_eq_true] at h
  have:=List.all_eq_true.1 h.2 i (List.mem_range.2 (Array.getElem?_eq_some_iff.1 hoi).1)
  simp only [Bool.or_eq_true,beq_iff_eq,Ne.symm hji,false_or,hoi] at this
  rcases this with (h1 | h1) | h1
  ·exact (awaits_no h.1 hcl (mem_ready.1 hi).1 h1 hj).elim
  ·exact (awaits_no h.1 hcl (mem_ready.1 hj).1 h1 hi).elim
  ·exact h1
theorem wpAnyB_first {B B₀:Nat} {Q:Act→World→Prop} {i:Nat} {oi:Oper} {v:Value} {S:Nat→Bool} (hi:ops[i]?=some oi) (hsel:∀ (j:Nat) (o:Oper) cs b,ops[j]?=some o→o.op≠.select cs b) :
  ∀ (n:Nat) (listed:Array Bool) (a:Act) (w:World),
   Closed ops listed→Waits ops listed i S→(∀ j oj,ops[j]?=some oj→j≠i→listed.getD j true=false→S j=false→(∀ e∈oj.after,Region.binds .any e=true→e.on≠i)→oi.apart ops oj=true∧(calm oj=true∨storeTo ops oj=true∧B₀=B))→B₀≤w.heap.size →
   i∈Region.ready .any ops listed→YieldsP P ops B₀ oi v a w→wpAnyB P ops B Q n (listed.setIfInBounds i true) (a.put oi.dst v) w→wpAnyB P ops B Q (n+1) listed a w:=by
 intro n
 induction n with
 | zero =>
  intro listed a w _ _ _ _ hr hy H
  refine ⟨fun h=>(by rw [h] at hr; cases hr),fun j hj=>?_⟩
  by_cases hji:j=i
  ·subst hji; exact hy.wpOp hi ⟨Grew.refl,H⟩
  ·have:=ready_mono hj hji
   rw [H.1] at this
   cases this
 | succ n ih =>
  intro listed a w hcl hS hfree hB0 hr hy H
  refine ⟨fun h=>(by rw [h] at hr; cases hr),fun j hj=>?_⟩
  by_cases hji:j=i
  ·subst hji; exact hy.wpOp hi ⟨Grew.refl,H⟩
  ·have h1:=H.2 j (ready_mono hj hji)
   obtain ⟨hjun,oj,hoj,hall⟩:=mem_ready.1 hj
   have hnot:∀ e∈oj.after,Region.binds .any e=true→e.on≠i:=fun e he hb heq=>by
    have h1:=hall e he hb
    have h0:=(mem_ready.1 hr).1
    rw [heq] at h1
    rcases Nat.lt_or_ge i listed.size with h' | h'
    ·simp [h'] at h0 h1; rw [h0] at h1; cases h1
    ·simp [Array.getElem?_eq_none h'] at h1
   have hSj:S j=false:=by
    cases hsj:S j with
    | false=>rfl
    | true =>
     obtain ⟨_,oj',hoj',e,he,hb,ho⟩:=hS j hsj
     rw [hoj] at hoj'; injection hoj' with hoj'; subst hoj'
     rcases ho with ho | ho
     ·exact absurd ho (hnot e he hb)
     ·have h1:=hall e he hb
      have h0:=(hS e.on ho).1
      rcases Nat.lt_or_ge e.on listed.size with h' | h'
      ·simp [h'] at h0 h1; rw [h0] at h1; cases h1
      ·simp [Array.getElem?_eq_none h'] at h1
   obtain ⟨hap,hcalm⟩:=hfree j oj hoj hji hjun hSj hnot
   have h2:=wpOp_apart hoj hap (fun cs b=>hsel i oi cs b hi) (fun cs b=>hsel j oj cs b hoj) hy h1
   refine wpOp_QF (fun a' w' h3=>?_) h2
   obtain ⟨h3,h4,h5⟩:=h3
   have hBB:Below B₀ w w'∨noMem oi=true:=by
    rcases alone_no hcl hr hj hji hi with hal | hnm
    ·obtain ⟨g1,g2⟩:=h4.2 hal oj hoj
     rcases hcalm with hc | ⟨hc,rfl⟩
     ·exact .inl ((g1 hc).mono hB0)
     ·exact .inl (g2 hc)
    ·exact .inr hnm
   refine ⟨h4,ih (listed.setIfInBounds j true) a' w' (hcl.step hj) (fun k hk=>by
    obtain ⟨q1,q2⟩:=hS k hk
    refine ⟨?_,q2⟩
    have hne:j≠k:=fun e=>by rw [← e,hSj] at hk; cases hk
    rw [getD_set_ne true hne]; exact q1) (fun k ok hk hki hun hks hno=>?_) (Nat.le_trans hB0 h4.1) (ready_mono hr (Ne.symm hji)) (h3.later hBB) ?_⟩
   ·refine hfree k ok hk hki ?_ hks hno
    by_cases hjk:j=k
    ·subst hjk; exact hjun
    ·rw [getD_set_ne true hjk] at hun; exact hun
   ·rw [Array.setIfInBounds_comm _ _ hji]
    exact h5
end
section
variable [Low] {P:Program} {w w':World} {g g':G} {base:Nat} {σ:St} {a:Act}
theorem isQ_pure {call:FuncId→List T→Option (T × Bool)} {o:Oper} (h:isQ o=true):evOp P call σ o=evPure P σ o:=by
 obtain ⟨dst,op,ty,pos,after,guard⟩:=o
 cases op with
 | assign x =>
  cases x with
  | const v=>cases v with
   | slice A n c =>
    cases A with
    | none=>cases n with
     | zero=>cases c with
      | zero=>simp [isQ] at h
      | succ c=>cases dst <;> rfl
     | succ n=>cases dst <;> rfl
    | some A=>cases dst <;> rfl
   | _=>cases dst <;> rfl
  | _=>cases dst <;> rfl
 | call c =>
  obtain ⟨callee,args,ts⟩:=c
  cases callee with
  | builtin b=>cases b <;> first | (simp [isQ] at h; done) | rfl
  | _=>simp [isQ] at h
 | _=>first | (simp [isQ] at h; done) | (cases dst <;> rfl)
theorem pure_ok (hr:Rel P w g base σ a) {o:Oper} {σ':St} (hd:∀ d,o.dst=some d→d<a.tmps.size) (h:evPure P σ o=some (σ',true)) :
  ∃ z,(∀ w',(Below w.heap.size w w'∨noMem o=true)→(execOp a.eval o).run P w'=.ok (.value z) w')∧Rel P w g base σ' (a.put o.dst z):=by
 unfold evPure at h
 split at h
 ·rename_i v ok hq
  simp only [Option.some.injEq,Prod.mk.injEq] at h
  obtain ⟨rfl,rfl⟩:=h
  obtain ⟨z,h1,h2⟩:=evQ_ok hr hq
  exact ⟨z,h1,hr.put hd h2⟩
 ·cases h
structure After (o:Oper) (a:Act) (z:Value) (w w':World):Prop where
 calm:calm o=true→Below w.heap.size w w'
 pure:isQ o=true→w'=w
 box:isA o=true→z=.pointer (some ⟨w.heap.size,0,none⟩)
 store:∀ t d x B,o.op=.store t (.tmp d) x→(∀ b off,a.tmps.getD d undef=.pointer (some ⟨b,off,none⟩)→B≤b)→Below B w w'
theorem evW0_not {call:FuncId→List T→Option (T × Bool)} (hnw:∀ f args r ok,call f args=some (r,ok)→r.sh.isW=false) {dst:Option Nat} {f:Operand} {xs:List Operand} {r:St × Bool} (h:evW0 P call σ dst f xs=some r):False:=by
 unfold evW0 at h
 split at h
 ·split at h
  ·split at h
   ·rename_i r' ok hc
    have hw:=hnw _ _ _ _ hc
    rename_i t _ _ _
    cases hq:(rowOf P _==some [.int .i64]&&t.1 != 1000001) with
    | false=>rw [hq] at h; cases h
    | true =>
     rw [hq,cond_true] at h
     split at h
     ·rename_i e; rw [e] at hw; cases hw
     ·rename_i e; rw [e] at hw; cases hw
     ·cases h
   ·cases h
  ·cases h
 ·cases h
theorem evW_not {call:FuncId→List T→Option (T × Bool)} (hnw:∀ f args r ok,call f args=some (r,ok)→r.sh.isW=false) {dst:Option Nat} {f:Operand} {xs:List Operand} {tys:List TypeId} {r:St × Bool} (h:evW P call σ dst f xs tys=some r):False:=by
 unfold evW at h
 split at h
 ·rename_i r0 he
  exact evW0_not hnw he
 ·split at h
  ·rename_i r0 hk
   clear h
   have h:=hk
   clear hk
   unfold evK at h
   split at h
   ·split at h
    ·split at h
     ·split at h
      ·rename_i r' ok hc
       have hw:=isK_W (hnw _ _ _ _ hc)
       rw [hw,Bool.false_and,Bool.false_and,Bool.false_and,Bool.false_and] at h
       cases h
      ·cases h
     ·cases h
    ·cases h
   ·cases h
  ·split at h
   ·rename_i r0 hi
    clear h
    have h:=hi
    clear hi
    unfold evMi at h
    split at h
    ·split at h
     ·split at h
      ·rename_i r' ok hc
       have hw:=isM_W (hnw _ _ _ _ hc)
       rw [hw] at h
       cases h
      ·cases h
     ·cases h
    ·cases h
   ·split at h
    ·rename_i r0 hi
     clear h
     have h:=hi
     clear hi
     unfold evX at h
     split at h
     ·split at h
      ·split at h
       ·split at h
        ·rename_i r' ok hc
         have hw:=isX_W (hnw _ _ _ _ hc)
         rw [hw,Bool.false_and,Bool.false_and] at h
         cases h
        ·cases h
       ·split at h
        ·rename_i r' ok hc
         have hw:=isX_W (hnw _ _ _ _ hc)
         rw [hw,Bool.false_and,Bool.false_and,Bool.false_and,Bool.false_and,Bool.false_and,Bool.false_and] at h
         cases h
        ·cases h
       ·cases h
      ·cases h
     ·cases h
    ·unfold evM at h
     split at h
     ·split at h
      ·split at h
       ·rename_i r' ok hc
        have hw:=isM_W (hnw _ _ _ _ hc)
        rw [hw,Bool.false_and,Bool.false_and] at h
        cases h
       ·cases h
      ·cases h
     ·cases h
theorem evP_not {call:FuncId→List T→Option (T × Bool)} (hnw:∀ f args r ok,call f args=some (r,ok)→r.sh.isW=false) {d:Nat} {f:Operand} {xs:List Operand} {r:St × Bool} (h:evP P call σ d f xs=some r):False:=by
 unfold evP at h
 split at h
 ·split at h
  ·split at h
   ·split at h
    ·split at h
     ·rename_i r' ok hc
      have hw:=hnw _ _ _ _ hc
      split at h
      ·rename_i e
       rw [e] at hw
       cases hw
      ·cases h
     ·cases h
    ·cases h
   ·cases h
  ·cases h
 ·cases h
theorem evOp_goesC (hr:Rel P w g base σ a) {call:FuncId→List T→Option (T × Bool)} (hcall:CallOk P call) (hnw:∀ f args r ok,call f args=some (r,ok)→r.sh.isW=false) {o:Oper} {σ':St} (hd:∀ d,o.dst=some d→d<a.tmps.size) (h:evOp P call σ o=some (σ',true)) :
  ∀ (K:Act→World→Prop) (Q:Exit→Act→World→Prop),(∀ z w' g',Rel P w' g' base σ' (a.put o.dst z)→Below base w w'→After o a z w w'→K (a.put o.dst z) w')→o.wp P a w K Q:=by
 intro K Q hK
 cases hs:(match o.op with | .store _ _ _=>true | _=>false) with
 | true =>
  obtain ⟨dst,op,ty,pos,after,guard⟩:=o
  cases op with
  | store t p x =>
   obtain ⟨z,w',g',h1,h2,h3,h4⟩:=evStore_okS (o:=⟨dst,.store t p x,ty,pos,after,guard⟩) hr rfl hd (by cases dst <;> exact h)
   have hA:After ⟨dst,.store t p x,ty,pos,after,guard⟩ a z w w':=⟨fun h=>by cases dst <;> simp [calm,isQ,isC,isA,isM] at h,fun h=>by simp [isQ] at h,fun h=>by cases dst <;> simp [isA] at h,fun t' d x' B he hB=>h4 B fun b o hb=>by
    injection he with _ e2 _
    subst e2
    exact hB b o hb⟩
   unfold Oper.wp
   rcases h1 with h1 | ⟨h1,rfl⟩
   ·rw [h1]; exact hK z w' g' h2 h3 hA
   ·rw [h1]; exact hK undef w' g' h2 h3 hA
  | _=>simp at hs
 | false =>
 have hns:∀ t d x,o.op≠.store t d x:=fun t d x e=>by rw [e] at hs; cases hs
 cases hc:calm o with
 | false=>exact evOp_goes hr hcall hd h K Q fun z w' g' h1 h2=>hK z w' g' h1 h2 ⟨fun h=>by rw [hc] at h; (cases h),fun h=>by simp [calm,h] at hc,fun h=>by simp [calm,h] at hc,fun t d x _ e=>absurd e (hns t _ x)⟩
 | true =>
  cases hq:isQ o with
  | true =>
   rw [isQ_pure hq] at h
   obtain ⟨z,h1,h2⟩:=pure_ok hr hd h
   unfold Oper.wp
   rw [h1 w (.inl (Below.refl _ _))]
   exact hK z w g h2 (Below.refl _ _) ⟨fun _=>Below.refl _ _,fun _=>rfl,fun h=>by
    obtain ⟨dst,op,ty,pos,after,guard⟩:=o
    cases op <;> first | (simp [isQ] at hq; done) | (simp [isA] at h; done),fun t d x _ e=>absurd e (hns t _ x)⟩
  | false =>
   cases ha:isA o with
   | true =>
    obtain ⟨dst,op,ty,pos,after,guard⟩:=o
    cases op with
    | alloc t =>
     cases dst with
     | none=>simp [isA] at ha
     | some d =>
      obtain ⟨z,w',g',h1,h2,h3,h4,h5⟩:=evAlloc_okB (o:=⟨some d,.alloc t,ty,pos,after,guard⟩) hr rfl rfl hd h
      unfold Oper.wp
      rw [h1]
      exact hK z w' g' h2 h3 ⟨fun _=>h4,fun h=>by simp [isQ] at h,fun _=>h5,fun t d x _ e=>absurd e (hns t _ x)⟩
    | _=>simp [isA] at ha
   | false =>
    cases hm:isM o with
    | true =>
     have hd1:DoesC P base σ' o a w:=by
      obtain ⟨dst,op,ty,pos,after,guard⟩:=o
      cases dst with
      | none=>cases op <;> first | (simp [isM] at hm; done) | (unfold isM at hm; split at hm <;> simp_all)
      | some d =>
       cases op with
       | box t x=>exact evBox_ok (o:=⟨some d,.box t x,ty,pos,after,guard⟩) hr rfl rfl hd h
       | build t ps=>exact evBuild_ok (o:=⟨some d,.build t ps,ty,pos,after,guard⟩) hr rfl rfl hd h
       | buildSlice t n ps =>
        have h:(bif deepAt call d then evBuildSliceD P σ d t n ps.toList else evBuildSlice P σ d t n ps.toList)=some (σ',true):=h
        cases hdp:deepAt call d with
        | false=>rw [hdp,cond_false] at h; exact evBuildSlice_ok (o:=⟨some d,.buildSlice t n ps,ty,pos,after,guard⟩) hr rfl rfl hd h
        | true=>rw [hdp,cond_true] at h; exact evBuildSliceD_ok (o:=⟨some d,.buildSlice t n ps,ty,pos,after,guard⟩) hr rfl rfl hd h
       | makeSlice t n c=>exact evMakeSlice_ok (o:=⟨some d,.makeSlice t n c,ty,pos,after,guard⟩) hr rfl rfl hd h
       | assign x =>
        have hx:x=.const (.slice none 0 0):=by
         unfold isM at hm
         split at hm <;> simp_all
        subst hx
        exact evNil_ok (o:=⟨some d,.assign (.const (.slice none 0 0)),ty,pos,after,guard⟩) hr rfl rfl hd h
       | _=>simp [isM] at hm
     obtain ⟨z,w',g',h1,h2,h3,h4⟩:=hd1
     have hA:After o a z w w':=⟨fun _=>h4,fun h=>(by rw [hq] at h; cases h),fun h=>(by rw [ha] at h; cases h),fun t d x _ e=>absurd e (hns t _ x)⟩
     unfold Oper.wp
     rcases h1 with h1 | ⟨h1,rfl⟩
     ·rw [h1]; exact hK z w' g' h2 h3 hA
     ·rw [h1]; exact hK undef w' g' h2 h3 hA
    | false =>
    have hcc:isC o=true:=by simpa [calm,hq,ha,hm] using hc
    obtain ⟨dst,op,ty,pos,after,guard⟩:=o
    cases op with
    | call c =>
     obtain ⟨callee,args,ts⟩:=c
     cases callee with
     | value f =>
      cases dst with
      | none=>simp only [evOp,evPure,evQ] at h; cases h
      | some d =>
       simp only [evOp] at h
       split at h
       ·rename_i r he
        exact (evW_not hnw he).elim
       ·split at h
        rotate_left
        ·exact (evP_not hnw h).elim
        rename_i r he
        injection h with h
        subst h
        exact evCall_ok hr hcall rfl rfl hd he K Q fun z w' g' h1 h2 h3=>hK z w' g' h1 h2 ⟨fun _=>h3,fun h=>by simp [isQ] at h,fun h=>by simp [isA] at h,fun t d x _ e=>absurd e (hns t _ x)⟩
     | _=>simp [isC] at hcc
    | _=>simp [isC] at hcc
theorem evStepG_ok (hr:Rel P w g base σ a) {ops:Array Oper} (hops:∀ o∈ops.toList,∀ d,o.dst=some d→d<a.tmps.size) {o:Oper} {y k:St→R} {key:Option Dom} {out:Nat × List D} (hd:∀ d,o.dst=some d→d<a.tmps.size)
  (h:evStepG ops σ o y k=some (key,some out)) :
  (Region.wanted o (yielded ops a.tmps)=true∧∃ σ₂ key',Rel P w g base σ₂ a∧y σ₂=some (key',some out)) ∨
  (Region.wanted o (yielded ops a.tmps)=false∧∃ σ₂ key',Rel P w g base σ₂ (a.put o.dst undef)∧k σ₂=some (key',some out)):=by
 have hw:=want_ok hr hops (o:=o)
 have hput:∀ {σ:St},Rel P w g base σ a→Rel P w g base (σ.put o.dst .none_) (a.put o.dst undef):=fun hr=>hr.put hd (t:=.none_) ⟨#[],rfl,rfl,fun j x h=>by simp at h⟩
 unfold evStepG at h
 cases hq:want ops σ o with
 | yes=>rw [hq] at h hw; exact .inl ⟨hw,σ,key,hr,h⟩
 | no=>rw [hq] at h hw; exact .inr ⟨hw,_,key,hput hr,h⟩
 | ask t gg b =>
  rw [hq] at h hw
  simp only at h hw
  obtain ⟨ht,hv,hw⟩:=hw
  obtain ⟨h1,h2⟩:=rcond_ok h
  have hkb:∀ c:Bool,gg=c→Rel P w g base (σ.put (some t) (.c (.kb c) D0)) a:=fun c hc=>by
   have:=hr.put (dst:=some t) (fun d hd=>by injection hd with hd; subst hd; exact ht) (t:=.c (.kb c) D0) (v:=.bool gg) (by rw [hc]; exact rfl)
   have e:a.put (some t) (.bool gg)=a:=by
    rw [← hv]
    obtain ⟨tm,df⟩:=a
    simp only [Act.put]
    congr 1
    refine Array.ext_getElem? fun i=>?_
    rw [Array.getElem?_setIfInBounds]
    split
    ·rename_i e
     subst e
     have ht':t<tm.size:=ht
     first
      | exact (Array.getElem?_eq_getElem ht').symm
      | (rw [if_pos ht',Array.getD_eq_getD_getElem?,Array.getElem?_eq_getElem ht']; rfl)
    ·rfl
   rwa [e] at this
  cases gg with
  | true =>
   obtain ⟨k',h1⟩:=h1 rfl
   cases b with
   | true=>exact .inl ⟨by rw [hw]; rfl,_,k',hkb true rfl,h1⟩
   | false=>exact .inr ⟨by rw [hw]; rfl,_,k',hput (hkb true rfl),h1⟩
  | false =>
   obtain ⟨k',h2⟩:=h2 rfl
   cases b with
   | true=>exact .inr ⟨by rw [hw]; rfl,_,k',hput (hkb false rfl),h2⟩
   | false=>exact .inl ⟨by rw [hw]; rfl,_,k',hkb false rfl,h2⟩
 | bad=>rw [hq] at h; cases h
theorem waits_ok {ops:Array Oper} {listed:Array Bool} {i:Nat} {S:List Nat} (h:waitsOk ops listed i S=true):Waits ops listed i (fun j=>S.contains j):=by
 intro j hj
 have:=List.all_eq_true.1 h j (List.contains_iff_mem.1 hj)
 simp only [Bool.and_eq_true,Bool.not_eq_true'] at this
 obtain ⟨h1,h2⟩:=this
 refine ⟨h1,?_⟩
 split at h2
 ·rename_i oj hoj
  obtain ⟨e,he,hb⟩:=Array.any_eq_true'.1 h2
  simp only [Bool.and_eq_true,Bool.or_eq_true,beq_iff_eq] at hb
  exact ⟨oj,hoj,e,he,hb.1,hb.2⟩
 ·cases h2
theorem early_ok {ops:Array Oper} {listed:Array Bool} {i:Nat} {oi:Oper} (hi:ops[i]?=some oi) (h:early ops listed i=true) :
  isQ oi=true∧∃ S,Waits ops listed i S∧∀ j oj,ops[j]?=some oj→j≠i→listed.getD j true=false→S j=false→(∀ e∈oj.after,Region.binds .any e=true→e.on≠i)→oi.apart ops oj=true∧calm oj=true:=by
 unfold early at h
 rw [Bool.or_eq_true] at h
 rcases h with h | h
 ·unfold earlyT at h
  simp only [hi,Bool.and_eq_true] at h
  obtain ⟨⟨⟨_,h1⟩,h2⟩,h3⟩:=h
  refine ⟨h1,_,waits_ok h2,fun j oj hj hne hun hS hno=>?_⟩
  have:=List.all_eq_true.1 h3 j (List.mem_range.2 (Array.getElem?_eq_some_iff.1 hj).1)
  simp only [hj,Bool.or_eq_true,beq_iff_eq,hne,false_or,hun,hS,Bool.false_eq_true,Bool.and_eq_true] at this
  exact this
 ·simp only [hi,Bool.and_eq_true] at h
  obtain ⟨⟨h1,h2⟩,h3⟩:=h
  refine ⟨h1,_,Waits.none,fun j oj hj hne hun _ hno=>⟨Region.free_spec hi h2 j oj hj hne hun hno,?_⟩⟩
  have:=List.all_eq_true.1 h3 j (List.mem_range.2 (Array.getElem?_eq_some_iff.1 hj).1)
  simp only [hj,Bool.or_eq_true,beq_iff_eq,hne,false_or,hun,Bool.false_eq_true] at this
  rcases this with h | h
  ·exact h
  ·obtain ⟨e,he,hb⟩:=Array.any_eq_true'.1 h
   simp only [Bool.and_eq_true,beq_iff_eq] at hb
   exact absurd hb.2 (hno e he hb.1)
theorem early_okM {ops:Array Oper} {listed:Array Bool} {i:Nat} {oi:Oper} (hm:memless ops=true) (hi:ops[i]?=some oi) (h:early ops listed i=true) :
  isQ oi=true∧∀ j oj,ops[j]?=some oj→j≠i→listed.getD j true=false→(∀ e∈oj.after,Region.binds .any e=true→e.on≠i)→oi.apart ops oj=true:=by
 unfold early at h
 have e:earlyT ops listed i=false:=by unfold earlyT; rw [hi,hm]; rfl
 rw [e,Bool.false_or] at h
 simp only [hi,Bool.and_eq_true] at h
 exact ⟨h.1.1,fun j oj hj hne hun hno=>Region.free_spec hi h.1.2 j oj hj hne hun hno⟩
structure Same (σ τ:St):Prop where
 env:∀ i,look2 i σ.e σ.r=look2 i τ.e τ.r
 box:∀ i,hlook i σ.h=hlook i τ.h
theorem Rel.same (hr:Rel P w g base σ a) {τ:St} (h:Same σ τ):Rel P w g base τ a:=
 ⟨fun i=>by rw [← h.env i]; exact hr.env i,fun id cs ds hl=>hr.box id cs ds (by rw [h.box id]; exact hl),hr.fresh,hr.base_le,hr.defers,hr.low,hr.mine⟩
theorem wipeC_comm (d d':Nat) (c:Ce):wipeC d (wipeC d' c)=wipeC d' (wipeC d c):=by
 cases c with
 | own t x e=>cases x <;> cases h:(t.1==d) <;> cases h':(t.1==d') <;> simp [wipeC,h,h']
 | eptr t e off=>cases t with
  | none=>rfl
  | some t=>cases h:(t.1==d) <;> cases h':(t.1==d') <;> simp [wipeC,h,h']
 | inn t e off ei=>cases h:(t.1==d) <;> cases h':(t.1==d') <;> simp [wipeC,h,h']
 | ptr id off=>cases h:(id==d) <;> cases h':(id==d') <;> simp [wipeC,h,h']
 | fn f caps =>
  obtain ⟨b1,h1⟩:∃ b,wipeC d (.fn f caps)=bif b then .fn f caps else .any:=⟨_,rfl⟩
  obtain ⟨b2,h2⟩:∃ b,wipeC d' (.fn f caps)=bif b then .fn f caps else .any:=⟨_,rfl⟩
  rw [h1,h2]
  cases b1 <;> cases b2 <;> simp only [cond_true,cond_false,h1,h2] <;> rfl
 | _=>rfl
theorem Sh1.map_map (f f':Ce→Ce) (s:Sh1):(s.map f).map f'=s.map (f' ∘ f):=by
 cases s <;> simp [Sh1.map]
theorem Sh.map_map (f f':Ce→Ce) (s:Sh):(s.map f).map f'=s.map (f' ∘ f):=by
 cases s with
 | one x=>simp [Sh.map,Sh1.map_map]
 | tup xs =>
  simp only [Sh.map,List.map_map]
  congr 1
  refine List.map_congr_left fun x _=>?_
  exact Sh1.map_map f f' x
theorem look2_wipe (σ:St) (d i:Nat):look2 i (σ.wipe d).e (σ.wipe d).r=⟨(look2 i σ.e σ.r).sh.map (wipeC d),(look2 i σ.e σ.r).p⟩:=
 look2_map (fun t=>⟨t.sh.map (wipeC d),t.p⟩) (by rfl) σ.e i σ.r
theorem hlook_wipe (σ:St) (d i:Nat):hlook i (σ.wipe d).h=(hlook i σ.h).map fun q=>(q.1.map (wipeC d),q.2):=hlook_map_ne (wipeC d) σ i
theorem zeroC_wipe (f:S→Nat) (d d':Nat) (h:d≠d'):∀ (row:List S) (i:Nat),(zeroC f d i row).map (wipeC d')=zeroC f d i row
 | [],_=>rfl
 | s::r,i=>by
  simp only [zeroC,List.map_cons,zeroC_wipe f d d' h r (i+1)]
  congr 1
  cases s <;> simp [zC,wipeC,beq_eq_false_iff_ne.2 h]
def alloced (f:S→Nat) (σ:St) (d:Nat) (row:List S):St:=St.put ⟨(σ.wipe d).r,(σ.wipe d).e,hput d (zeroC f d 0 row,row.map zeroD) (σ.wipe d).h⟩ (some d) (.c (.ptr d 0) D0)
theorem look2_alloced (f:S→Nat) (σ:St) (d i:Nat) (row:List S):look2 i (alloced f σ d row).e (alloced f σ d row).r=if i=d then .c (.ptr d 0) D0 else ⟨(look2 i σ.e σ.r).sh.map (wipeC d),(look2 i σ.e σ.r).p⟩:=by
 show look2 i (σ.wipe d).e ((d,.c (.ptr d 0) D0)::(σ.wipe d).r)=_
 rw [look2]
 by_cases h:i=d
 ·subst h; simp
 ·rw [if_neg h,show (i==d)=false from by simpa using h,cond_false,look2_wipe]
theorem hlook_alloced (f:S→Nat) (σ:St) (d i:Nat) (row:List S):hlook i (alloced f σ d row).h=if i=d then some (zeroC f d 0 row,row.map zeroD) else (hlook i σ.h).map fun q=>(q.1.map (wipeC d),q.2):=by
 show hlook i (hput d _ (σ.wipe d).h)=_
 rw [hlook_hput,hlook_wipe]
theorem alloced_swap (f f':S→Nat) (σ:St) {d d':Nat} (h:d≠d') (row row':List S):Same (alloced f (alloced f' σ d' row') d row) (alloced f' (alloced f σ d row) d' row'):=by
 refine ⟨fun i=>?_,fun i=>?_⟩
 ·rw [look2_alloced,look2_alloced,look2_alloced,look2_alloced]
  by_cases h1:i=d
  ·subst h1
   rw [if_pos rfl,if_neg h,if_pos rfl]
   simp only [Sh.map,Sh1.map,wipeC]
   rw [show (i==d')=false from by simpa using h]
   rfl
  ·by_cases h2:i=d'
   ·subst h2
    rw [if_neg h1,if_pos rfl,if_pos rfl]
    simp only [Sh.map,Sh1.map,wipeC]
    rw [show (i==d)=false from by simpa using h1]
    rfl
   ·rw [if_neg h1,if_neg h2,if_neg h2,if_neg h1]
    simp only [Sh.map_map]
    congr 2
    funext c
    exact wipeC_comm d d' c
 ·rw [hlook_alloced,hlook_alloced,hlook_alloced,hlook_alloced]
  by_cases h1:i=d
  ·subst h1
   rw [if_pos rfl,if_neg h,if_pos rfl]
   simp only [Option.map_some,zeroC_wipe _ i d' h]
  ·by_cases h2:i=d'
   ·subst h2
    rw [if_neg h1,if_pos rfl,if_pos rfl]
    simp only [Option.map_some,zeroC_wipe _ i d (Ne.symm h)]
   ·rw [if_neg h1,if_neg h2,if_neg h2,if_neg h1]
    cases hlook i σ.h with
    | none=>rfl
    | some q =>
     simp only [Option.map_some,List.map_map]
     congr 3
     funext c
     exact wipeC_comm d d' c
theorem evAlloc_eq {d:Nat} {b:Bool} {t:TypeId} {σ':St} (h:evAlloc P σ d b t=some (σ',true)):∃ row,σ'=alloced (dzero P b) σ d row∧∀ τ,evAlloc P τ d b t=some (alloced (dzero P b) τ d row,true):=by
 unfold evAlloc at h
 split at h
 ·rename_i row hrow
  cases hz:zeroOk P t row with
  | false=>rw [hz] at h; cases h
  | true =>
   rw [hz] at h
   simp only [Bool.not_true,cond_false,Option.some.injEq,Prod.mk.injEq,and_true] at h
   exact ⟨row,h.symm,fun τ=>by simp only [evAlloc,hrow,hz,Bool.not_true,cond_false]; rfl⟩
 ·cases h
theorem isA_eq {o:Oper} (h:isA o=true):∃ d t,o.op=.alloc t∧o.dst=some d:=by
 obtain ⟨dst,op,ty,pos,after,guard⟩:=o
 cases op <;> cases dst <;> first | (simp [isA] at h; done) | exact ⟨_,_,rfl,rfl⟩
theorem plan_alloc {call:FuncId→List T→Option (T × Bool)} {ops:Array Oper} {j:Nat} {o:Oper} {d:Nat} {t:TypeId} {l:List (Nat × Bool)} {k:St→R} {key:Option Dom} {out:Nat × List D} (ho:ops[j]?=some o) (hop:o.op=.alloc t) (hdst:o.dst=some d) (hg:o.guard=none)
  (h:evPlanA P call ops ((j,false)::l) σ k=some (key,some out)):∃ σ',evAlloc P σ d (deepAt (noW call) d) t=some (σ',true)∧∃ key',evPlanA P call ops l σ' k=some (key',some out):=by
 unfold evPlanA at h
 simp only [ho,evStepG,want,hg,cond_false] at h
 unfold evYesA at h
 split at h
 ·rename_i σ' ok he
  obtain ⟨hok,hcont⟩:=rneed_ok h
  subst hok
  refine ⟨σ',?_,key,hcont⟩
  rw [← he]
  simp only [evOp,hop,hdst]
 ·rw [show isC o=false from by unfold isC; rw [hop],Bool.false_and] at h
  cases h
theorem early0_ok {ops:Array Oper} {listed:Array Bool} {i:Nat} {oi:Oper} (hi:ops[i]?=some oi) (h:early0 ops listed i=true) :
  isQ oi=true∧onlyQ ops listed=true∧∀ j oj,ops[j]?=some oj→j≠i→listed.getD j true=false→(∀ e∈oj.after,Region.binds .any e=true→e.on≠i)→oi.apart ops oj=true∧(calm oj=true∨storeTo ops oj=true):=by
 unfold early0 at h
 simp only [hi,Bool.and_eq_true] at h
 obtain ⟨⟨⟨h1,h2⟩,h4⟩,h3⟩:=h
 refine ⟨h1,h4,fun j oj hj hne hun hno=>⟨Region.free_spec hi h2 j oj hj hne hun hno,?_⟩⟩
 have:=List.all_eq_true.1 h3 j (List.mem_range.2 (Array.getElem?_eq_some_iff.1 hj).1)
 simp only [hj,Bool.or_eq_true,beq_iff_eq,hne,false_or,hun,Bool.false_eq_true] at this
 rcases this with h | h
 ·exact h
 ·obtain ⟨e,he,hb⟩:=Array.any_eq_true'.1 h
  simp only [Bool.and_eq_true,beq_iff_eq] at hb
  exact absurd hb.2 (hno e he hb.1)
def Made (ops:Array Oper) (B:Nat) (listed:Array Bool) (a:Act):Prop:=
 dstOk ops=true→∀ j o d,ops[j]?=some o→listed.getD j true=true→isA o=true→o.guard=none→o.dst=some d→∃ b off,a.tmps.getD d undef=.pointer (some ⟨b,off,none⟩)∧B≤b
theorem dstOk_ne {ops:Array Oper} (h:dstOk ops=true) {i j d:Nat} {oi oj:Oper} (hi:ops[i]?=some oi) (hj:ops[j]?=some oj) (hne:i≠j) (hd:oi.dst=some d):oj.dst≠some d:=by
 unfold dstOk at h
 have:=List.all_eq_true.1 (List.all_eq_true.1 h i (List.mem_range.2 (Array.getElem?_eq_some_iff.1 hi).1)) j (List.mem_range.2 (Array.getElem?_eq_some_iff.1 hj).1)
 simp only [hi,hj,Bool.or_eq_true,beq_iff_eq,hne,false_or,hd,Option.isNone_some,Bool.false_eq_true,bne_iff_ne,ne_eq] at this
 exact fun e=>this e.symm
theorem getD_put_none (a:Act) (dst:Option Nat) (d:Nat) (v:Value) (h:dst≠some d):(a.put dst v).tmps.getD d undef=a.tmps.getD d undef:=by
 cases dst with
 | none=>rfl
 | some e =>
  have hne:e≠d:=fun h'=>h (by rw [h'])
  simp [Act.put,Array.getElem?_setIfInBounds,hne]
theorem Made.step {ops:Array Oper} {B:Nat} {listed:Array Bool} {i:Nat} {o:Oper} {z:Value} (h:Made ops B listed a) (hi:ops[i]?=some o) (hsz:∀ d,o.dst=some d→d<a.tmps.size) (hz:isA o=true→o.guard=none→∃ b off,z=.pointer (some ⟨b,off,none⟩)∧B≤b) :
  Made ops B (listed.setIfInBounds i true) (a.put o.dst z):=by
 intro hok j oj d hj hl ha hg hd
 by_cases e:i=j
 ·subst e
  rw [hi] at hj; injection hj with hj; subst hj
  obtain ⟨b,off,rfl,hb⟩:=hz ha hg
  refine ⟨b,off,?_,hb⟩
  rw [hd]
  exact (getD_put a d d _ (hsz d hd)).trans (if_pos rfl)
 ·rw [getD_set_ne true e] at hl
  obtain ⟨b,off,h1,h2⟩:=h hok j oj d hj hl ha hg hd
  exact ⟨b,off,by rw [getD_put_none a o.dst d z (dstOk_ne hok hj hi (Ne.symm e) hd)]; exact h1,h2⟩
theorem onlyQ_of {ops:Array Oper} {listed:Array Bool} {i:Nat} (h:onlyQ ops (listed.setIfInBounds i true)=true):onlyQ ops listed=true:=by
 unfold onlyQ at h ⊢
 rw [List.all_eq_true] at h ⊢
 intro j hj
 have:=h j hj
 by_cases e:i=j
 ·subst e
  rcases Nat.lt_or_ge i listed.size with hlt | hge
  ·simp only [Bool.or_eq_true,Bool.not_eq_true'] at this ⊢
   rcases this with h | h
   ·simp [hlt] at h
   ·exact .inr h
  ·rwa [Array.setIfInBounds_eq_of_size_le hge] at this
 ·rwa [getD_set_ne true e] at this
theorem onlyQ_at {ops:Array Oper} {listed:Array Bool} {i:Nat} {o:Oper} (hi:ops[i]?=some o) (h:onlyQ ops (listed.setIfInBounds i true)=true):isQ o=true:=by
 unfold onlyQ at h
 rw [List.all_eq_true] at h
 have:=h i (List.mem_range.2 (Array.getElem?_eq_some_iff.1 hi).1)
 simp only [hi,Bool.or_eq_true,Bool.not_eq_true'] at this
 rcases this with h | h
 ·rcases Nat.lt_or_ge i listed.size with hlt | hge
  ·simp [hlt] at h
  ·rw [Array.setIfInBounds_eq_of_size_le hge,Array.getD_eq_getD_getElem?,Array.getElem?_eq_none hge] at h; cases h
 ·exact h
theorem storeTo_ok {ops:Array Oper} {o:Oper} (h:storeTo ops o=true):dstOk ops=true∧∃ t d x,o.op=.store t (.tmp d) x∧∃ e∈o.after,Region.binds .any e=true∧∃ o',ops[e.on]?=some o'∧isA o'=true∧o'.guard=none∧o'.dst=some d:=by
 unfold storeTo at h
 split at h
 ·rename_i t d x hop
  simp only [Bool.and_eq_true] at h
  obtain ⟨h1,h2⟩:=h
  obtain ⟨e,he,hb⟩:=Array.any_eq_true'.1 h2
  simp only [Bool.and_eq_true] at hb
  obtain ⟨hb,hm⟩:=hb
  split at hm
  ·rename_i o' ho'
   simp only [Bool.and_eq_true,beq_iff_eq,Option.isNone_iff_eq_none] at hm
   exact ⟨h1,t,d,x,hop,e,he,hb,o',ho',hm.1.1,hm.1.2,hm.2⟩
  ·cases hm
 ·cases h
theorem After.grew {ops:Array Oper} {B i:Nat} {listed:Array Bool} {o:Oper} {z:Value} (h:After o a z w w') (hi:ops[i]?=some o) (hm:i∈Region.ready .any ops listed) (hM:Made ops B listed a) (hsz:w.heap.size≤w'.heap.size):Grew ops B i w w':=by
 refine ⟨hsz,?_⟩
 intro _ o' ho'
 rw [hi] at ho'; injection ho' with ho'; subst ho'
 refine ⟨h.calm,fun hs=>?_⟩
 obtain ⟨hok,t,d,x,hop,e,he,hb,o',ho',ha,hg,hd⟩:=storeTo_ok hs
 obtain ⟨_,o2,ho2,hall⟩:=mem_ready.1 hm
 rw [hi] at ho2; injection ho2 with ho2; subst ho2
 have hl:listed.getD e.on true=true:=by
  have h':=hall e he hb
  rw [Array.getD_eq_getD_getElem?] at h' ⊢
  cases hq:listed[e.on]? with
  | none=>rfl
  | some b=>rw [hq] at h'; exact h'
 obtain ⟨b,off,h1,h2⟩:=hM hok e.on o' d ho' hl ha hg hd
 exact h.store t d x B hop fun b' off' hb'=>by
  rw [h1] at hb'
  injection hb' with hb'
  injection hb' with hb'
  injection hb' with hb'
  omega
theorem consO_ok {q:Nat × Bool} {o:Option (List (Nat × Bool))} {l:List (Nat × Bool)} (h:consO q o=some l):∃ r,o=some r∧l=q::r:=by
 cases o with
 | none=>cases h
 | some r=>simp only [consO,Option.some.injEq] at h; exact ⟨r,rfl,h.symm⟩
theorem ready_lt {ops:Array Oper} {listed:Array Bool} {i:Nat} (h:i∈Region.ready .any ops listed):∃ o,ops[i]?=some o:=by
 obtain ⟨_,o,ho,_⟩:=mem_ready.1 h
 exact ⟨o,ho⟩
theorem evPlan_ok {B:Nat} {call:FuncId→List T→Option (T × Bool)} (hcall:CallOk P call) {ops:Array Oper} (hs:Region.noSelect ops=true) {k:St→R} {out:Nat × List D} {n:Nat} {Q:Act→World→Prop} {w0:World} (hops:∀ o∈ops.toList,∀ d,o.dst=some d→d<n)
  (hk:∀ σ' w' g' a' key',k σ'=some (key',some out)→Rel P w' g' base σ' a'→a'.tmps.size=n→Below base w0 w'→Q a' w') :
  ∀ (m:Nat) (listed:Array Bool) (l:List (Nat × Bool)) (σ:St) (w:World) (g:G) (a:Act) (key:Option Dom),plan ops m listed=some l→evPlanA P call ops l σ k=some (key,some out)→Rel P w g base σ a→a.tmps.size=n→Below base w0 w→B≤w.heap.size→(onlyQ ops listed=true→w.heap.size=B)→Made ops B listed a→Closed ops listed→wpAnyB P ops B Q m listed a w:=by
 intro m
 induction m using Nat.strongRecOn with
 | _ m ih0 =>
 cases m with
 | zero =>
  intro listed l σ w g a key hp h hr hn hb hBw hoq hM hcl
  unfold plan at hp
  split at hp
  ·rename_i hready
   simp only [Option.some.injEq] at hp
   subst hp
   exact ⟨hready,hk σ w g a key h hr hn hb⟩
  ·cases hp
 | succ m =>
  have ih:=ih0 m (Nat.lt_succ_self m)
  intro listed l σ w g a key hp h hr hn hb hBw hoq hM hcl
  unfold plan at hp
  split at hp
  ·rename_i hready
   simp only [Option.some.injEq] at hp
   subst hp
   exact ⟨fun _=>hk σ w g a key h hr hn hb,fun i hi=>by rw [hready] at hi; cases hi⟩
  ·rename_i j r hready
   have hops':∀ o∈ops.toList,∀ d,o.dst=some d→d<a.tmps.size:=fun o ho d hd=>by rw [hn]; exact hops o ho d hd
   split at hp
   ·rename_i i hfind
    obtain ⟨l',hp',rfl⟩:=consO_ok hp
    have hearly:=List.find?_some hfind
    have hmem:i∈Region.ready .any ops listed:=by rw [hready]; exact List.mem_of_find?_eq_some hfind
    obtain ⟨o,ho⟩:=ready_lt hmem
    have hfree:∃ B₀,B₀=w.heap.size∧isQ o=true∧∃ S,Waits ops listed i S∧∀ j oj,ops[j]?=some oj→j≠i→listed.getD j true=false→S j=false→(∀ e∈oj.after,Region.binds .any e=true→e.on≠i)→o.apart ops oj=true∧(calm oj=true∨storeTo ops oj=true∧B₀=B):=by
     have hearly:early ops listed i=true∨early0 ops listed i=true:=by simpa only [Bool.or_eq_true] using hearly
     rcases hearly with he | he
     ·obtain ⟨q1,S,qS,q2⟩:=early_ok ho he
      exact ⟨_,rfl,q1,S,qS,fun j oj h1 h2 h3 hs h4=>⟨(q2 j oj h1 h2 h3 hs h4).1,.inl (q2 j oj h1 h2 h3 hs h4).2⟩⟩
     ·obtain ⟨q1,q0,q2⟩:=early0_ok ho he
      refine ⟨_,rfl,q1,_,Waits.none,fun j oj h1 h2 h3 _ h4=>⟨(q2 j oj h1 h2 h3 h4).1,?_⟩⟩
      rcases (q2 j oj h1 h2 h3 h4).2 with h | h
      ·exact .inl h
      ·exact .inr ⟨h,hoq q0⟩
    obtain ⟨B₀,hB0,hisq,S,hS,hfree⟩:=hfree
    have hd:∀ d,o.dst=some d→d<a.tmps.size:=hops' o (by simpa using Array.mem_of_getElem? ho)
    have hnA:isA o=true→False:=fun ha=>by
     obtain ⟨dst,op,ty,pos,after,guard⟩:=o
     cases op <;> first | (simp [isQ] at hisq; done) | (simp [isA] at ha; done)
    unfold evPlanA at h
    simp only [ho] at h
    rcases evStepG_ok hr hops' hd h with ⟨hw,σ₂,key',hr2,h2⟩ | ⟨hw,σ₂,key',hr2,h2⟩
    ·simp only [cond_true] at h2
     unfold evYesQ at h2
     split at h2
     ·rename_i σ' ok he
      obtain ⟨hok,hcont⟩:=rneed_ok h2
      subst hok
      obtain ⟨z,hz,hrz⟩:=pure_ok hr2 hd he
      exact wpAnyB_first ho (Region.noSelect_spec hs) m listed a w hcl hS hfree (by omega) hmem (.inl ⟨hw,by rw [hB0]; exact fun w' h=>hz w' h⟩) (ih _ l' σ' w g _ key' hp' hcont hrz (by rw [put_size]; exact hn) hb hBw (fun hq=>hoq (onlyQ_of hq)) (hM.step ho hd fun ha _=>(hnA ha).elim) (hcl.step hmem))
     ·cases h2
    ·exact wpAnyB_first ho (Region.noSelect_spec hs) m listed a w hcl hS hfree (by omega) hmem (.inr ⟨hw,rfl⟩) (ih _ l' σ₂ w g _ key' hp' h2 hr2 (by rw [put_size]; exact hn) hb hBw (fun hq=>hoq (onlyQ_of hq)) (hM.step ho hd fun ha _=>(hnA ha).elim) (hcl.step hmem))
   ·split at hp
    ·obtain ⟨l',hp',rfl⟩:=consO_ok hp
     have hmem:j∈Region.ready .any ops listed:=by rw [hready]; simp
     obtain ⟨o,ho⟩:=ready_lt hmem
     have hd:∀ d,o.dst=some d→d<a.tmps.size:=hops' o (by simpa using Array.mem_of_getElem? ho)
     refine ⟨fun h0=>(by rw [hready] at h0; cases h0),fun i hi=>?_⟩
     have:i=j:=by rw [hready] at hi; simpa using hi
     subst this
     unfold evPlanA at h
     simp only [ho] at h
     unfold wpOp
     simp only [ho]
     rcases evStepG_ok hr hops' hd h with ⟨hw,σ₂,key',hr2,h2⟩ | ⟨hw,σ₂,key',hr2,h2⟩
     ·simp only [cond_false] at h2
      unfold evYesA at h2
      split at h2
      ·rename_i σ' ok he
       obtain ⟨hok,hcont⟩:=rneed_ok h2
       subst hok
       rw [if_pos hw]
       refine .inl (evOp_goesC hr2 (noW_ok hcall) (fun _ _ _ _ h=>noW_not h) hd he _ _ fun z w' g' h3 h4 h5=>⟨h5.grew ho hmem hM h4.size,ih _ l' σ' w' g' _ key' hp' hcont h3 (by rw [put_size]; exact hn) (hb.trans h4) (Nat.le_trans hBw h4.size) (fun hq=>?_) (hM.step ho hd fun ha _=>⟨_,_,h5.box ha,hBw⟩) (hcl.step hmem)⟩)
       rw [h5.pure (onlyQ_at ho hq)]
       exact hoq (onlyQ_of hq)
      ·cases hal:(isC o&&alone ops i) with
       | false=>rw [hal] at h2; cases h2
       | true =>
        rw [hal,cond_true] at h2
        rw [Bool.and_eq_true] at hal
        unfold evYes at h2
        split at h2
        ·rename_i σ' ok he
         obtain ⟨hok,hcont⟩:=rneed_ok h2
         subst hok
         rw [if_pos hw]
         obtain ⟨hnQ,hnA⟩:isQ o=false∧isA o=false:=by
          have hc:=hal.1
          obtain ⟨dst,op,ty,pos,after,guard⟩:=o
          cases op with
          | call c =>
           obtain ⟨callee,args,ts⟩:=c
           cases callee <;> first | (simp [isC] at hc; done) | exact ⟨rfl,rfl⟩
          | _=>simp [isC] at hc
         refine .inl (evOp_goes hr2 hcall hd he _ _ fun z w' g' h3 h4=>⟨⟨h4.size,fun h=>(by rw [hal.2] at h; cases h)⟩,ih _ l' σ' w' g' _ key' hp' hcont h3 (by rw [put_size]; exact hn) (hb.trans h4) ?_ (fun hq=>?_) (hM.step ho hd fun ha _=>by rw [hnA] at ha; cases ha) (hcl.step hmem)⟩)
         ·exact Nat.le_trans hBw h4.size
         ·have:=onlyQ_at ho hq
          rw [hnQ] at this
          cases this
        ·cases h2
     ·rw [if_neg (by simp [hw])]
      refine ⟨Grew.refl,ih _ l' σ₂ w g _ key' hp' h2 hr2 (by rw [put_size]; exact hn) hb hBw (fun hq=>hoq (onlyQ_of hq)) (hM.step ho hd fun ha hg=>?_) (hcl.step hmem)⟩
      unfold Region.wanted at hw
      rw [hg] at hw
      cases hw
    ·rename_i kk hf0
     cases hpo:pairOk ops listed j kk with
     | false=>rw [hpo] at hp; cases hp
     | true =>
      rw [hpo,cond_true] at hp
      obtain ⟨l',hp',rfl⟩:=consO_ok hp
      have hmj:j∈Region.ready .any ops listed:=by rw [hready]; simp
      have hmk:kk∈Region.ready .any ops listed:=by rw [hready]; simp
      obtain ⟨oj,hoj⟩:=ready_lt hmj
      obtain ⟨ok,hok⟩:=ready_lt hmk
      unfold pairOk at hpo
      simp only [hoj,hok,Bool.and_eq_true,beq_iff_eq,bne_iff_ne,ne_eq,Option.isNone_iff_eq_none] at hpo
      obtain ⟨⟨⟨⟨⟨⟨haj,hak⟩,hgj⟩,hgk⟩,hne⟩,hrj⟩,hrk⟩:=hpo
      obtain ⟨dj,tj,hopj,hdj⟩:=isA_eq haj
      obtain ⟨dk,tk,hopk,hdk⟩:=isA_eq hak
      have hdne:dj≠dk:=fun e=>hne (by rw [hdj,hdk,e])
      have hddj:∀ d,oj.dst=some d→d<a.tmps.size:=hops' oj (by simpa using Array.mem_of_getElem? hoj)
      have hddk:∀ d,ok.dst=some d→d<a.tmps.size:=hops' ok (by simpa using Array.mem_of_getElem? hok)
      -- the plan goes on with the other one
      cases m with
      | zero=>unfold plan at hp'; rw [hrj] at hp'; cases hp'
      | succ m =>
       have hp2:=hp'
       unfold plan at hp2
       rw [hrj] at hp2
       have hkj:kk≠j:=by
        intro e
        subst e
        rw [hoj] at hok
        injection hok with hok
        subst hok
        exact hne rfl
       have hnqj:isQ oj=false:=by
        obtain ⟨dst,op,ty,pos,after,guard⟩:=oj
        cases op <;> first | (simp [isA] at haj; done) | rfl
       have grewA:∀ {i:Nat} {o:Oper} {w w':World},ops[i]?=some o→isA o=true→Below w.heap.size w w'→Grew ops B i w w':=fun {i o w w'} ho ha hbb=>⟨hbb.size,fun _ o' ho'=>by
        rw [ho] at ho'; injection ho' with ho'; subst ho'
        refine ⟨fun _=>hbb,fun hst=>?_⟩
        obtain ⟨_,t,d,x,hop,_⟩:=storeTo_ok hst
        obtain ⟨d',t',hop',_⟩:=isA_eq ha
        rw [hop] at hop'; cases hop'⟩
       have hnq:isQ ok=false:=by
        obtain ⟨dst,op,ty,pos,after,guard⟩:=ok
        cases op <;> first | (simp [isA] at hak; done) | rfl
       have hfind:List.find? (fun i=>early ops (listed.setIfInBounds j true) i||early0 ops (listed.setIfInBounds j true) i) [kk]=none:=by
        simp [List.find?_cons,early,early0,earlyT,hok,hnq]
       simp only [hfind] at hp2
       obtain ⟨l2,hp3,rfl⟩:=consO_ok hp2
       obtain ⟨σ1,e1,key1,h1⟩:=plan_alloc hoj hopj hdj hgj h
       obtain ⟨σ2,e2,key2,h2⟩:=plan_alloc hok hopk hdk hgk h1
       obtain ⟨rowj,rfl,aj⟩:=evAlloc_eq e1
       obtain ⟨rowk,rfl,ak⟩:=evAlloc_eq e2
       have hwj:Region.wanted oj (yielded ops a.tmps)=true:=by unfold Region.wanted; rw [hgj]
       have hwk:Region.wanted ok (yielded ops a.tmps)=true:=by unfold Region.wanted; rw [hgk]
       refine ⟨fun h0=>(by rw [hready] at h0; cases h0),fun i hi=>?_⟩
       have hi:i=j∨i=kk:=by rw [hready] at hi; simpa using hi
       rcases hi with rfl | rfl
       ·unfold wpOp
        simp only [hoj]
        rw [if_pos hwj]
        refine .inl ?_
        obtain ⟨z,w',g',q1,q2,q3,q4,q5⟩:=evAlloc_okB hr hopj hdj hddj e1
        unfold Oper.wp
        rw [q1]
        exact ⟨grewA hoj haj q4,ih _ _ _ w' g' _ key1 hp' h1 q2 (by rw [put_size]; exact hn) (hb.trans q3) (Nat.le_trans hBw q3.size) (fun hq=>absurd (onlyQ_at hoj hq) (by rw [hnqj]; exact Bool.false_ne_true)) (hM.step hoj hddj fun _ _=>⟨_,_,q5,hBw⟩) (hcl.step hmj)⟩
       ·unfold wpOp
        simp only [hok]
        rw [if_pos hwk]
        refine .inl ?_
        obtain ⟨z,w',g',q1,q2,q3,q4,q5⟩:=evAlloc_okB hr hopk hdk hddk (ak σ)
        unfold Oper.wp
        rw [q1]
        refine ⟨grewA hok hak q4,fun h0=>(by rw [hrk] at h0; cases h0),fun i' hi'=>?_⟩
        have:i'=j:=by rw [hrk] at hi'; simpa using hi'
        subst this
        have hwj':Region.wanted oj (yielded ops (a.put ok.dst z).tmps)=true:=by unfold Region.wanted; rw [hgj]
        unfold wpOp
        simp only [hoj]
        rw [if_pos hwj']
        refine .inl ?_
        obtain ⟨z2,w2,g2,r1,r2,r3,r4,r5⟩:=evAlloc_okB q2 hopj hdj (fun d hd=>by rw [put_size]; exact hddj d hd) (aj _)
        unfold Oper.wp
        rw [r1]
        have hM1:=hM.step hok hddk (z:=z) fun _ _=>⟨_,_,q5,hBw⟩
        have hM2:=hM1.step hoj (fun d hd=>by rw [put_size]; exact hddj d hd) (z:=z2) fun _ _=>⟨_,_,r5,Nat.le_trans hBw q3.size⟩
        refine ⟨grewA hoj haj r4,?_⟩
        rw [Array.setIfInBounds_comm _ _ hkj]
        exact ih0 m (by omega) _ l2 _ w2 g2 _ key2 hp3 h2 (r2.same (alloced_swap _ _ σ hdne rowj rowk)) (by rw [put_size,put_size]; exact hn) ((hb.trans q3).trans r3) (Nat.le_trans (Nat.le_trans hBw q3.size) r3.size) (fun hq=>absurd (onlyQ_at hok hq) (by rw [hnq]; exact Bool.false_ne_true)) (by rw [Array.setIfInBounds_comm _ _ hkj] at hM2; exact hM2) ((hcl.step hmj).step (by rw [hrj]; simp))
    ·cases hp
theorem wp_imp {o:Oper} {a:Act} {w:World} {K K':Act→World→Prop} {Q Q':Exit→Act→World→Prop} (hQ:∀ e a w,Q e a w→Q' e a w) (hK:∀ a w,K a w→K' a w) (hh:o.wp P a w K Q):o.wp P a w K' Q':=by
 unfold Oper.wp at *
 generalize (execOp a.eval o).run P w=r at *
 cases r with
 | ok n w' =>
  cases n <;> simp only [Oper.upon] at hh ⊢
  case value=>exact hK _ _ hh
  case skip=>exact hK _ _ hh
  case defer=>exact hK _ _ hh
  case enter =>
   refine Calls.mono hh fun e w'' he=>?_
   cases e with
   | returned v=>exact hK _ _ he
   | panicked c=>exact hQ _ _ _ he
   | outgrown=>obtain ⟨x,y,h⟩:=he; exact ⟨x,y,hQ _ _ _ h⟩
  case row=>exact Rows.mono hh fun _ _ he=>hK _ _ he
 | halt x w' =>
  cases x <;> simp only [Oper.upon] at hh ⊢ <;> first | exact hh.elim | exact hQ _ _ _ hh
theorem wpOp_imp {ops:Array Oper} {i:Nat} {a:Act} {w:World} {K K':Act→World→Prop} {Q Q':Exit→Act→World→Prop} (hQ:∀ e a w,Q e a w→Q' e a w) (hK:∀ a w,K a w→K' a w) (hh:wpOp P ops Q i K a w):wpOp P ops Q' i K' a w:=by
 unfold wpOp at *
 split
 ·exact hK _ _ (by simpa [*] using hh)
 ·rename_i o ho
  simp only [ho] at hh
  split
  ·rename_i hw
   simp only [hw,if_true] at hh
   rcases hh with hh | ⟨x,y,z,hl⟩
   ·exact .inl (wp_imp hQ hK hh)
   ·exact .inr ⟨x,y,z,hQ _ _ _ hl⟩
  ·rename_i hw; simp only [hw] at hh; exact hK _ _ hh
theorem wpAny_imp {ops:Array Oper} {Q Q':Exit→Act→World→Prop} (hQ:∀ e a w,Q e a w→Q' e a w):∀ (n:Nat) (listed:Array Bool) (a:Act) (w:World),wpAny P .any ops Q n listed a w→wpAny P .any ops Q' n listed a w
 | 0,_,_,_,h=>⟨h.1,hQ _ _ _ h.2⟩
 | n+1,_,_,_,h=>⟨fun h0=>hQ _ _ _ (h.1 h0),fun i hi=>wpOp_imp hQ (fun a' w' h'=>wpAny_imp hQ n _ a' w' h') (h.2 i hi)⟩
def QN (Q:Act→World→Prop):Exit→Act→World→Prop
 | .normal,a,w=>Q a w
 | _,_,_=>False
theorem evPlan0_ok {call:FuncId→List T→Option (T × Bool)} (hcall:CallOk P call) {ops:Array Oper} (hs:Region.noSelect ops=true) (hml:memless ops=true) {k:St→R} {out:Nat × List D} {n:Nat} {Q:Act→World→Prop} {w0:World} (hops:∀ o∈ops.toList,∀ d,o.dst=some d→d<n)
  (hk:∀ σ' w' g' a' key',k σ'=some (key',some out)→Rel P w' g' base σ' a'→a'.tmps.size=n→Below base w0 w'→Q a' w') :
  ∀ (m:Nat) (listed:Array Bool) (l:List (Nat × Bool)) (σ:St) (w:World) (g:G) (a:Act) (key:Option Dom),plan ops m listed=some l→evPlan P call ops l σ k=some (key,some out)→Rel P w g base σ a→a.tmps.size=n→Below base w0 w→wpAny P .any ops (QN Q) m listed a w:=by
 intro m
 induction m with
 | zero =>
  intro listed l σ w g a key hp h hr hn hb
  unfold plan at hp
  split at hp
  ·rename_i hready
   simp only [Option.some.injEq] at hp
   subst hp
   exact ⟨hready,hk σ w g a key h hr hn hb⟩
  ·cases hp
 | succ m ih =>
  intro listed l σ w g a key hp h hr hn hb
  unfold plan at hp
  split at hp
  ·rename_i hready
   simp only [Option.some.injEq] at hp
   subst hp
   exact ⟨fun _=>hk σ w g a key h hr hn hb,fun i hi=>by rw [hready] at hi; cases hi⟩
  ·rename_i j r hready
   have hops':∀ o∈ops.toList,∀ d,o.dst=some d→d<a.tmps.size:=fun o ho d hd=>by rw [hn]; exact hops o ho d hd
   have hmem0:∀ {i:Nat} {o:Oper},ops[i]?=some o→noMem o=true∨isC o=true:=fun {i o} ho=>by
    have:=List.all_eq_true.1 hml o (by simpa using Array.mem_of_getElem? ho)
    simpa using this
   split at hp
   ·rename_i i hfind
    obtain ⟨l',hp',rfl⟩:=consO_ok hp
    have hearly:=List.find?_some hfind
    have hmem:i∈Region.ready .any ops listed:=by rw [hready]; exact List.mem_of_find?_eq_some hfind
    obtain ⟨o,ho⟩:=ready_lt hmem
    have hfree:isQ o=true∧∀ j oj,ops[j]?=some oj→j≠i→listed.getD j true=false→(∀ e∈oj.after,Region.binds .any e=true→e.on≠i)→o.apart ops oj=true:=by
     have hearly:early ops listed i=true∨early0 ops listed i=true:=by simpa only [Bool.or_eq_true] using hearly
     rcases hearly with he | he
     ·exact early_okM hml ho he
     ·obtain ⟨q1,q0,q2⟩:=early0_ok ho he
      exact ⟨q1,fun j oj h1 h2 h3 h4=>(q2 j oj h1 h2 h3 h4).1⟩
    obtain ⟨hisq,hfree⟩:=hfree
    have hnm:noMem o=true:=by
     rcases hmem0 ho with h' | h'
     ·exact h'
     ·exfalso
      obtain ⟨dst,op,ty,pos,after,guard⟩:=o
      cases op with
      | call c =>
       obtain ⟨callee,args,ts⟩:=c
       cases callee <;> first | (simp [isC] at h'; done) | (simp [isQ] at hisq; done)
      | _=>simp [isC] at h'
    have hd:∀ d,o.dst=some d→d<a.tmps.size:=hops' o (by simpa using Array.mem_of_getElem? ho)
    unfold evPlan at h
    simp only [ho] at h
    rcases evStepG_ok hr hops' hd h with ⟨hw,σ₂,key',hr2,h2⟩ | ⟨hw,σ₂,key',hr2,h2⟩
    ·simp only [cond_true] at h2
     unfold evYesQ at h2
     split at h2
     ·rename_i σ' ok he
      obtain ⟨hok,hcont⟩:=rneed_ok h2
      subst hok
      obtain ⟨z,hz,hrz⟩:=pure_ok hr2 hd he
      exact wpAny_first ho (Region.noSelect_spec hs) (fun c a w h=>h) m listed a w hfree hmem (.inl ⟨hw,fun w'=>hz w' (.inr hnm)⟩) (ih _ l' σ' w g _ key' hp' hcont hrz (by rw [put_size]; exact hn) hb)
     ·cases h2
    ·exact wpAny_first ho (Region.noSelect_spec hs) (fun c a w h=>h) m listed a w hfree hmem (.inr ⟨hw,rfl⟩) (ih _ l' σ₂ w g _ key' hp' h2 hr2 (by rw [put_size]; exact hn) hb)
   ·split at hp
    ·obtain ⟨l',hp',rfl⟩:=consO_ok hp
     have hmem:j∈Region.ready .any ops listed:=by rw [hready]; simp
     obtain ⟨o,ho⟩:=ready_lt hmem
     have hd:∀ d,o.dst=some d→d<a.tmps.size:=hops' o (by simpa using Array.mem_of_getElem? ho)
     refine ⟨fun h0=>(by rw [hready] at h0; cases h0),fun i hi=>?_⟩
     have:i=j:=by rw [hready] at hi; simpa using hi
     subst this
     unfold evPlan at h
     simp only [ho] at h
     unfold wpOp
     simp only [ho]
     rcases evStepG_ok hr hops' hd h with ⟨hw,σ₂,key',hr2,h2⟩ | ⟨hw,σ₂,key',hr2,h2⟩
     ·simp only [cond_false] at h2
      unfold evYes at h2
      split at h2
      ·rename_i σ' ok he
       obtain ⟨hok,hcont⟩:=rneed_ok h2
       subst hok
       rw [if_pos hw]
       exact .inl (evOp_goes hr2 hcall hd he _ _ fun z w' g' h3 h4=>ih _ l' σ' w' g' _ key' hp' hcont h3 (by rw [put_size]; exact hn) (hb.trans h4))
      ·cases h2
     ·rw [if_neg (by simp [hw])]
      exact ih _ l' σ₂ w g _ key' hp' h2 hr2 (by rw [put_size]; exact hn) hb
    ·rename_i kk hf0
     cases hpo:pairOk ops listed j kk with
     | false=>rw [hpo] at hp; cases hp
     | true =>
      exfalso
      have hmj:j∈Region.ready .any ops listed:=by rw [hready]; simp
      obtain ⟨oj,hoj⟩:=ready_lt hmj
      have hmk:kk∈Region.ready .any ops listed:=by rw [hready]; simp
      obtain ⟨ok,hok⟩:=ready_lt hmk
      unfold pairOk at hpo
      simp only [hoj,hok,Bool.and_eq_true] at hpo
      obtain ⟨⟨⟨⟨⟨⟨haj,_⟩,_⟩,_⟩,_⟩,_⟩,_⟩:=hpo
      obtain ⟨dj,tj,hopj,_⟩:=isA_eq haj
      have:=hmem0 hoj
      obtain ⟨dst,op,ty,pos,after,guard⟩:=oj
      simp only at hopj
      subst hopj
      simp [noMem,isC] at this
    ·cases hp
theorem consAll_ok {q:Nat × Bool} {o:Option (List (List (Nat × Bool)))} {ls:List (List (Nat × Bool))} (h:consAll q o=some ls):∃ l r,o=some (l::r)∧ls=(l::r).map (q :: ·):=by
 unfold consAll at h
 split at h
 ·cases h
 ·rename_i l r; injection h with h; exact ⟨l,r,rfl,h.symm⟩
 ·cases h
theorem appAll_ok {a b:Option (List (List (Nat × Bool)))} {ls:List (List (Nat × Bool))} (h:appAll a b=some ls):∃ x y,a=some x∧b=some y∧ls=x++y:=by
 unfold appAll at h
 split at h
 ·rename_i x y; injection h with h; exact ⟨x,y,rfl,rfl,h.symm⟩
 ·cases h
theorem fold_ok {f:Nat→Option (List (List (Nat × Bool)))}:∀ {js:List Nat} {ls:List (List (Nat × Bool))},js.foldr (fun i acc=>appAll (consAll (i,false) (f i)) acc) (some [])=some ls→∀ i∈js,∃ l r,f i=some (l::r)∧∀ x∈(l::r),((i,false)::x)∈ls
 | [],ls,h,i,hi=>by cases hi
 | j::js,ls,h,i,hi=>by
  obtain ⟨x,y,h1,h2,rfl⟩:=appAll_ok h
  obtain ⟨l,r,h3,rfl⟩:=consAll_ok h1
  rcases List.mem_cons.1 hi with rfl | hi
  ·exact ⟨l,r,h3,fun x hx=>List.mem_append.2 (.inl (List.mem_map.2 ⟨x,hx,rfl⟩))⟩
  ·obtain ⟨l',r',h4,h5⟩:=fold_ok h2 i hi
   exact ⟨l',r',h4,fun x hx=>List.mem_append.2 (.inr (h5 x hx))⟩
theorem evS_cons {call:FuncId→List T→Option (T × Bool)} {ops:Array Oper} {i:Nat} {q:Bool} {l:List (Nat × Bool)} {o:Oper} (ho:ops[i]?=some o) {τ:St} (h:evS P call ops ((i,q)::l) σ=some (τ,true)) :
  (want ops σ o=.yes∧∃ σ',(bif q then evPure P σ o else evOp P call σ o)=some (σ',true)∧evS P call ops l σ'=some (τ,true))∨(want ops σ o=.no∧evS P call ops l (σ.put o.dst .none_)=some (τ,true)):=by
 unfold evS at h
 simp only [ho] at h
 split at h
 ·rename_i hw
  split at h
  ·rename_i σ' ok he
   split at h
   ·rename_i τ' ok' he'
    simp only [Option.some.injEq,Prod.mk.injEq,Bool.and_eq_true] at h
    obtain ⟨rfl,rfl,rfl⟩:=h
    exact .inl ⟨hw,σ',he,he'⟩
   ·cases h
  ·cases h
 ·rename_i hw; exact .inr ⟨hw,h⟩
 ·cases h
theorem orders_ok {call:FuncId→List T→Option (T × Bool)} (hcall:CallOk P call) (hnw:∀ f args r ok,call f args=some (r,ok)→r.sh.isW=false) {ops:Array Oper} (hs:Region.noSelect ops=true) {F:St→Prop} {n B:Nat} {Q:Act→World→Prop} {w0:World} (hops:∀ o∈ops.toList,∀ d,o.dst=some d→d<n)
  (hk:∀ σ' w' g' a',F σ'→Rel P w' g' base σ' a'→a'.tmps.size=n→Below base w0 w'→Q a' w') :
  ∀ (m:Nat) (listed:Array Bool) (ls:List (List (Nat × Bool))) (σ:St) (w:World) (g:G) (a:Act),orders ops m listed=some ls→(∀ l∈ls,∃ τ,evS P call ops l σ=some (τ,true)∧F τ)→Rel P w g base σ a→a.tmps.size=n→Below base w0 w→B≤w.heap.size→(onlyQ ops listed=true→w.heap.size=B)→Made ops B listed a→Closed ops listed→wpAnyB P ops B Q m listed a w:=by
 intro m
 induction m with
 | zero =>
  intro listed ls σ w g a hp h hr hn hb hBw hoq hM hcl
  unfold orders at hp
  split at hp
  ·rename_i hready
   injection hp with hp
   subst hp
   obtain ⟨τ,h1,h2⟩:=h [] (by simp)
   injection h1 with h1
   injection h1 with h1 _
   subst h1
   exact ⟨hready,hk _ w g a h2 hr hn hb⟩
  ·cases hp
 | succ m ih =>
  intro listed ls σ w g a hp h hr hn hb hBw hoq hM hcl
  have hops':∀ o∈ops.toList,∀ d,o.dst=some d→d<a.tmps.size:=fun o ho d hd=>by rw [hn]; exact hops o ho d hd
  unfold orders at hp
  split at hp
  ·rename_i hready
   injection hp with hp
   subst hp
   obtain ⟨τ,h1,h2⟩:=h [] (by simp)
   injection h1 with h1
   injection h1 with h1 _
   subst h1
   exact ⟨fun _=>hk _ w g a h2 hr hn hb,fun i hi=>by rw [hready] at hi; cases hi⟩
  ·rename_i j r hready
   split at hp
   ·rename_i i hfind
    obtain ⟨l0,r0,hp',rfl⟩:=consAll_ok hp
    have hearly:=List.find?_some hfind
    have hmem:i∈Region.ready .any ops listed:=by rw [hready]; exact List.mem_of_find?_eq_some hfind
    obtain ⟨o,ho⟩:=ready_lt hmem
    have hfree:∃ B₀,B₀=w.heap.size∧isQ o=true∧∃ S,Waits ops listed i S∧∀ j oj,ops[j]?=some oj→j≠i→listed.getD j true=false→S j=false→(∀ e∈oj.after,Region.binds .any e=true→e.on≠i)→o.apart ops oj=true∧(calm oj=true∨storeTo ops oj=true∧B₀=B):=by
     have hearly:early ops listed i=true∨early0 ops listed i=true:=by simpa only [Bool.or_eq_true] using hearly
     rcases hearly with he | he
     ·obtain ⟨q1,S,qS,q2⟩:=early_ok ho he
      exact ⟨_,rfl,q1,S,qS,fun j oj h1 h2 h3 hs h4=>⟨(q2 j oj h1 h2 h3 hs h4).1,.inl (q2 j oj h1 h2 h3 hs h4).2⟩⟩
     ·obtain ⟨q1,q0,q2⟩:=early0_ok ho he
      refine ⟨_,rfl,q1,_,Waits.none,fun j oj h1 h2 h3 _ h4=>⟨(q2 j oj h1 h2 h3 h4).1,?_⟩⟩
      rcases (q2 j oj h1 h2 h3 h4).2 with h | h
      ·exact .inl h
      ·exact .inr ⟨h,hoq q0⟩
    obtain ⟨B₀,hB0,hisq,S,hS,hfree⟩:=hfree
    have hd:∀ d,o.dst=some d→d<a.tmps.size:=hops' o (by simpa using Array.mem_of_getElem? ho)
    have hnA:isA o=true→False:=fun ha=>by
     obtain ⟨dst,op,ty,pos,after,guard⟩:=o
     cases op <;> first | (simp [isQ] at hisq; done) | (simp [isA] at ha; done)
    have hh:∀ l∈(l0::r0),∃ τ,evS P call ops ((i,true)::l) σ=some (τ,true)∧F τ:=fun l hl=>h _ (List.mem_map.2 ⟨l,hl,rfl⟩)
    have hw:=want_ok hr hops' (o:=o)
    obtain ⟨τ0,e0,_⟩:=hh l0 (by simp)
    rcases evS_cons ho e0 with ⟨hq,σ',he,_⟩ | ⟨hq,_⟩
    ·rw [hq] at hw
     rw [cond_true] at he
     obtain ⟨z,hz,hrz⟩:=pure_ok hr hd he
     refine wpAnyB_first ho (Region.noSelect_spec hs) m listed a w hcl hS hfree (by omega) hmem (.inl ⟨hw,by rw [hB0]; exact fun w' h=>hz w' h⟩) (ih _ _ σ' w g _ hp' (fun l hl=>?_) hrz (by rw [put_size]; exact hn) hb hBw (fun hq=>hoq (onlyQ_of hq)) (hM.step ho hd fun ha _=>(hnA ha).elim) (hcl.step hmem))
     obtain ⟨τ,e,hF⟩:=hh l hl
     rcases evS_cons ho e with ⟨_,σ'',he',e'⟩ | ⟨hq',_⟩
     ·rw [cond_true,he] at he'
      injection he' with he'; injection he' with he' _
      subst he'
      exact ⟨τ,e',hF⟩
     ·rw [hq] at hq'; cases hq'
    ·rw [hq] at hw
     refine wpAnyB_first ho (Region.noSelect_spec hs) m listed a w hcl hS hfree (by omega) hmem (.inr ⟨hw,rfl⟩) (ih _ _ _ w g _ hp' (fun l hl=>?_) (hr.put hd (t:=.none_) ⟨#[],rfl,rfl,fun j x h=>by simp at h⟩) (by rw [put_size]; exact hn) hb hBw (fun hq=>hoq (onlyQ_of hq)) (hM.step ho hd fun ha _=>(hnA ha).elim) (hcl.step hmem))
     obtain ⟨τ,e,hF⟩:=hh l hl
     rcases evS_cons ho e with ⟨hq',_⟩ | ⟨_,e'⟩
     ·rw [hq] at hq'; cases hq'
     ·exact ⟨τ,e',hF⟩
   ·refine ⟨fun h0=>(by rw [hready] at h0; cases h0),fun i hi=>?_⟩
    have hi':i∈j::r:=by rw [hready] at hi; exact hi
    obtain ⟨l0,r0,hp',hsub⟩:=fold_ok hp i hi'
    obtain ⟨o,ho⟩:=ready_lt hi
    have hd:∀ d,o.dst=some d→d<a.tmps.size:=hops' o (by simpa using Array.mem_of_getElem? ho)
    have hh:∀ l∈(l0::r0),∃ τ,evS P call ops ((i,false)::l) σ=some (τ,true)∧F τ:=fun l hl=>h _ (hsub l hl)
    have hw:=want_ok hr hops' (o:=o)
    obtain ⟨τ0,e0,_⟩:=hh l0 (by simp)
    unfold wpOp
    simp only [ho]
    rcases evS_cons ho e0 with ⟨hq,σ',he,_⟩ | ⟨hq,_⟩
    ·rw [hq] at hw
     rw [cond_false] at he
     rw [if_pos hw]
     refine .inl (evOp_goesC hr hcall hnw hd he _ _ fun z w' g' h3 h4 h5=>⟨h5.grew ho hi hM h4.size,ih _ _ σ' w' g' _ hp' (fun l hl=>?_) h3 (by rw [put_size]; exact hn) (hb.trans h4) (Nat.le_trans hBw h4.size) (fun hq=>?_) (hM.step ho hd fun ha _=>⟨_,_,h5.box ha,hBw⟩) (hcl.step hi)⟩)
     ·obtain ⟨τ,e,hF⟩:=hh l hl
      rcases evS_cons ho e with ⟨_,σ'',he',e'⟩ | ⟨hq',_⟩
      ·rw [cond_false,he] at he'
       injection he' with he'; injection he' with he' _
       subst he'
       exact ⟨τ,e',hF⟩
      ·rw [hq] at hq'; cases hq'
     ·rw [h5.pure (onlyQ_at ho hq)]
      exact hoq (onlyQ_of hq)
    ·rw [hq] at hw
     rw [if_neg (by simp [hw])]
     refine ⟨Grew.refl,ih _ _ _ w g _ hp' (fun l hl=>?_) (hr.put hd (t:=.none_) ⟨#[],rfl,rfl,fun j x h=>by simp at h⟩) (by rw [put_size]; exact hn) hb hBw (fun hq=>hoq (onlyQ_of hq)) (hM.step ho hd fun ha hg=>?_) (hcl.step hi)⟩
     ·obtain ⟨τ,e,hF⟩:=hh l hl
      rcases evS_cons ho e with ⟨hq',_⟩ | ⟨_,e'⟩
      ·rw [hq] at hq'; cases hq'
      ·exact ⟨τ,e',hF⟩
     ·unfold Region.wanted at hw
      rw [hg] at hw
      cases hw
theorem look_absent:∀ {e:Env} {i:Nat},i ∉ e.map (·.1)→look i e=.any
 | [],_,_=>rfl
 | (j,v)::e,i,h=>by
  simp only [List.map_cons,List.mem_cons,not_or] at h
  rw [look,show (i==j)=false from by simpa using h.1,cond_false]
  exact look_absent h.2
theorem look2_absent:∀ {r e:Env} {i:Nat},i ∉ r.map (·.1)→i ∉ e.map (·.1)→look2 i e r=.any
 | [],_,_,_,h=>look_absent h
 | (j,v)::r,e,i,h,h'=>by
  simp only [List.map_cons,List.mem_cons,not_or] at h
  rw [look2,show (i==j)=false from by simpa using h.1,cond_false]
  exact look2_absent h.2 h'
theorem hlook_absent:∀ {h:Boxes} {i:Nat},i ∉ h.map (·.1)→hlook i h=none
 | [],_,_=>rfl
 | (j,v)::e,i,h=>by
  simp only [List.map_cons,List.mem_cons,not_or] at h
  rw [hlook,show (i==j)=false from by simpa using h.1,cond_false]
  exact hlook_absent h.2
theorem map_eq_at {α β:Type} {f f':α→β}:∀ {l:List α},l.map f=l.map f'→∀ x∈l,f x=f' x
 | [],_,x,hx=>by cases hx
 | y::l,h,x,hx=>by
  simp only [List.map_cons,List.cons.injEq] at h
  rcases List.mem_cons.1 hx with rfl | hx
  ·exact h.1
  ·exact map_eq_at h.2 x hx
theorem same_of {σ τ:St} (h1:sameSh σ τ=true) (h2:sameP (pays σ τ) (paysAs σ τ)=true):Same τ σ:=by
 have h2:pays σ τ=paysAs σ τ:=by
  unfold sameP at h2
  exact @of_decide_eq_true _ (Classical.propDecidable _) h2
 unfold sameSh at h1
 simp only [Bool.and_eq_true,List.all_eq_true] at h1
 obtain ⟨s1,s2⟩:=h1
 unfold pays paysAs at h2
 have hlen:∀ {α β:Type} (f f':α→β) (l:List α),(l.map f).length=(l.map f').length:=fun f f' l=>by simp
 obtain ⟨p1,p2⟩:=List.append_inj h2 (hlen _ _ _)
 refine ⟨fun i=>?_,fun i=>?_⟩
 ·by_cases hi:i∈allTmps σ τ
  ·have e1:=s1 i hi
   have e1:(look2 i σ.e σ.r).sh=(look2 i τ.e τ.r).sh:=by simpa using e1
   have e2:=map_eq_at p1 i hi
   generalize look2 i σ.e σ.r=u at *
   generalize look2 i τ.e τ.r=v at *
   cases u; cases v; simp_all
  ·simp only [allTmps,List.mem_eraseDups,List.mem_append,not_or] at hi
   rw [look2_absent hi.1.1 hi.1.2,look2_absent hi.2.1 hi.2.2]
 ·by_cases hi:i∈allBoxes σ τ
  ·have e1:=s2 i hi
   have e1:(hlook i σ.h).map (·.1)=(hlook i τ.h).map (·.1):=by simpa using e1
   have e2:=map_eq_at p2 i hi
   cases hu:hlook i σ.h with
   | none =>
    rw [hu] at e1
    cases hv:hlook i τ.h with
    | none=>rfl
    | some v=>rw [hv] at e1; cases e1
   | some u =>
    rw [hu] at e1 e2
    cases hv:hlook i τ.h with
    | none=>rw [hv] at e1; cases e1
    | some v =>
     rw [hv] at e1 e2
     simp only [Option.map_some,Option.some.injEq,Option.getD_some] at e1 e2
     obtain ⟨u1,u2⟩:=u
     obtain ⟨v1,v2⟩:=v
     simp_all
  ·simp only [allBoxes,List.mem_eraseDups,List.mem_append,not_or] at hi
   rw [hlook_absent hi.1,hlook_absent hi.2]
theorem evRest_ok {call:FuncId→List T→Option (T × Bool)} {ops:Array Oper} {σ0:St} {r:R} {out:Nat × List D}:∀ {ls:List (List (Nat × Bool))} {key:Option Dom},evRest P call ops σ σ0 ls r=some (key,some out) →
  r=some (key,some out)∧∀ l∈ls,∃ τ,evS P call ops l σ=some (τ,true)∧Same τ σ0
 | [],key,h=>⟨h,fun l hl=>by cases hl⟩
 | l::ls,key,h=>by
  unfold evRest at h
  split at h
  ·rename_i τ ok he
   cases hsh:sameSh σ0 τ with
   | false=>rw [hsh] at h; cases h
   | true =>
    rw [hsh,cond_true] at h
    obtain ⟨hok,hcont⟩:=rneed_ok h
    simp only [Bool.and_eq_true] at hok
    obtain ⟨rfl,hp⟩:=hok
    obtain ⟨h1,h2⟩:=evRest_ok hcont
    exact ⟨h1,fun l' hl=>by
     rcases List.mem_cons.1 hl with rfl | hl
     ·exact ⟨τ,he,same_of hsh hp⟩
     ·exact h2 l' hl⟩
  ·cases h
theorem low_drawn (hr:Rel P w g base σ a):Rel P { w with drawn:=w.drawn+1 } g base σ a:=by
 have hE:Ext (some 0) g g w { w with drawn:=w.drawn+1 }:=⟨Nat.le_refl _,fun _ _=>rfl,fun _ _=>⟨rfl,rfl,rfl,rfl⟩,fun _ _=>rfl,fun _ _=>rfl,fun _ _=>rfl,fun _ _=>⟨rfl,rfl⟩,rfl,fun _ _ _ h=>.inr h⟩
 have hE':Ext none g g w { w with drawn:=w.drawn+1 }:=⟨Nat.le_refl _,fun _ _=>rfl,fun _ _=>⟨rfl,rfl,rfl,rfl⟩,fun _ _=>rfl,fun _ _=>rfl,fun _ _=>rfl,fun _ _=>⟨rfl,rfl⟩,rfl,fun _ _ _ h=>.inr h⟩
 have hk:Kept P base g g w { w with drawn:=w.drawn+1 } (fun c=>c):=by
  intro c x v hv
  cases c with
  | any=>trivial
  | d s=>exact hE'.vd hv
  | kb b=>exact hv
  | own t xm e =>
   obtain ⟨row,hrow,hown⟩:=hv
   exact ⟨row,hrow,hE'.own (by intro e; cases e) hown⟩
  | ptr id off=>exact hv
  | eptr tk e off=>cases tk with
   | none =>
    obtain ⟨row,b,o,h1,h2,h3,h4⟩:=hv
    exact ⟨row,b,o,h1,h2,h3,fun j s hs=>by
     obtain ⟨u,k1,k2,k3⟩:=h4 j s hs
     exact ⟨u,k1,k2,hE'.vd k3⟩⟩
   | some t =>
    obtain ⟨row,h1,h2,h3,u,h4⟩:=hv
    exact ⟨row,h1,h2,h3,u,hE'.own (by intro e; cases e) h4⟩
  | inn t e off ei=>exact inn_mono hv rfl (fun o _ ho=>ho) (fun hu=>hE'.own (by intro e; cases e) hu)
  | cptr cells off=>exact hE'.cptr hr.base_le hv
  | fn f caps =>
   obtain ⟨arr,h1,h2,h3⟩:=hv
   refine ⟨arr,h1,h2,fun j c hc=>?_⟩
   obtain ⟨u,hu,hcap⟩:=h3 j c hc
   refine ⟨u,hu,?_⟩
   cases c with
   | d s=>exact hE'.vd hcap
   | ptr id off=>exact hcap
   | cptr cells off=>exact hE'.cptr hr.base_le hcap
 refine ⟨fun i=>hk.vt' (hr.env i),fun id cs ds h=>?_,hr.fresh,hr.base_le,hr.defers,hr.low,hr.mine⟩
 obtain ⟨k1,k2,k3,kl,arr,E,k4,k5⟩:=hr.box id cs ds h
 have:=hk.vcs k5
 rw [List.map_id'] at this
 exact ⟨k1,k2,k3,kl,arr,E,k4,this⟩
theorem evDraw_ok {call:FuncId→List T→Option (T × Bool)} (hcall:CallOk P call) {id:Nat} {ops:Array Oper} {k:St→R} {key:Option Dom} {out:Nat × List D} {n:Nat} {Q:Exit→Act→World→Prop} {w0:World} (hops:∀ o∈ops.toList,∀ d,o.dst=some d→d<n)
  (hk:∀ σ' w' g' a' key',k σ'=some (key',some out)→Rel P w' g' base σ' a'→a'.tmps.size=n→Below base w0 w'→Q .normal a' w') (h:evDraw P call ops σ k=some (key,some out)) (hr:Rel P w g base σ a) (hn:a.tmps.size=n) (hb:Below base w0 w):(Code.region id ops true).wp P Q a w:=by
 unfold evDraw at h
 cases hc:(Region.noSelect ops&&P.follows .mixedOrders) with
 | false=>rw [hc] at h; cases h
 | true =>
  rw [hc,cond_true] at h
  simp only [Bool.and_eq_true] at hc
  split at h
  ·rename_i l hp
   cases hml:memless ops with
   | true =>
    rw [hml,cond_true] at h
    refine wp_region_any hc.2 (wpAny_imp (Q:=QN fun a w=>Q .normal a w) (fun e a w h=>?_) _ _ _ _ ?_)
    ·cases e <;> first | exact h | exact h.elim
    ·exact evPlan0_ok hcall hc.1 hml hops (fun σ' w' g' a' key' h1 h2 h3 h4=>hk σ' w' g' a' key' h1 h2 h3 h4) ops.size _ l σ _ g a key hp h (low_drawn hr) hn (hb.trans ⟨rfl,rfl,rfl,Nat.le_refl _,fun _ _=>rfl⟩)
   | false =>
   rw [hml,cond_false] at h
   refine wp_region_any hc.2 (wpAny_of_B (B:=w.heap.size) (Q:=fun a w=>Q .normal a w) (fun _ _ h=>h) _ _ _ _ ?_)
   exact evPlan_ok (B:=w.heap.size) hcall hc.1 hops (fun σ' w' g' a' key' h1 h2 h3 h4=>hk σ' w' g' a' key' h1 h2 h3 h4) ops.size _ l σ _ g a key hp h (low_drawn hr) hn (hb.trans ⟨rfl,rfl,rfl,Nat.le_refl _,fun _ _=>rfl⟩) (Nat.le_refl _) (fun _=>rfl) (fun _ j o d hj hl=>by
    have hjs:=(Array.getElem?_eq_some_iff.1 hj).1
    simp [hjs] at hl) (Closed.start ops)
  ·split at h
   ·rename_i ls hp
    unfold evAll at h
    split at h
    ·cases h
    ·rename_i l ls
     split at h
     ·rename_i σ0 ok he
      obtain ⟨hok,hcont⟩:=rneed_ok h
      subst hok
      obtain ⟨h1,h2⟩:=evRest_ok hcont
      refine wp_region_any hc.2 (wpAny_of_B (B:=w.heap.size) (Q:=fun a w=>Q .normal a w) (fun _ _ h=>h) _ _ _ _ ?_)
      exact orders_ok (B:=w.heap.size) (F:=fun τ=>Same τ σ0) (noW_ok hcall) (fun _ _ _ _ h=>noW_not h) hc.1 hops (fun σ' w' g' a' h3 h4 h5 h6=>hk σ0 w' g' a' key h1 (h4.same h3) h5 h6) ops.size _ _ σ _ g a hp (fun l' hl=>by
       rcases List.mem_cons.1 hl with rfl | hl
       ·exact ⟨σ0,he,⟨fun _=>rfl,fun _=>rfl⟩⟩
       ·exact h2 l' hl) (low_drawn hr) hn (hb.trans ⟨rfl,rfl,rfl,Nat.le_refl _,fun _ _=>rfl⟩) (Nat.le_refl _) (fun _=>rfl) (fun _ j o d hj hl=>by
       have hjs:=(Array.getElem?_eq_some_iff.1 hj).1
       simp [hjs] at hl) (Closed.start ops)
     ·cases h
   ·cases h
end
end Go.Proofs.YtpdfmcmnjikppaaGreat
namespace Go.Proofs.YtpdfmcmnjikppaaGreat
open Go.RowKit
section
variable [Low] {P:Program} {w w':World} {g g':G} {base:Nat} {σ:St} {a:Act}
theorem leave_ok {o:Out} {σ:St} {kx:Nat→St→R} {key:Option Dom} {out:Nat × List D}:∀ {ids:List Nat},leave ids o σ kx=some (key,some out)→∃ j∈ids,o.code=j+2∧∃ k',kx j σ=some (k',some out)
 | [],h=>by simp [leave] at h
 | [j],h=>by
  obtain ⟨h1,h2⟩:=rneed_ok (show rneed (o.code==j+2) (kx j σ)=_ from h)
  exact ⟨j,by simp,by simpa using h1,_,h2⟩
 | j::k::r,h=>by
  obtain ⟨h1,h2⟩:=rcond_ok (show rcond (o.code==j+2) (kx j σ) (leave (k::r) o σ kx)=_ from h)
  by_cases hc:o.code=j+2
  ·obtain ⟨k',h1⟩:=h1 (by simpa using hc)
   exact ⟨j,by simp,hc,k',h1⟩
  ·obtain ⟨k',h2⟩:=h2 (by simpa using hc)
   obtain ⟨i,q1,q2,q3⟩:=leave_ok h2
   exact ⟨i,by simp at q1 ⊢; exact .inr q1,q2,q3⟩
theorem leaf_ok {d:Dom} {code:Nat} {key:Option Dom} {out:Nat × List D} (h:leaf d code σ=some (key,some out)):(restrictD d σ).dom=d∧σ.r = []∧out=(code,(restrictD d σ).flat):=by
 unfold leaf at h
 cases hc:((restrictD d σ).dom==d&&σ.r.isEmpty) with
 | false=>rw [hc] at h; cases h
 | true =>
  rw [hc] at h
  simp only [cond_true,Option.some.injEq,Prod.mk.injEq] at h
  simp only [Bool.and_eq_true,beq_iff_eq] at hc
  exact ⟨hc.1,by simpa using hc.2,h.2.symm⟩
theorem retLeaf_ok {x:Option (List D)} {key:Option Dom} {out:Nat × List D} (h:retLeaf x=some (key,some out)):∃ p,x=some p∧out=(1,p):=by
 unfold retLeaf at h
 split at h
 ·rename_i p
  simp only [Option.some.injEq,Prod.mk.injEq] at h
  exact ⟨p,rfl,h.2.symm⟩
 ·cases h
theorem stepOut_ok {r:R} {x:Nat × List D} (h:stepOut r=some x):∃ key,r=some (key,some x):=by
 unfold stepOut at h
 split at h
 ·rename_i k o
  subst h
  exact ⟨k,rfl⟩
 ·cases h
theorem joinOut_ok {rets:Bool} {ids:List Nat} {code:Nat} {pay:List D} {τ:St} {kn:St→R} {kx:Nat→St→R} {kr:Option (List D)→R} {key:Option Dom} {out:Nat × List D}
  (h:joinOut rets ids (some (code,pay)) τ kn kx kr=some (key,some out)) :
  (code=0∧∃ k,kn τ=some (k,some out))∨(code=1∧∃ k,kr (some pay)=some (k,some out))∨∃ j,code=j+2∧∃ k,kx j τ=some (k,some out):=by
 have c0:∀ {x:R} {k:Option Dom},rcond (Out.code (some (code,pay))==0) (kn τ) x=some (k,some out)→(code=0∧∃ k,kn τ=some (k,some out))∨∃ k,x=some (k,some out):=by
  intro x k h
  obtain ⟨h1,h2⟩:=rcond_ok h
  by_cases hc:code=0
  ·exact .inl ⟨hc,h1 (by simpa [Out.code] using hc)⟩
  ·exact .inr (h2 (by simpa [Out.code] using hc))
 have lv:∀ {ids:List Nat} {k:Option Dom},leave ids (some (code,pay)) τ kx=some (k,some out)→∃ j,code=j+2∧∃ k,kx j τ=some (k,some out):=by
  intro ids k h
  obtain ⟨j,_,h1,k2,h2⟩:=leave_ok h
  exact ⟨j,h1,k2,h2⟩
 unfold joinOut at h
 split at h
 ·obtain ⟨h1,h2⟩:=rneed_ok h
  exact .inl ⟨by simpa [Out.code] using h1,_,h2⟩
 ·rcases c0 h with h | ⟨k,h⟩
  ·exact .inl h
  ·obtain ⟨h1,h2⟩:=rneed_ok h
   exact .inr (.inl ⟨by simpa [Out.code] using h1,_,h2⟩)
 ·rcases c0 h with h | ⟨k,h⟩
  ·exact .inl h
  ·exact .inr (.inr (lv h))
 ·rcases c0 h with h | ⟨k,h⟩
  ·exact .inl h
  ·obtain ⟨h1,h2⟩:=rcond_ok h
   by_cases hc:code=1
   ·exact .inr (.inl ⟨hc,h1 (by simpa [Out.code] using hc)⟩)
   ·obtain ⟨k',h2⟩:=h2 (by simpa [Out.code] using hc)
    exact .inr (.inr (lv h2))
theorem gd_wideDs:∀ (cs:List Ce) (ds:List D) (i j:Nat) c,cs[j]?=some c→gd (wideDs cs ds i) j=wideD c (gd ds (i+j))
 | [],_,_,_,_,h=>by simp at h
 | c::cs,ds,i,0,c',h=>by simp at h; subst h; rfl
 | c::cs,ds,i,j+1,c',h=>by
  have:=gd_wideDs cs ds (i+1) j c' (by simpa using h)
  show gd (wideDs cs ds (i+1)) j=_
  rw [this,show i+1+j=i+(j+1) from by omega]
theorem vc_wide {c:Ce} {x:D} {v:Value} (h:VC P w g base c x v):VC P w g base (wideC c) (wideD c x) v:=by
 cases c with
 | kb b =>
  have h:v=.bool b:=h
  subst h
  exact VD.bool (.b b)
 | _=>exact h
theorem vcs_wide {cs:List Ce} {ds:List D} {arr:Array Value} (h:VCs P w g base cs ds arr):VCs P w g base (cs.map wideC) (wideDs cs ds 0) arr:=by
 refine ⟨by rw [h.1,List.length_map],fun j c hc=>?_⟩
 rw [List.getElem?_map] at hc
 obtain ⟨c0,h0,rfl⟩:=Option.map_eq_some_iff.1 hc
 obtain ⟨u,hu,hv⟩:=h.2 j c0 h0
 exact ⟨u,hu,by rw [gd_wideDs cs ds 0 j c0 h0,Nat.zero_add]; exact vc_wide hv⟩
theorem vt_wide {t:T} {v:Value} (h:VT P w g base t v):VT P w g base t.wide v:=by
 obtain ⟨sh,p⟩:=t
 match sh,h with
 | .one (.c c),h=>exact vc_wide h
 | .one (.agg cs),⟨arr,h1,h2⟩=>exact ⟨arr,h1,vcs_wide h2⟩
 | .tup xs,h=>exact h
theorem look_wide (e:Env) (j:Nat):look j (e.map fun p=>(p.1,p.2.wide))=(look j e).wide:=by
 induction e with
 | nil=>rfl
 | cons p e ih =>
  obtain ⟨i,v⟩:=p
  simp only [List.map_cons,look]
  cases (j==i) with
  | true=>rfl
  | false=>exact ih
theorem hlook_wide (h:Boxes) (j:Nat):hlook j (h.map fun p=>(p.1,p.2.1.map wideC,wideDs p.2.1 p.2.2 0))=(hlook j h).map fun p=>(p.1.map wideC,wideDs p.1 p.2 0):=by
 induction h with
 | nil=>rfl
 | cons p h ih =>
  obtain ⟨i,v⟩:=p
  simp only [List.map_cons,hlook]
  cases (j==i) with
  | true=>rfl
  | false=>exact ih
theorem len_wideDs:∀ (cs:List Ce) (ds:List D) (i:Nat),(wideDs cs ds i).length=cs.length
 | [],_,_=>rfl
 | c::cs,ds,i=>congrArg (· + 1) (len_wideDs cs ds (i+1))
theorem Rel.wide (hr:Rel P w g base σ a) (hre:σ.r = []):Rel P w g base σ.wide a:=by
 refine ⟨fun i=>?_,fun id cs ds h=>?_,hr.fresh,hr.base_le,hr.defers,hr.low,hr.mine⟩
 ·have:=hr.env i
  rw [hre] at this
  show VT P w g base (look2 i (σ.e.map fun p=>(p.1,p.2.wide)) σ.r) _
  rw [hre]
  show VT P w g base (look i (σ.e.map fun p=>(p.1,p.2.wide))) _
  rw [look_wide]
  exact vt_wide this
 ·have h:hlook id (σ.h.map fun p=>(p.1,p.2.1.map wideC,wideDs p.2.1 p.2.2 0))=some (cs,ds):=h
  rw [hlook_wide] at h
  obtain ⟨⟨cs0,ds0⟩,h0,h1⟩:=Option.map_eq_some_iff.1 h
  injection h1 with h1 h2
  subst h1; subst h2
  obtain ⟨q1,q2,q3,q4,arr,E,q5,q6⟩:=hr.box id cs0 ds0 h0
  exact ⟨q1,q2,q3,by rw [len_wideDs,List.length_map],arr,E,q5,vcs_wide q6⟩
theorem Rel.cut (hr:Rel P w g base σ a) (id:Nat) (ks:List Nat):Rel P w g base (σ.cut id ks) a:=by
 refine ⟨fun i=>?_,hr.box,hr.fresh,hr.base_le,hr.defers,hr.low,hr.mine⟩
 show VT P w g base (look2 i (dropAll (dropsAt id ks) (dropAll (dropsOf ks) σ.e)) σ.r) _
 rcases look2_dropAll i (dropsAt id ks) (dropAll (dropsOf ks) σ.e) σ.r with h | h
 ·rcases look2_dropAll i (dropsOf ks) σ.e σ.r with h' | h'
  ·rw [h,h']; exact hr.env i
  ·rw [h,h']; trivial
 ·rw [h]; trivial
def Ends (P:Program) (base n:Nat) (w0:World) (fin:St→Option (List D)) (out:Nat × List D) (kn:St→R) (kx:Nat→St→R) (kr:Option (List D)→R) (Q:Exit→Act→World→Prop):Prop:=
 (∀ σ' w' g' a' key',kn σ'=some (key',some out)→Rel P w' g' base σ' a'→a'.tmps.size=n→Below base w0 w'→Q .normal a' w') ∧
 (∀ j σ' w' g' a' key',kx j σ'=some (key',some out)→Rel P w' g' base σ' a'→a'.tmps.size=n→Below base w0 w'→Q (.exit j) a' w') ∧
 (∀ σ' w' g' a' key',kr (fin σ')=some (key',some out)→Rel P w' g' base σ' a'→a'.tmps.size=n→Below base w0 w'→Q .ret a' w')
theorem evCode_ok {call:FuncId→List T→Option (T × Bool)} (hcall:CallOk P call) {N:Nat} {ks:List Nat} {fin:St→Option (List D)} {n:Nat} {w0:World} :
  ∀ (c:Code) (σ:St) (kn:St→R) (kx:Nat→St→R) (kr:Option (List D)→R) (key:Option Dom) (out:Nat × List D) (w:World) (g:G) (a:Act) (Q:Exit→Act→World→Prop),
   dstsOk n c=true→evCode P call N ks fin c σ kn kx kr=some (key,some out)→Rel P w g base σ a→a.tmps.size=n→Below base w0 w→Ends P base n w0 fin out kn kx kr Q→c.wp P Q a w:=by
 intro c
 induction c with
 | skip =>
  intro σ kn kx kr key out w g a Q hd h hr hn hb hE
  exact wp_skip (hE.1 σ w g a key h hr hn hb)
 | region id ops draw =>
  intro σ kn kx kr key out w g a Q hd h hr hn hb hE
  have hops:∀ o∈ops.toList,∀ d,o.dst=some d→d<n:=fun o ho d hdo=>by
   have:=List.all_eq_true.1 hd o ho
   rw [hdo] at this
   exact Nat.le_of_ble_eq_true this
  simp only [evCode] at h
  have hr:=hr.cut id ks
  generalize σ.cut id ks=σ at *
  cases hj:(joinsOf ks).contains (1000000+id) with
  | true =>
   rw [hj,cond_true] at h
   split at h
   ·rename_i d _ _
    split at h
    ·rename_i kk oo hev
     obtain ⟨hsome,h⟩:=rneed_ok h
     obtain ⟨⟨code,pay⟩,rfl⟩:=Option.isSome_iff_exists.1 hsome
     have at0:∀ σ' w' g' a' key',leaf d 0 (σ'.settle ks).wide=some (key',some (code,pay))→Rel P w' g' base σ' a'→a'.tmps.size=n→Below base w0 w'→Q .normal a' w':=by
      intro σ' w' g' a' key' h1 h2 h3 h4
      obtain ⟨q1,q2,q3⟩:=leaf_ok h1
      injection q3 with q3 q4
      subst q3; subst q4
      obtain ⟨g2,hg2⟩:=h2.settle ks
      have:=((hg2.wide (settle_r _ _)).restrictD q2 d).mkSt rfl
      rw [q1] at this
      exact hE.1 _ w' g2 a' key h this h3 h4
     cases draw with
     | true=>exact evDraw_ok hcall hops at0 hev hr hn hb
     | false =>
      exact wp_region_list (evOps_ok hcall at0 ops.toList σ w g a kk hops hops hev hr hn hb)
    ·cases h
   ·cases h
  | false =>
  rw [hj,cond_false] at h
  cases draw with
  | true=>exact evDraw_ok hcall hops (fun σ' w' g' a' key' h1 h2 h3 h4=>(h2.settle ks).elim fun g2 hg2=>hE.1 _ w' g2 a' key' h1 hg2 h3 h4) h hr hn hb
  | false =>
   exact wp_region_list (evOps_ok hcall (fun σ' w' g' a' key' h1 h2 h3 h4=>(h2.settle ks).elim fun g2 hg2=>hE.1 _ w' g2 a' key' h1 hg2 h3 h4) ops.toList σ w g a key hops hops h hr hn hb)
 | seq x y ihx ihy =>
  intro σ kn kx kr key out w g a Q hd h hr hn hb hE
  simp only [dstsOk,Bool.and_eq_true] at hd
  refine wp_seq (ihx σ _ kx kr key out w g a _ hd.1 h hr hn hb ⟨fun σ' w' g' a' key' h1 h2 h3 h4=>?_,fun j σ' w' g' a' key' h1 h2 h3 h4=>hE.2.1 j σ' w' g' a' key' h1 h2 h3 h4,fun σ' w' g' a' key' h1 h2 h3 h4=>hE.2.2 σ' w' g' a' key' h1 h2 h3 h4⟩)
  exact ihy σ' kn kx kr key' out w' g' a' Q hd.2 h1 h2 h3 h4 hE
 | cond c x y ihx ihy =>
  intro σ kn kx kr key out w g a Q hd h hr hn hb hE
  simp only [dstsOk,Bool.and_eq_true] at hd
  simp only [evCode] at h
  have hc:=opd_ok hr c
  split at h
  ·rename_i t hsh
   have hcv:a.eval c=.bool t:=by
    generalize opd σ c=q at *
    obtain ⟨sh,p⟩:=q
    simp only at hsh
    subst hsh
    exact hc
   cases t with
   | true=>exact wp_cond_true hcv (ihx σ kn kx kr key out w g a Q hd.1 h hr hn hb hE)
   | false=>exact wp_cond_false hcv (ihy σ kn kx kr key out w g a Q hd.2 h hr hn hb hE)
  ·rename_i hsh
   have hcv:a.eval c=.bool (gd (opd σ c).p 0).bool:=by
    generalize opd σ c=q at *
    obtain ⟨sh,p⟩:=q
    simp only at hsh
    subst hsh
    exact vd_bool hc
   obtain ⟨h1,h2⟩:=rcond_ok h
   refine wp_cond_split hcv (fun ht=>?_) (fun hf=>?_)
   ·obtain ⟨k',h1⟩:=h1 ht
    exact ihx σ kn kx kr k' out w g a Q hd.1 h1 hr hn hb hE
   ·obtain ⟨k',h2⟩:=h2 hf
    exact ihy σ kn kx kr k' out w g a Q hd.2 h2 hr hn hb hE
  ·cases h
 | block id x ih =>
  intro σ kn kx kr key out w g a Q hd h hr hn hb hE
  simp only [evCode] at h
  cases hj:(joinsOf ks).contains id with
  | true =>
   rw [hj,cond_true] at h
   split at h
   ·rename_i d _ _
    split at h
    ·rename_i kk oo hev
     obtain ⟨hsome,h⟩:=rneed_ok h
     obtain ⟨⟨code,pay⟩,rfl⟩:=Option.isSome_iff_exists.1 hsome
     have hjo:=joinOut_ok h
     have at0:∀ σ' w' g' a' key',leaf d 0 σ'=some (key',some (code,pay))→Rel P w' g' base σ' a'→a'.tmps.size=n→Below base w0 w'→Q .normal a' w':=by
      intro σ' w' g' a' key' h1 h2 h3 h4
      obtain ⟨q1,q2,q3⟩:=leaf_ok h1
      injection q3 with q3 q4
      subst q3; subst q4
      have:=(h2.restrictD q2 d).mkSt rfl
      rw [q1] at this
      rcases hjo with ⟨_,k,hk⟩ | ⟨hc,_⟩ | ⟨j,hc,_⟩
      ·exact hE.1 _ w' g' a' k hk this h3 h4
      ·omega
      ·omega
     refine wp_block (ih σ _ _ _ kk (code,pay) w g a _ hd hev hr hn hb ⟨at0,fun j σ' w' g' a' key' h1 h2 h3 h4=>?_,fun σ' w' g' a' key' h1 h2 h3 h4=>?_⟩)
     ·have h1:(bif j==id then leaf d 0 else leaf d (j+2)) σ'=some (key',some (code,pay)):=h1
      simp only [Exit.inBlock]
      by_cases e:j=id
      ·rw [if_pos e]
       rw [show (j==id)=true from by simpa using e,cond_true] at h1
       exact at0 σ' w' g' a' key' h1 h2 h3 h4
      ·rw [if_neg e]
       rw [show (j==id)=false from by simpa using e,cond_false] at h1
       obtain ⟨q1,q2,q3⟩:=leaf_ok h1
       injection q3 with q3 q4
       subst q3; subst q4
       have:=(h2.restrictD q2 d).mkSt rfl
       rw [q1] at this
       rcases hjo with ⟨hc,_⟩ | ⟨hc,_⟩ | ⟨j',hc,k,hk⟩
       ·omega
       ·omega
       ·obtain rfl:j'=j:=by omega
        exact hE.2.1 j' _ w' g' a' k hk this h3 h4
     ·obtain ⟨pp,q1,q2⟩:=retLeaf_ok h1
      injection q2 with q2 q3
      subst q2; subst q3
      rcases hjo with ⟨hc,_⟩ | ⟨_,k,hk⟩ | ⟨j',hc,_⟩
      ·omega
      ·exact hE.2.2 σ' w' g' a' k (by rw [q1]; exact hk) h2 h3 h4
      ·omega
    ·cases h
   ·cases h
  | false =>
  rw [hj,cond_false] at h
  have hr:=hr.shed ks x
  generalize σ.shed ks x=σ at *
  refine wp_block (ih σ _ _ kr key out w g a _ hd h hr hn hb ⟨fun σ' w' g' a' key' h1 h2 h3 h4=>hE.1 _ w' g' a' key' h1 (h2.restrict σ) h3 h4,fun j σ' w' g' a' key' h1 h2 h3 h4=>?_,fun σ' w' g' a' key' h1 h2 h3 h4=>hE.2.2 σ' w' g' a' key' h1 h2 h3 h4⟩)
  have h1:(bif j==id then kn (σ.restrict σ') else kx j σ')=some (key',some out):=h1
  simp only [Exit.inBlock]
  by_cases e:j=id
  ·rw [if_pos e]
   rw [show (j==id)=true from by simpa using e,cond_true] at h1
   exact hE.1 _ w' g' a' key' h1 (h2.restrict σ) h3 h4
  ·rw [if_neg e]
   rw [show (j==id)=false from by simpa using e,cond_false] at h1
   exact hE.2.1 j σ' w' g' a' key' h1 h2 h3 h4
 | loop x ih =>
  intro σ kn kx kr key out w g a Q hd h hr hn hb hE
  simp only [evCode] at h
  cases hre:σ.r.isEmpty with
  | false=>rw [hre] at h; cases h
  | true =>
   rw [hre] at h
   have hre:σ.r = []:=by simpa using hre
   simp only [Bool.not_true,cond_false] at h
   split at h
   ·rename_i heq
    obtain ⟨hsome,h⟩:=rneed_ok h
    generalize hstep:(fun p=>stepOut (evCode P call N ks fin x (mkSt σ.dom p) (leaf σ.dom 0) (fun j=>leaf σ.dom (j+2)) retLeaf))=step at *
    obtain ⟨oo,hoo⟩:=Option.isSome_iff_exists.1 hsome
    rw [hoo] at h
    obtain ⟨code,pay⟩:=oo
    -- where it ends
    have hend:(∀ j w' g' a',code=j+2→Rel P w' g' base (mkSt σ.dom pay) a'→a'.tmps.size=n→Below base w0 w'→Q (.exit j) a' w') ∧
      (∀ σ' w' g' a',code=1→fin σ'=some pay→Rel P w' g' base σ' a'→a'.tmps.size=n→Below base w0 w'→Q .ret a' w'):=by
     have hlv:∀ {k':Option Dom},leave (exitsOf x).eraseDups (some (code,pay)) (mkSt σ.dom (Out.pay (some (code,pay)))) kx=some (k',some out)→code≠1∧∀ j w' g' a',code=j+2→Rel P w' g' base (mkSt σ.dom pay) a'→a'.tmps.size=n→Below base w0 w'→Q (.exit j) a' w':=by
      intro k' hl
      obtain ⟨j,_,h1,k2,h2⟩:=leave_ok hl
      have h1:code=j+2:=h1
      refine ⟨by omega,fun j' w' g' a' hj' hr' hn' hb'=>?_⟩
      obtain rfl:j'=j:=by omega
      exact hE.2.1 j' _ w' g' a' k2 h2 hr' hn' hb'
     have hrt:∀ {k':Option Dom},kr (some pay)=some (k',some out)→∀ σ' w' g' a',code=1→fin σ'=some pay→Rel P w' g' base σ' a'→a'.tmps.size=n→Below base w0 w'→Q .ret a' w':=by
      intro k' hk σ' w' g' a' _ hf hr' hn' hb'
      exact hE.2.2 σ' w' g' a' k' (by rw [hf]; exact hk) hr' hn' hb'
     cases hh:hasRet x with
     | true =>
      rw [hh,cond_true] at h
      split at h
      ·obtain ⟨h1,h2⟩:=rneed_ok h
       have h1:code=1:=by simpa [Out.code] using h1
       exact ⟨fun j w' g' a' hj=>by omega,hrt h2⟩
      ·obtain ⟨h1,h2⟩:=rcond_ok h
       by_cases hc:code=1
       ·obtain ⟨k',h1⟩:=h1 (by simpa [Out.code] using hc)
        exact ⟨fun j w' g' a' hj=>by omega,hrt h1⟩
       ·obtain ⟨k',h2⟩:=h2 (by simpa [Out.code] using hc)
        exact ⟨(hlv h2).2,fun σ' w' g' a' h=>absurd h hc⟩
     | false =>
      rw [hh,cond_false] at h
      exact ⟨(hlv h).2,fun σ' w' g' a' h1=>absurd h1 (hlv h).1⟩
    -- the rounds
    refine wp_loop_ghost (fun m a w=>∃ p g,iter step m p=some (code,pay)∧Rel P w g base (mkSt σ.dom p) a∧a.tmps.size=n∧Below base w0 w) N ⟨σ.flat,g,hoo,hr.mkSt hre,hn,hb⟩ ?_
    rintro m a1 w1 ⟨p,g1,hit,hr1,hn1,hb1⟩
    cases m with
    | zero=>cases hit
    | succ m =>
     unfold iter at hit
     cases hs:step p with
     | none=>rw [hs] at hit; cases hit
     | some cp =>
      obtain ⟨code',pay'⟩:=cp
      rw [hs] at hit
      have hs':stepOut (evCode P call N ks fin x (mkSt σ.dom p) (leaf σ.dom 0) (fun j=>leaf σ.dom (j+2)) retLeaf)=some (code',pay'):=by rw [← hs,← hstep]
      obtain ⟨k',hev⟩:=stepOut_ok hs'
      refine ih (mkSt σ.dom p) _ _ _ k' (code',pay') w1 g1 a1 _ hd hev hr1 hn1 hb1 ⟨fun σ' w' g' a' key' h1 h2 h3 h4=>?_,fun j σ' w' g' a' key' h1 h2 h3 h4=>?_,fun σ' w' g' a' key' h1 h2 h3 h4=>?_⟩
      ·obtain ⟨q1,q2,q3⟩:=leaf_ok h1
       injection q3 with q3 q4
       subst q3; subst q4
       have:=(h2.restrictD q2 σ.dom).mkSt rfl
       rw [q1] at this
       exact ⟨m,Nat.lt_succ_self m,_,g',hit,this,h3,h4⟩
      ·obtain ⟨q1,q2,q3⟩:=leaf_ok h1
       injection q3 with q3 q4
       subst q3; subst q4
       have:=(h2.restrictD q2 σ.dom).mkSt rfl
       rw [q1] at this
       simp only [Option.some.injEq,Prod.mk.injEq] at hit
       obtain ⟨rfl,rfl⟩:=hit
       exact hend.1 j w' g' a' rfl this h3 h4
      ·obtain ⟨pp,q1,q2⟩:=retLeaf_ok h1
       injection q2 with q2 q3
       subst q2; subst q3
       simp only [Option.some.injEq,Prod.mk.injEq] at hit
       obtain ⟨rfl,rfl⟩:=hit
       exact hend.2 σ' w' g' a' rfl q1 h2 h3 h4
   ·cases h
 | exit id =>
  intro σ kn kx kr key out w g a Q hd h hr hn hb hE
  exact wp_exit (hE.2.1 id σ w g a key h hr hn hb)
 | ret =>
  intro σ kn kx kr key out w g a Q hd h hr hn hb hE
  exact wp_ret (hE.2.2 σ w g a key h hr hn hb)
 | _ =>
  intro σ kn kx kr key out w g a Q hd h hr hn hb hE
  simp only [evCode] at h
  cases h
end
end Go.Proofs.YtpdfmcmnjikppaaGreat
namespace Go.Proofs.YtpdfmcmnjikppaaGreat
open Go.RowKit
section
variable [Low] {P:Program} {w w':World} {g g':G} {base:Nat} {σ:St} {a:Act}
def VL (P:Program) (w:World) (g:G) (base:Nat):List Sh1→List D→List Value→Prop
 | [],_,[]=>True
 | x::xs,p,v::vs=>V1 P w g base x p v∧VL P w g base xs (p.drop x.size) vs
 | _,_,_=>False
theorem gd_drop (p:List D) (n i:Nat):gd (p.drop n) i=gd p (n+i):=by simp [gd,List.getD]
theorem gd_append_left {p q:List D} {i:Nat} (h:i<p.length):gd (p++q) i=gd p i:=by simp [gd,List.getD,List.getElem?_append_left h]
theorem vl_get:∀ {xs:List Sh1} {p:List D} {vs:List Value},VL P w g base xs p vs→vs.length=xs.length∧∀ (j:Nat) x,xs[j]?=some x→∃ u,vs[j]?=some u∧V1 P w g base x (sub p (offs xs j) x.size) u
 | [],p,[],h=>⟨rfl,fun j x h=>by simp at h⟩
 | [],p,v::vs,h=>h.elim
 | x::xs,p,[],h=>h.elim
 | x::xs,p,v::vs,h=>by
  obtain ⟨h1,h2⟩:=h
  obtain ⟨k1,k2⟩:=vl_get h2
  refine ⟨by simp [k1],fun j y hj=>?_⟩
  cases j with
  | zero =>
   simp only [List.getElem?_cons_zero,Option.some.injEq] at hj
   subst hj
   exact ⟨v,rfl,v1_congr (fun j hj=>by rw [gd_sub _ _ _ _ hj]; simp [offs]) h1⟩
  | succ j =>
   obtain ⟨u,q1,q2⟩:=k2 j y (by simpa using hj)
   refine ⟨u,by simpa using q1,v1_congr (fun i hi=>?_) q2⟩
   rw [gd_sub _ _ _ _ hi,gd_sub _ _ _ _ hi,gd_drop]
   congr 1
   simp only [offs,List.take_succ_cons,List.foldr_cons]
   omega
theorem load_ptr {t:TypeId} {x r:T} {u:Value} (h:evLoad P t σ x=some r) (hx:VT P w g base x u):∃ A,u=.pointer (some A):=by
 unfold evLoad at h
 split at h
 ·obtain ⟨sh,p⟩:=x
  cases sh with
  | tup xs=>cases h
  | one x=>cases x with
   | agg xs=>cases h
   | c x=>cases x with
    | ptr id off=>exact ⟨_,hx⟩
    | eptr tk e off=>cases tk with
     | none=>obtain ⟨_,_,_,_,h,_⟩:=hx; exact ⟨_,h⟩
     | some t=>obtain ⟨_,_,h,_⟩:=hx; exact ⟨_,h⟩
    | cptr cells off=>obtain ⟨_,_,h,_⟩:=hx; exact ⟨_,h⟩
    | _=>cases h
 ·cases h
def resVar (tmps:Array Value):ResultVar→Sem Value
 | .tmp t=>pure (tmps.getD t undef)
 | .cell a t=>do loadVar t (← asAddr (tmps.getD a undef))
theorem results1_ok (hr:Rel P w g base σ a):∀ {rs:List ResultVar} {shs:List Sh1} {p:List D},results1 P σ rs=some (shs,p)→∃ vs:List Value,(rs.mapM (resVar a.tmps)).run P w=.ok vs w∧VL P w g base shs p vs
 | [],shs,p,h=>by
  simp only [results1,Option.some.injEq,Prod.mk.injEq] at h
  obtain ⟨rfl,rfl⟩:=h
  exact ⟨[],by simp,trivial⟩
 | r::rs,shs,p,h=>by
  unfold results1 at h
  simp only at h
  split at h
  ·rename_i v shs0 p0 hv hrs
   obtain ⟨vs,k1,k2⟩:=results1_ok hr hrs
   have h1:∃ u,(resVar a.tmps r).run P w=.ok u w∧VT P w g base v u:=by
    cases r with
    | tmp t =>
     simp only [Option.some.injEq] at hv
     subst hv
     exact ⟨_,by simp [resVar],hr.env t⟩
    | cell x t =>
     simp only at hv
     obtain ⟨A,hA⟩:=load_ptr hv (hr.env x)
     obtain ⟨z,q1,q2⟩:=evLoad_ok hr hv (hr.env x)
     have q1:=q1 w (Below.refl _ _)
     refine ⟨z,?_,q2⟩
     rw [hA] at q1
     simp only [resVar,hA,asAddr,Sem.run_bind,Sem.run_pure,Result.andThen_ok]
     simpa only [Instr.loadAt,Instr.sureAddr,Sem.run_bind,Sem.run_pure,Result.andThen_ok] using q1
   obtain ⟨u,q1,q2⟩:=h1
   have hrun:(List.mapM (resVar a.tmps) (r::rs)).run P w=.ok (u::vs) w:=by
    rw [List.mapM_cons]
    simp only [Sem.run_bind,q1,Result.andThen_ok,k1,Sem.run_pure]
   obtain ⟨vsh,vp⟩:=v
   split at h
   ·rename_i b he
    simp only at he
    subst he
    simp only [Option.some.injEq,Prod.mk.injEq] at h
    obtain ⟨rfl,rfl⟩:=h
    refine ⟨_,hrun,?_,k2⟩
    have q2:u=.bool b:=q2
    subst q2
    exact VD.bool (.b b)
   ·rename_i x _ he
    simp only at he
    subst he
    simp only [Option.some.injEq,Prod.mk.injEq] at h
    obtain ⟨rfl,rfl⟩:=h
    refine ⟨_,hrun,v1_congr (fun j hj=>?_) q2,?_⟩
    ·rw [gd_append_left (by rw [sub_length]; exact hj),gd_sub _ _ _ _ hj,Nat.zero_add]
    ·rw [List.drop_append_of_le_length (by rw [sub_length]; exact Nat.le_refl _)]
     simpa [List.drop_eq_nil_of_le (Nat.le_of_eq (sub_length vp x.size 0))] using k2
   ·cases h
  ·cases h
theorem fitC_ok {pairs:List (Tok × Tok)} (h1:nodupB (pairs.map (·.1))=true) (h2:nodupB (pairs.map (·.2))=true) {c r:Ce} (hf:fitC c r=true) (hp:∀ t x e t' x' e',c=.own t x e→r=.own t' x' e'→(t,t')∈pairs)
  {x:D} {v:Value} (hv:VC P w g base c x v):VC P w (giveG g pairs) base r x v:=by
 cases c with
 | d s=>cases r with
  | d s' =>
   have:s=s':=by simpa [fitC] using hf
   subst this
   exact hv
  | _=>simp [fitC] at hf
 | own t xm e=>cases r with
  | own t' x' e' =>
   have hm:=hp t xm e t' x' e' rfl rfl
   have hx:xm=x'∧e=e'∧(deepT t'&&xm)=(deepT t&&xm):=by
    have hf:(xm==x'&&e==e'&&t'.1==0&&(!xm||deepT t==deepT t'))=true:=by cases xm <;> exact hf
    simp only [Bool.and_eq_true,beq_iff_eq,Bool.or_eq_true,Bool.not_eq_true'] at hf
    refine ⟨hf.1.1.1,hf.1.1.2,?_⟩
    rcases hf.2 with h | h
    ·rw [h,Bool.and_false,Bool.and_false]
    ·rw [h]
   obtain ⟨rfl,rfl,hdx⟩:=hx
   exact give_own h1 h2 (Nat.le_refl _) hm hdx hv
  | d s =>
   cases xm with
   | true=>cases s <;> simp [fitC] at hf
   | false =>
    cases s with
    | sl e' =>
     have:e=e':=by simpa [fitC] using hf
     subst this
     obtain ⟨row,hrow,hown⟩:=hv
     have:VD P w g.prot (.sl e) x v:=own_vd' hrow hown
     exact this
    | _=>simp [fitC] at hf
  | _=>cases xm <;> simp [fitC] at hf
 | _=>cases r <;> simp [fitC] at hf
theorem fitCs_get:∀ {cs rs:List Ce},fitCs cs rs=true→cs.length=rs.length∧∀ (j:Nat) r,rs[j]?=some r→∃ c,cs[j]?=some c∧fitC c r=true
 | [],[],_=>⟨rfl,fun j r h=>by simp at h⟩
 | [],r::rs,h=>by simp [fitCs] at h
 | c::cs,[],h=>by simp [fitCs] at h
 | c::cs,r::rs,h=>by
  simp only [fitCs,Bool.and_eq_true] at h
  obtain ⟨k1,k2⟩:=fitCs_get h.2
  refine ⟨by simp [k1],fun j x hj=>?_⟩
  cases j with
  | zero =>
   simp only [List.getElem?_cons_zero,Option.some.injEq] at hj
   subst hj
   exact ⟨c,rfl,h.1⟩
  | succ j =>
   obtain ⟨c0,q1,q2⟩:=k2 j x (by simpa using hj)
   exact ⟨c0,by simpa using q1,q2⟩
theorem sealC_own {ts:List Tok} {c:Ce} {t:Tok} {x:Bool} {e:TypeId} (h:sealC ts c=.own t x e):∃ x0,c=.own t x0 e:=by
 cases c with
 | own t0 x0 e0=>simp only [sealC,Ce.own.injEq] at h; obtain ⟨rfl,_,rfl⟩:=h; exact ⟨x0,rfl⟩
 | eptr t e off=>cases t <;> cases h
 | inn t' e' off ei=>simp only [sealC] at h; cases hc:ts.contains t' <;> rw [hc] at h <;> cases h
 | _=>cases h
theorem fit1_ok {pairs:List (Tok × Tok)} (h1:nodupB (pairs.map (·.1))=true) (h2:nodupB (pairs.map (·.2))=true) {ts:List Tok} {x y:Sh1} (hf:fit1 (x.map (sealC ts)) y=true) (hp:∀ q∈given x.ces y.ces,q∈pairs)
  {p:List D} {v:Value} (hv:V1 P w g base (x.map (sealC ts)) p v):x.size=y.size∧V1 P w (giveG g pairs) base y p v:=by
 cases x with
 | c c=>cases y with
  | c r =>
   refine ⟨rfl,fitC_ok h1 h2 hf (fun t x e t' x' e' e1 e2=>?_) hv⟩
   obtain ⟨x0,rfl⟩:=sealC_own e1
   subst e2
   exact hp _ (by simp [Sh1.ces,given])
  | agg ys=>cases hf
 | agg xs=>cases y with
  | c r=>cases hf
  | agg ys =>
   obtain ⟨k1,k2⟩:=fitCs_get (show fitCs (xs.map (sealC ts)) ys=true from hf)
   rw [List.length_map] at k1
   obtain ⟨arr,rfl,q1,q2⟩:=hv
   refine ⟨k1,arr,rfl,by rw [q1,List.length_map,k1],fun j r hj=>?_⟩
   obtain ⟨c,hc,hfc⟩:=k2 j r hj
   obtain ⟨u,hu,huv⟩:=q2 j c hc
   refine ⟨u,hu,fitC_ok h1 h2 hfc (fun t x e t' x' e' e1 e2=>?_) huv⟩
   rw [List.getElem?_map] at hc
   cases hx:xs[j]? with
   | none=>rw [hx] at hc; cases hc
   | some c0 =>
    rw [hx] at hc
    injection hc with hc
    rw [e1] at hc
    obtain ⟨x0,rfl⟩:=sealC_own hc
    subst e2
    exact hp _ (given_get hx hj)
theorem ces_length (x:Sh1):x.ces.length=x.size:=by cases x <;> rfl
theorem fit_ok {pairs:List (Tok × Tok)} (h1:nodupB (pairs.map (·.1))=true) (h2:nodupB (pairs.map (·.2))=true) {ts:List Tok}:∀ {xs ys:List Sh1},fit (xs.map (Sh1.map (sealC ts))) ys=true→(∀ q∈given (outCes xs) (outCes ys),q∈pairs) →
  ∀ {p:List D} {vs:List Value},VL P w g base (xs.map (Sh1.map (sealC ts))) p vs→VL P w (giveG g pairs) base ys p vs
 | [],[],_,_,p,vs,h=>by cases vs <;> exact h
 | [],y::ys,h,_,_,_,_=>by simp [fit] at h
 | x::xs,[],h,_,_,_,_=>by simp [fit] at h
 | x::xs,y::ys,h,hp,p,[],hv=>hv.elim
 | x::xs,y::ys,h,hp,p,v::vs,hv=>by
  simp only [List.map_cons,fit,Bool.and_eq_true] at h
  obtain ⟨hv1,hv2⟩:=hv
  have hsz:x.size=y.size:=by
   cases x with
   | c c=>cases y with
    | c r=>rfl
    | agg ys=>cases h.1
   | agg xs=>cases y with
    | c r=>cases h.1
    | agg ys =>
     have:=(fitCs_get (show fitCs (xs.map (sealC ts)) ys=true from h.1)).1
     rwa [List.length_map] at this
  have e:given (outCes (x::xs)) (outCes (y::ys))=given x.ces y.ces++given (outCes xs) (outCes ys):=by
   simp only [outCes,List.flatMap_cons]
   exact given_append (by rw [ces_length,ces_length,hsz])
  rw [e] at hp
  refine ⟨(fit1_ok h1 h2 h.1 (fun q hq=>hp q (List.mem_append.2 (.inl hq))) hv1).2,?_⟩
  have:=fit_ok h1 h2 h.2 (fun q hq=>hp q (List.mem_append.2 (.inr hq))) hv2
  rwa [Sh1.size_map,hsz] at this
theorem vl_kept {f:Ce→Ce} (hk:Kept P base g g' w w' f):∀ {xs:List Sh1} {p:List D} {vs:List Value},VL P w g base xs p vs→VL P w' g' base (xs.map (Sh1.map f)) p vs
 | [],p,vs,h=>by cases vs <;> exact h
 | x::xs,p,[],h=>h.elim
 | x::xs,p,v::vs,h=>⟨hk.v1 h.1,by rw [Sh1.size_map]; exact vl_kept hk h.2⟩
theorem finish_ok (hr:Rel P w g base σ a) {fn:Func} {rs:Sh} {p:List D} (h:finish P fn rs σ=some p) :
  ∃ v g',(results fn a.tmps).run P w=.ok v w∧VT P w g' base ⟨rs,p⟩ v∧(∀ b,Low.old b→g'.prot b=Low.low b)∧(∀ b,w.heap.size≤b→g'.prot b=0∧g'.owner b=none):=by
 unfold finish at h
 split at h
 ·rename_i shs p0 hres
  generalize hts:lend (outCes shs) (outCes rs.list)=ts at h
  generalize hpr:given (outCes shs) (outCes rs.list)=pairs at h
  cases hc:(fit (shs.map (Sh1.map (sealC ts))) rs.list&&nodupB (pairs.map (·.1))&&nodupB (pairs.map (·.2))&&rs.tupOk) with
  | false=>rw [hc] at h; cases h
  | true =>
   rw [hc,cond_true] at h
   injection h with h
   subst h
   simp only [Bool.and_eq_true] at hc
   obtain ⟨⟨⟨c1,c2⟩,c3⟩,c4⟩:=hc
   obtain ⟨vs,k1,k2⟩:=results1_ok hr hres
   have k3:=fit_ok c2 c3 c1 (fun q hq=>by rw [← hpr]; exact hq) (vl_kept (kept_seal g ts w) k2)
   obtain ⟨q1,q2⟩:=vl_get k3
   have hs:=hr.seal ts
   have hrun:(results fn a.tmps).run P w=.ok (if h:vs.toArray.size=1 then vs.toArray[0] else .tuple vs.toArray) w:=by
    have e:results fn a.tmps=(do let vs ← fn.results.mapM (resVar a.tmps); pure (if h:vs.size=1 then vs[0] else .tuple vs)):=by
     unfold results
     congr 1
    rw [e,Array.mapM_eq_mapM_toList]
    simp only [Sem.run_bind,Sem.run_map,k1,Result.andThen_ok,Sem.run_pure]
   refine ⟨_,giveG (sealG g ts) pairs,hrun,?_,fun b hb=>(hs.low.2.1 b (by rw [hs.low.1.1]; exact hb)).2.1,fun b hb=>?_⟩
   ·cases rs with
    | one x =>
     have hl:vs.length=1:=by rw [q1]; rfl
     obtain ⟨u,hu,huv⟩:=q2 0 x rfl
     rw [dif_pos (by simpa using hl)]
     have:vs.toArray[0]'(by simp [hl])=u:=by
      have:=hu
      rw [List.getElem?_eq_getElem (by omega)] at this
      simpa using this
     rw [this]
     exact v1_congr (fun j hj=>by rw [gd_sub _ _ _ _ hj]; simp [offs]) huv
    | tup xs =>
     have hne:¬ vs.toArray.size=1:=by
      simp only [List.size_toArray,q1]
      simpa [Sh.list,Sh.tupOk] using c4
     rw [dif_neg hne]
     exact ⟨vs.toArray,rfl,by simp [q1,Sh.list],fun j x hj=>by
      obtain ⟨u,hu,huv⟩:=q2 j x hj
      exact ⟨u,by simpa using hu,huv⟩⟩
   ·have:=hs.fresh b hb
    refine ⟨this.1,?_⟩
    show (match (sealG g ts).owner b with | some (Sum.inr t)=>(fwd pairs t).map Sum.inr | _=>none)=none
    rw [this.2]
 ·cases h
theorem look_start:∀ (args:List T) (k i:Nat),look i (startAt k args)=if k≤i then (args[i - k]?).getD .any else .any
 | [],k,i=>by simp [startAt,look]
 | v::vs,k,i=>by
  simp only [startAt,look]
  by_cases e:i=k
  ·subst e; simp
  ·rw [show (i==k)=false from by simpa using e,cond_false,look_start vs (k+1) i]
   by_cases h:k≤i
   ·rw [if_pos h,if_pos (by omega),show i - k=(i - (k+1))+1 from by omega]
    simp
   ·rw [if_neg h,if_neg (by omega)]
end
inductive WD (P:Program):S→D→Prop
 | int (k:IntKind) (d:D):WD P (.int k) d
 | bool (d:D):WD P .bool d
 | str (d:D):WD P .str d
 | sl (e:TypeId) (d:D) (row:List S) (hr:rowOf P e=some row) (h1:d.rows.length≤9223372036854775807) (h2:∀ i j s,i<d.rows.length→row[j]?=some s→WD P s (gd (d.rows.getD i []) j)):WD P (.sl e) d
theorem VD.wd {P:Program} {w:World} {prot:Nat→Nat} {s:S} {x:D} {v:Value} (h:VD P w prot s x v):WD P s x:=by
 induction h with
 | int k d=>exact .int k d
 | bool d=>exact .bool d
 | str d=>exact .str d
 | sl e d A c row u hr h1 h2 h3 h4 ih=>exact .sl e d row hr (Nat.le_trans h1 h2) ih
def WC (P:Program):Ce→D→Prop
 | .d s,x=>WD P s x
 | .cptr cells _,x=>∀ (j:Nat) s,cells[j]?=some s→WD P s (gd (x.rows.getD 0 []) j)
 | .own _ _ _,x=>x.rows.length≤9223372036854775807
 | _,_=>True
def WT (P:Program) (t:T):Prop:=
 match t.sh with
 | .one (.c c)=>WC P c (gd t.p 0)
 | .one (.agg xs)=>∀ (j:Nat) c,xs[j]?=some c→WC P c (gd t.p j)
 | .tup _=>True
theorem wc_of {P:Program} {w:World} {g:G} {base:Nat} {c:Ce} {x:D} {v:Value} (h:VC P w g base c x v):WC P c x:=by
 cases c with
 | d s=>exact VD.wd h
 | cptr cells off =>
  obtain ⟨b,o,_,_,h⟩:=h
  intro j s hs
  obtain ⟨u,_,h⟩:=h j s hs
  exact h.wd
 | own t xm e =>
  obtain ⟨row,_,h⟩:=h
  rcases h with ⟨h0,_⟩ | ⟨cap,arr,E,_,h2,h3,_⟩
  ·show x.rows.length≤_
   rw [h0]; simp
  ·exact Nat.le_trans h2 h3.1
 | _=>trivial
theorem wt_of {P:Program} {w:World} {g:G} {base:Nat} {t:T} {v:Value} (h:VT P w g base t v):WT P t:=by
 obtain ⟨sh,p⟩:=t
 cases sh with
 | tup xs=>trivial
 | one x=>cases x with
  | c c=>exact wc_of h
  | agg xs =>
   obtain ⟨arr,_,_,h⟩:=h
   intro j c hj
   obtain ⟨u,_,h⟩:=h j c hj
   exact wc_of h
theorem evFn_sound {P:Program} {call:FuncId→List T→Option (T × Bool)} (hcall:CallOk P call) {N:Nat} {ks:List Nat} {f:FuncId} {fn:Func} {rs:Sh} {args:List T} {key:Option Dom} {p:List D}
  (hen:∀ vs w,(callFunc f vs).run P w=.ok (.enter f vs) w) (hf:P.funcs[f]?=some fn) (h:(∀ t∈args,WT P t)→evFn P call N ks fn rs args=some (key,some (1,p))) (hisw:rs.isW=false:=by rfl):SoundFn P f args ⟨rs,p⟩:=by
 refine SoundFn.of hisw ⟨hen,fun w prot vs hargs hprot=>?_⟩
 replace h:=h fun t ht=>by
  obtain ⟨j,hj⟩:=List.getElem?_of_mem ht
  obtain ⟨u,_,h⟩:=hargs.2 j t hj
  exact wt_of h
 letI:Low:=⟨prot,fun b=>w.heap[b]?,fun b=>b<w.heap.size,fun _=>none,0,fun _ _ _ _=>True⟩
 unfold evFn at h
 split at h
 ·rename_i c hb
  cases hc:(dstsOk fn.ntmps c&&Nat.ble args.length fn.ntmps&&Nat.ble fn.ntmps 1000000) with
  | false=>rw [hc] at h; cases h
  | true =>
   rw [hc,cond_true] at h
   simp only [Bool.and_eq_true] at hc
   obtain ⟨hc,hcn⟩:=hc
   have hnt:fn.ntmps≤1000000:=Nat.le_of_ble_eq_true hcn
   have hle:args.length≤fn.ntmps:=Nat.le_of_ble_eq_true hc.2
   refine calls_of_wp hf hb ?_
   have hrel:Rel P w (g0 w.heap.size prot) w.heap.size (start args) { tmps:=vs++Array.replicate (fn.ntmps - vs.size) undef,defers:= [] }:=by
    refine ⟨fun i=>?_,fun id cs ds hl=>(by cases hl),fun b hb=>⟨hprot b hb,rfl⟩,Nat.le_refl _,⟨rfl,by simp only [Array.size_append,Array.size_replicate]; have:=hargs.1; omega⟩,⟨⟨rfl,rfl⟩,fun b hb=>⟨rfl,rfl,rfl,hb⟩,fun t x hx=>by cases hx⟩,fun _ _ _ _=>trivial⟩
    show VT P w (g0 w.heap.size prot) w.heap.size (look i (startAt 0 args)) _
    rw [look_start,if_pos (Nat.zero_le _),Nat.sub_zero]
    cases ht:args[i]? with
    | none=>trivial
    | some t =>
     obtain ⟨u,hu,huv⟩:=hargs.2 i t ht
     have hi:i<vs.size:=(Array.getElem?_eq_some_iff.1 hu).1
     have:(vs++Array.replicate (fn.ntmps - vs.size) undef).getD i undef=u:=by
      rw [Array.getD_eq_getD_getElem?,Array.getElem?_append_left hi,hu]; rfl
     rw [this]
     exact huv
   have hn:(vs++Array.replicate (fn.ntmps - vs.size) undef).size=fn.ntmps:=by
    have:=hargs.1
    simp; omega
   have hfin:∀ (a':Act) (w':World) (σ':St) (g':G) (key':Option Dom),retLeaf (finish P fn rs σ')=some (key',some (1,p))→Rel P w' g' w.heap.size σ' a'→Below w.heap.size w w'→a'.defers = []∧∃ v,(results fn a'.tmps).run P w'=.ok v w'∧∃ v' g',Ending.returned v=.returned v'∧Res P prot w w' ⟨rs,p⟩ v' g':=by
    intro a' w' σ' g' key' h1 h2 h3
    obtain ⟨p',k1,k2⟩:=retLeaf_ok h1
    injection k2 with _ k2
    subst k2
    obtain ⟨v,g2,q1,q2,q3,q4⟩:=finish_ok h2 k1
    exact ⟨h2.defers.1,v,q1,v,g2,rfl,h3,q2,q3,q4⟩
   exact evCode_ok hcall c (start args) _ _ _ key (1,p) w (g0 w.heap.size prot) _ _ hc.1 h hrel hn (Below.refl _ _)
    ⟨fun σ' w' g' a' key' h1 h2 h3 h4=>hfin a' w' σ' g' key' h1 h2 h4,fun j σ' w' g' a' key' h1=>(by cases h1),fun σ' w' g' a' key' h1 h2 h3 h4=>hfin a' w' σ' g' key' h1 h2 h4⟩
 ·cases h
end Go.Proofs.YtpdfmcmnjikppaaGreat
namespace Go.Proofs.YtpdfmcmnjikppaaGreat
open Go.RowKit
theorem ces_len (x:Sh1):x.ces.length=x.size:=by cases x <;> rfl
theorem offs_lt:∀ {xs:List Sh1} {j i:Nat} {z:Sh1},xs[j]?=some z→i<z.size→offs xs j+i<(xs.flatMap Sh1.ces).length
 | [],j,i,z,h,_=>by simp at h
 | x::xs,0,i,z,h,hi=>by
  simp only [List.getElem?_cons_zero,Option.some.injEq] at h
  subst h
  simp only [offs,List.take_zero,List.foldr_nil,List.flatMap_cons,List.length_append,ces_len]
  omega
 | x::xs,j+1,i,z,h,hi=>by
  have:=offs_lt (xs:=xs) (j:=j) (by simpa using h) hi
  simp only [offs,List.take_succ_cons,List.foldr_cons,List.flatMap_cons,List.length_append,ces_len] at this ⊢
  omega
section
variable [Low] {P:Program} {w w':World} {g g':G} {base:Nat} {σ:St} {a:Act}
theorem finishP_ok (hr:Rel P w g base σ a) {fn:Func} {cs2:List Ce} {res:List Sh1} {p:List D} (h:finishP P fn (.tup (.agg [.any]::.agg cs2::res)) σ=some p) :
  ∃ v g',(results fn a.tmps).run P w=.ok v w∧g'.old=g.old∧(∀ k,g.owner k=none→g'.prot k=g.prot k∧g'.owner k=none)∧(∀ b,w.heap.size≤b→g'.prot b=0∧g'.owner b=none) ∧
   (g'.prot (g.θ 1000000)=0∧∀ t,g'.owner (g.θ 1000000)≠some (.inr t))∧(∃ arr E,w.heap[g.θ 1000000]?=some (.cells arr E (0,0))∧VCs P w g' base cs2 (sub p 1 cs2.length) arr) ∧
   VT P w g' base ⟨tupOf res,sub p (1+cs2.length) (res.flatMap Sh1.ces).length⟩ v:=by
 unfold finishP at h
 split at h
 ·rename_i cs2' res' cs ds shs p0 he hbox hres
  simp only [Sh.tup.injEq,List.cons.injEq,Sh1.agg.injEq,true_and] at he
  obtain ⟨rfl,rfl⟩:=he
  generalize hxs:(Sh1.agg (cs.map wideC)::shs)=xs at h
  generalize hts:lend (outCes xs) (outCes (.agg cs2::res))=ts at h
  generalize hpr:given (outCes xs) (outCes (.agg cs2::res))=pairs at h
  cases hc:(fit (xs.map (Sh1.map (sealC ts))) (.agg cs2::res)&&nodupB (pairs.map (·.1))&&nodupB (pairs.map (·.2))) with
  | false=>rw [hc] at h; cases h
  | true =>
   rw [hc,cond_true] at h
   injection h with h
   subst h
   simp only [Bool.and_eq_true] at hc
   obtain ⟨⟨c1,c2⟩,c3⟩:=hc
   obtain ⟨b1,b2,b3,b4,arr,E,b5,b6⟩:=hr.box _ _ _ hbox
   obtain ⟨vs,k1,k2⟩:=results1_ok hr hres
   have hwl:=len_wideDs cs ds 0
   have hxl:VL P w g base xs (wideDs cs ds 0++p0) (.agg arr::vs):=by
    rw [← hxs]
    refine ⟨v1_congr (p:=wideDs cs ds 0) (fun j hj=>(gd_append_left ?_).symm) ⟨arr,rfl,vcs_wide b6⟩,?_⟩
    ·rw [hwl]; simpa [Sh1.size] using hj
    ·rw [show (Sh1.agg (cs.map wideC)).size=(wideDs cs ds 0).length from by rw [hwl]; simp [Sh1.size],List.drop_left]
     exact k2
   have k3:=fit_ok c2 c3 c1 (fun q hq=>by rw [← hpr]; exact hq) (vl_kept (kept_seal g ts w) hxl)
   have hs:=hr.seal ts
   obtain ⟨k3a,k3b⟩:=k3
   obtain ⟨arr9,e9,hv9⟩:=k3a
   injection e9 with e9
   subst e9
   obtain ⟨q1,q2⟩:=vl_get k3b
   have hrun:(results fn a.tmps).run P w=.ok (if h:vs.toArray.size=1 then vs.toArray[0] else .tuple vs.toArray) w:=by
    have e:results fn a.tmps=(do let vs ← fn.results.mapM (resVar a.tmps); pure (if h:vs.size=1 then vs[0] else .tuple vs)):=by
     unfold results
     congr 1
    rw [e,Array.mapM_eq_mapM_toList]
    simp only [Sem.run_bind,Sem.run_map,k1,Result.andThen_ok,Sem.run_pure]
   have hnone:∀ k,g.owner k=none→(giveG (sealG g ts) pairs).prot k=g.prot k∧(giveG (sealG g ts) pairs).owner k=none:=fun k hk=>by
    refine ⟨seal_none hk,?_⟩
    show (match (sealG g ts).owner k with | some (Sum.inr t)=>(fwd pairs t).map Sum.inr | _=>none)=none
    rw [show (sealG g ts).owner k=none from hk]
   refine ⟨_,giveG (sealG g ts) pairs,hrun,rfl,hnone,fun b hb=>?_,⟨?_,fun t=>?_⟩,⟨arr,E,b5,?_⟩,?_⟩
   ·obtain ⟨z1,z2⟩:=hr.fresh b hb
    obtain ⟨y1,y2⟩:=hnone b z2
    exact ⟨y1.trans z1,y2⟩
   ·show (sealG g ts).prot _=0
    rw [seal_box b2]; exact b3
   ·show (match (sealG g ts).owner (g.θ 1000000) with | some (Sum.inr t)=>(fwd pairs t).map Sum.inr | _=>none)≠_
    rw [show (sealG g ts).owner (g.θ 1000000)=some (.inl 1000000) from b2]
    simp
   ·refine ⟨hv9.1,fun j c hj=>?_⟩
    obtain ⟨u,hu,hv⟩:=hv9.2 j c hj
    refine ⟨u,hu,?_⟩
    rw [gd_sub _ _ _ _ (List.getElem?_eq_some_iff.1 hj).1,show 1+j=j+1 from by omega,gd_cons_succ]
    exact hv
   ·have hgd:∀ i j n,i+j<n→gd (sub (D0::(wideDs cs ds 0++p0)) (1+cs2.length) n) (i+j)=gd ((wideDs cs ds 0++p0).drop (Sh1.agg cs2).size) (i+j):=fun i j n h=>by
     rw [gd_sub _ _ _ _ h,show 1+cs2.length+(i+j)=(cs2.length+(i+j))+1 from by omega,gd_cons_succ,gd_drop]
     rfl
    cases res with
    | nil =>
     have hl:vs = []:=List.eq_nil_of_length_eq_zero (by rw [q1]; rfl)
     subst hl
     exact ⟨#[],rfl,rfl,fun j x hj=>by simp at hj⟩
    | cons x rest=>cases rest with
     | nil =>
      have hl:vs.length=1:=by rw [q1]; rfl
      obtain ⟨u,hu,huv⟩:=q2 0 x rfl
      rw [dif_pos (by simpa using hl)]
      have:vs.toArray[0]'(by simp [hl])=u:=by
       have:=hu
       rw [List.getElem?_eq_getElem (by omega)] at this
       simpa using this
      rw [this]
      refine v1_congr (fun j hj=>?_) huv
      rw [gd_sub _ _ _ _ hj]
      have:=hgd 0 j ([x].flatMap Sh1.ces).length (by simp [ces_len]; exact hj)
      simp only [Nat.zero_add] at this
      rw [show offs [x] 0+j=j from by simp [offs]]
      exact this.symm
     | cons y ys =>
      have hne:¬ vs.toArray.size=1:=by
       simp only [List.size_toArray,q1,List.length_cons]
       omega
      rw [dif_neg hne]
      refine ⟨vs.toArray,rfl,by simp [q1],fun j z hj=>?_⟩
      obtain ⟨u,hu,huv⟩:=q2 j z hj
      refine ⟨u,by simpa using hu,v1_congr (fun i hi=>?_) huv⟩
      rw [gd_sub _ _ _ _ hi,gd_sub _ _ _ _ hi]
      exact (hgd _ _ _ (offs_lt hj hi)).symm
 ·cases h
end
theorem evFnP_sound {P:Program} {call:FuncId→List T→Option (T × Bool)} (hcall:CallOk P call) {N:Nat} {ks:List Nat} {f:FuncId} {fn:Func} {rs:Sh} {cs1:List Ce} {ds1:List D} {rest:List T} {key:Option Dom} {p:List D}
  (hen:∀ vs w,(callFunc f vs).run P w=.ok (.enter f vs) w) (hf:P.funcs[f]?=some fn) (h:WT P ⟨.one (.agg cs1),ds1⟩→(∀ t∈rest,WT P t)→evFnP P call N ks fn rs (⟨.tup [.agg cs1],ds1⟩::rest)=some (key,some (1,p))) (hisp:rs.isP=true:=by rfl):SoundFn P f (⟨.tup [.agg cs1],ds1⟩::rest) ⟨rs,p⟩:=by
 refine SoundFn.ofP hisp ⟨hen,fun cs1' ds1' rest' cs2 res hargs hrs w g b vs hst=>?_⟩
 simp only [List.cons.injEq,T.mk.injEq,Sh.tup.injEq,Sh1.agg.injEq,and_true] at hargs
 obtain ⟨⟨rfl,rfl⟩,rfl⟩:=hargs
 have hrs:rs=.tup (.agg [.any]::.agg cs2::res):=hrs
 subst hrs
 obtain ⟨arr,E,hb1,hb2⟩:=hst.cells
 replace h:=h (fun j c hj=>by obtain ⟨u,_,hv⟩:=hb2.2 j c hj; exact wc_of hv) fun t ht=>by
  obtain ⟨j,hj⟩:=List.getElem?_of_mem ht
  obtain ⟨u,_,h⟩:=hst.args j t hj
  exact wt_of h
 letI:Low:=⟨g.prot,fun k=>w.heap[k]?,g.old,fun _=>none,b,fun _ _ _ _=>True⟩
 unfold evFnP at h
 split at h
 ·rename_i c cs9 ds9 rest9 hb he
  simp only [List.cons.injEq,T.mk.injEq,Sh.tup.injEq,Sh1.agg.injEq,and_true] at he
  obtain ⟨⟨rfl,rfl⟩,rfl⟩:=he
  cases hc:(dstsOk fn.ntmps c&&Nat.ble (⟨.tup [.agg cs1],ds1⟩::rest:List T).length fn.ntmps&&Nat.ble fn.ntmps 1000000) with
  | false=>rw [hc] at h; cases h
  | true =>
   rw [hc,cond_true] at h
   simp only [Bool.and_eq_true] at hc
   obtain ⟨hc,hcn⟩:=hc
   have hnt:fn.ntmps≤1000000:=Nat.le_of_ble_eq_true hcn
   have hle:rest.length+1≤fn.ntmps:=Nat.le_of_ble_eq_true hc.2
   refine calls_of_wp hf hb ?_
   have hvs:(#[Value.pointer (some ⟨b,0,none⟩)]++vs).size=rest.length+1:=by simp [hst.size]; omega
   have hn:(#[Value.pointer (some ⟨b,0,none⟩)]++vs++Array.replicate (fn.ntmps - (#[Value.pointer (some ⟨b,0,none⟩)]++vs).size) undef).size=fn.ntmps:=by
    rw [Array.size_append,hvs]; simp; omega
   have hrel:Rel P w g 0 (startP cs1 ds1 rest) { tmps:= #[Value.pointer (some ⟨b,0,none⟩)]++vs++Array.replicate (fn.ntmps - (#[Value.pointer (some ⟨b,0,none⟩)]++vs).size) undef,defers:= [] }:=by
    refine ⟨fun i=>?_,fun id cs ds hl=>?_,hst.fresh,Nat.zero_le _,⟨rfl,by show Array.size _≤_; rw [hn]; exact hnt⟩,⟨⟨rfl,hst.box⟩,fun k hk=>⟨(hst.old k hk).1,rfl,rfl,(hst.old k hk).2⟩,fun t x hx=>by cases hx⟩,fun _ _ _ _=>trivial⟩
    ·show VT P w g 0 (look i (startAt 0 (.c (.ptr 1000000 0) D0::rest))) _
     rw [look_start,if_pos (Nat.zero_le _),Nat.sub_zero]
     cases i with
     | zero =>
      have:(#[Value.pointer (some ⟨b,0,none⟩)]++vs++Array.replicate (fn.ntmps - (#[Value.pointer (some ⟨b,0,none⟩)]++vs).size) undef).getD 0 undef=.pointer (some ⟨b,0,none⟩):=by
       rw [Array.getD_eq_getD_getElem?,Array.getElem?_append_left (by rw [hvs]; omega),Array.getElem?_append_left (by simp)]
       rfl
      rw [this]
      show _=Value.pointer (some ⟨g.θ 1000000,0,none⟩)
      rw [hst.box]
     | succ i =>
      simp only [List.getElem?_cons_succ]
      cases ht:rest[i]? with
      | none=>trivial
      | some t =>
       obtain ⟨u,hu,huv⟩:=hst.args i t ht
       have hi:i<vs.size:=(Array.getElem?_eq_some_iff.1 hu).1
       have:(#[Value.pointer (some ⟨b,0,none⟩)]++vs++Array.replicate (fn.ntmps - (#[Value.pointer (some ⟨b,0,none⟩)]++vs).size) undef).getD (i+1) undef=u:=by
        rw [Array.getD_eq_getD_getElem?,Array.getElem?_append_left (by rw [hvs,← hst.size]; omega),Array.getElem?_append_right (by simp)]
        simp [hu]
       rw [this]
       exact huv
    ·have hl:(bif id==1000000 then some (cs1,sub ds1 0 cs1.length) else none)=some (cs,ds):=hl
     cases hid:(id==1000000) with
     | false=>rw [hid] at hl; cases hl
     | true =>
      rw [hid,cond_true] at hl
      have hid:id=1000000:=by simpa using hid
      subst hid
      injection hl with hl
      injection hl with l1 l2
      subst l1; subst l2
      refine ⟨Nat.zero_le _,by rw [hst.box]; exact hst.owner,by rw [hst.box]; exact hst.prot,sub_length _ _ _,arr,E,by rw [hst.box]; exact hb1,hb2.1,fun j c hj=>?_⟩
      obtain ⟨u,hu,hv⟩:=hb2.2 j c hj
      exact ⟨u,hu,by rw [gd_sub _ _ _ _ (List.getElem?_eq_some_iff.1 hj).1,Nat.zero_add]; exact hv⟩
   have hfin:∀ (a':Act) (w':World) (σ':St) (g':G) (key':Option Dom),retLeaf (finishP P fn (.tup (.agg [.any]::.agg cs2::res)) σ')=some (key',some (1,p))→Rel P w' g' 0 σ' a'→Below 0 w w'→a'.defers = []∧∃ v,(results fn a'.tmps).run P w'=.ok v w'∧∃ v' g',Ending.returned v=.returned v'∧EndP P w w' g g' b cs2 res p v':=by
    intro a' w' σ' g' key' h1 h2 h3
    obtain ⟨p',k1,k2⟩:=retLeaf_ok h1
    injection k2 with _ k2
    subst k2
    obtain ⟨v,g2,q1,q2,q3,q4,q5,q6,q7⟩:=finishP_ok h2 k1
    have hθ:g'.θ 1000000=b:=h2.low.1.2
    rw [hθ] at q5 q6
    refine ⟨h2.defers.1,v,q1,v,g2,rfl,h3.os,h3.tape,h3.output,h3.size,fun k hk=>?_,q4,q5,q6,q7⟩
    have hk':g'.old k:=by rw [h2.low.1.1]; exact hk
    obtain ⟨z1,z2,z3,z4⟩:=h2.low.2.1 k hk'
    obtain ⟨y1,y2⟩:=q3 k z1
    exact ⟨z3,y1.trans z2,y2⟩
   exact evCode_ok hcall c (startP cs1 ds1 rest) _ _ _ key (1,p) w g _ _ hc.1 h hrel hn (Below.refl _ _)
    ⟨fun σ' w' g' a' key' h1 h2 h3 h4=>hfin a' w' σ' g' key' h1 h2 h4,fun j σ' w' g' a' key' h1=>(by cases h1),fun σ' w' g' a' key' h1 h2 h3 h4=>hfin a' w' σ' g' key' h1 h2 h4⟩
 ·cases h
theorem TR.wd {P:Program} {w:World} {lab:Nat→List (Nat × Nat)→Nat→Prop} {π:List (Nat × Nat)} {s:S} {x:D} {v:Value} (h:TR P w lab π s x v):WD P s x:=by
 induction h with
 | int π k d=>exact .int k d
 | bool π d=>exact .bool d
 | str π d=>exact .str d
 | nil π e d A hr h =>
  obtain ⟨row,hr⟩:=Option.isSome_iff_exists.1 hr
  exact .sl e d row hr (by rw [h]; simp) (fun i j s hi=>by rw [h] at hi; simp at hi)
 | sl π e d b cap row arr u hr h1 h2 h3 h4 h5 h6 h7 ih=>exact .sl e d row hr (Nat.le_trans h1 h2) ih
theorem mine_get:∀ {cs:List Ce} {k j:Nat} {c:Ce},(mineCs k cs)[j]?=some c→∃ c0,cs[j]?=some c0∧c=mineC (k+j) c0
 | [],k,j,c,h=>by simp [mineCs] at h
 | c0::cs,k,0,c,h=>by
  simp only [mineCs,List.getElem?_cons_zero,Option.some.injEq] at h
  exact ⟨c0,rfl,h.symm⟩
 | c0::cs,k,j+1,c,h=>by
  obtain ⟨c1,h1,h2⟩:=mine_get (cs:=cs) (k:=k+1) (j:=j) (by simpa [mineCs] using h)
  exact ⟨c1,by simpa using h1,by rw [h2,show k+1+j=k+(j+1) from by omega]⟩
theorem mine_len:∀ (cs:List Ce) (k:Nat),(mineCs k cs).length=cs.length
 | [],_=>rfl
 | c::cs,k=>by simp [mineCs,mine_len cs]
theorem outM_get:∀ (cs:List Ce) (k:Nat) (q p:List D) (j:Nat) c,cs[j]?=some c→gd (outM cs k q p) j=(match c with | .own _ _ _=>gd p (k+j) | _=>gd q (k+j))
 | [],k,q,p,j,c,h=>by simp at h
 | c0::cs,k,q,p,0,c,h=>by
  simp only [List.getElem?_cons_zero,Option.some.injEq] at h
  subst h
  cases c0 <;> rfl
 | c0::cs,k,q,p,j+1,c,h=>by
  have:=outM_get cs (k+1) q p j c (by simpa using h)
  rw [show k+(j+1)=k+1+j from by omega,← this]
  cases c0 <;> rfl
def blkOf:Option Value→Nat
 | some (.slice (some A) _ _)=>A.block
 | _=>0
def capOfV:Option Value→Nat
 | some (.slice (some _) _ cap)=>cap
 | _=>0
def etyOf:Option S→TypeId
 | some (.sl e)=>e
 | _=>0
def widOf (P:Program) (e:TypeId):Nat:=((rowOf P e).getD []).length
open Classical in
noncomputable def mineG (P:Program) (w:World) (lab:Nat→List (Nat × Nat)→Nat→Prop) (ss:List S) (ds:List D) (us:Array Value):G:=
 { prot:=fun _=>0,owner:=fun b=>if h:b<w.heap.size∧∃ q:Nat × List (Nat × Nat) × Nat,lab b ((0,q.1)::q.2.1) q.2.2 then some (.inr (1000001,1000000+h.2.choose.1)) else none,θ:=fun _=>0,ρ:=fun t=>blkOf (us[t.2 - 1000000]?),len:=fun t=>(gd ds (t.2 - 1000000)).rows.length,wid:=fun t=>widOf P (etyOf (ss[t.2 - 1000000]?)),ety:=fun t=>etyOf (ss[t.2 - 1000000]?),path:=fun b=>if h:b<w.heap.size∧∃ q:Nat × List (Nat × Nat) × Nat,lab b ((0,q.1)::q.2.1) q.2.2 then h.2.choose.2.1 else [],need:=fun b=>if h:b<w.heap.size∧∃ q:Nat × List (Nat × Nat) × Nat,lab b ((0,q.1)::q.2.1) q.2.2 then h.2.choose.2.2 else 0,old:=fun b=>b<w.heap.size∧¬ ∃ q:Nat × List (Nat × Nat) × Nat,lab b ((0,q.1)::q.2.1) q.2.2 }
theorem mineG_lab {P:Program} {w:World} {lab:Nat→List (Nat × Nat)→Nat→Prop} {ss:List S} {ds:List D} {us:Array Value} (hfun:∀ b π π' n n',lab b π n→lab b π' n'→π=π'∧n=n') {b j n:Nat} {r:List (Nat × Nat)} (hb:b<w.heap.size) (h:lab b ((0,j)::r) n) :
  (mineG P w lab ss ds us).owner b=some (.inr (1000001,1000000+j))∧(mineG P w lab ss ds us).path b=r∧(mineG P w lab ss ds us).need b=n:=by
 have hc:b<w.heap.size∧∃ q:Nat × List (Nat × Nat) × Nat,lab b ((0,q.1)::q.2.1) q.2.2:=⟨hb,(j,r,n),h⟩
 obtain ⟨h1,h2⟩:=hfun _ _ _ _ _ hc.2.choose_spec h
 injection h1 with h1 h3
 injection h1 with _ h1
 refine ⟨?_,?_,?_⟩
 ·simp only [mineG,dif_pos hc,h1]
 ·simp only [mineG,dif_pos hc,h3]
 ·simp only [mineG,dif_pos hc]
  exact h2
theorem mineG_of {P:Program} {w:World} {lab:Nat→List (Nat × Nat)→Nat→Prop} {ss:List S} {ds:List D} {us:Array Value} {b:Nat} {t:Tok} (h:(mineG P w lab ss ds us).owner b=some (.inr t)) :
  ∃ j,t=(1000001,1000000+j)∧lab b ((0,j)::(mineG P w lab ss ds us).path b) ((mineG P w lab ss ds us).need b):=by
 by_cases hc:b<w.heap.size∧∃ q:Nat × List (Nat × Nat) × Nat,lab b ((0,q.1)::q.2.1) q.2.2
 ·simp only [mineG,dif_pos hc] at h ⊢
  injection h with h
  injection h with h
  exact ⟨_,h.symm,hc.2.choose_spec⟩
 ·simp only [mineG,dif_neg hc] at h
  cases h
theorem mine_vc {P:Program} {w:World} {lab:Nat→List (Nat × Nat)→Nat→Prop} {ss:List S} {ds:List D} {us:Array Value} (hfun:∀ b π π' n n',lab b π n→lab b π' n'→π=π'∧n=n') {j:Nat} {s:S} {z:Value} (hs:ss[j]?=some s) (hz:us[j]?=some z) (h:TR P w lab [(0,j)] s (gd ds j) z) :
  VC P w (mineG P w lab ss ds us) 0 (mineC j (.d s)) (gd ds j) z:=by
 cases s with
 | sl e =>
  have ej:(1000000+j) - 1000000=j:=by omega
  have e1:(mineG P w lab ss ds us).ρ (1000001,1000000+j)=blkOf (some z):=by show blkOf (us[(1000000+j) - 1000000]?)=_; rw [ej,hz]
  have e2:(mineG P w lab ss ds us).len (1000001,1000000+j)=(gd ds j).rows.length:=by show (gd ds ((1000000+j) - 1000000)).rows.length=_; rw [ej]
  have e4:(mineG P w lab ss ds us).ety (1000001,1000000+j)=e:=by show etyOf (ss[(1000000+j) - 1000000]?)=_; rw [ej,hs]; rfl
  have e3:(mineG P w lab ss ds us).wid (1000001,1000000+j)=widOf P e:=by show widOf P (etyOf (ss[(1000000+j) - 1000000]?))=_; rw [ej,hs]; rfl
  have hd:deepT (1000001,1000000+j)=true:=by show Nat.ble 1000000 (1000000+j)=true; simp
  show ∃ row,rowOf P e=some row∧OwnV P w _ 0 (1000001,1000000+j) true e row (gd ds j).rows z
  generalize hx:gd ds j=x at *
  generalize hπ : [(0,j)]=π at *
  cases h with
  | nil _ _ _ A hr h0 =>
   obtain ⟨row,hr⟩:=Option.isSome_iff_exists.1 hr
   exact ⟨row,hr,.inl ⟨h0,by rw [e2,h0]; rfl,A,rfl⟩⟩
  | sl _ _ _ b cap row arr u hr h1 h2 h3 h4 h5 h6 h7 =>
   subst hπ
   have hw:widOf P e=row.length:=by simp [widOf,hr]
   obtain ⟨m1,m2,m3⟩:=mineG_lab (P:=P) (ss:=ss) (ds:=ds) (us:=us) hfun (lt_of_heap h4) h3
   have hb:blkOf (some (Value.slice (some ⟨b,0,none⟩) x.rows.length cap))=b:=rfl
   rw [hb] at e1
   refine ⟨row,hr,.inr ⟨cap,arr,e,by rw [e1],h1,⟨h2,rfl,e4.symm⟩,Nat.zero_le _,by rw [e1]; exact m1,by rw [e1]; exact h4,h5,e2.symm,by rw [e3,hw],rfl,fun i j' s hi hs'=>?_⟩⟩
   have hj':=(List.getElem?_eq_some_iff.1 hs').1
   refine ⟨u i j',h6 i j' hi hj',.of_tr ?_ hd⟩
   refine TR.monoQ (fun π=>∃ r,π=(0,j)::r∧r ≠ []) (fun π y ⟨r,hr,hne⟩=>⟨r ++ [y],by rw [hr]; rfl,by simp⟩) List.tail (fun π y ⟨r,hr,hne⟩=>by rw [hr]; rfl) (h7 i j' s hi hs') (fun b' π n o ⟨r,hπ,hne⟩ hl hbb=>⟨hbb,?_⟩) ⟨[(i,j')],rfl,by simp⟩
   subst hπ
   obtain ⟨n1,n2,n3⟩:=mineG_lab (P:=P) (ss:=ss) (ds:=ds) (us:=us) hfun (lt_of_heap hbb) hl
   refine ⟨Nat.zero_le _,n1,fun e=>?_,n2,n3,rfl⟩
   rw [e1] at e
   subst e
   have:=(hfun _ _ _ _ _ hl h3).1
   injection this with _ this
   exact hne this
 | int k =>
  have:z=.int k (gd ds j).int:=by cases h; rfl
  subst this
  exact VD.int k _
 | bool =>
  have:z=.bool (gd ds j).bool:=by cases h; rfl
  subst this
  exact VD.bool _
 | str =>
  have:z=.string (bsv (gd ds j).str):=by cases h; rfl
  subst this
  exact VD.str _
theorem mine_back {P:Program} {w w':World} {lab:Nat→List (Nat × Nat)→Nat→Prop} {ss:List S} {ds:List D} {us:Array Value} {g':G} (hfun:∀ b π π' n n',lab b π n→lab b π' n'→π=π'∧n=n') {j:Nat} {e:TypeId} {z u:Value} {x:D} (hs:ss[j]?=some (.sl e)) (hz:us[j]?=some z) (h:TR P w lab [(0,j)] (.sl e) (gd ds j) z)
  (hlen:g'.len (1000001,1000000+j)=(gd ds j).rows.length) (hρ:g'.ρ (1000001,1000000+j)=blkOf (some z)) (hroom:0<capOfV (some z)*widOf P e→∃ arr,w'.heap[blkOf (some z)]?=some (.cells arr e (0,0))∧arr.size=capOfV (some z)*widOf P e)
  (hv:VC P w' g' 0 (.own (1000001,1000000+j) true e) x u)
  (hlab:∀ b π n,g'.owner b=some (.inr (1000001,1000000+j))→b≠g'.ρ (1000001,1000000+j)→g'.path b=π→π ≠ []→g'.need b=n→lab b ((0,j)::π) n):TR P w' lab [(0,j)] (.sl e) x z:=by
 obtain ⟨row,hrow,hv⟩:=hv
 have hw:widOf P e=row.length:=by simp [widOf,hrow]
 letI:Low:=noLow
 have hpos:=rowOf_pos hrow
 have hxl:x.rows.length=(gd ds j).rows.length:=by
  rcases hv with ⟨h0,h1,_⟩ | ⟨cap,arr,E,_,_,_,_,_,_,_,h8,_⟩
  ·rw [h0,← hlen,h1]; rfl
  ·rw [h8,hlen]
 generalize hx0:gd ds j=x0 at *
 generalize hπ : [(0,j)]=π at *
 cases h with
 | nil _ _ _ A hr h0 =>
  have:x.rows = []:=List.eq_nil_of_length_eq_zero (by rw [hxl,h0]; rfl)
  have h0':x0.rows = []:=h0
  exact .nil _ _ _ _ hr this
 | sl _ _ _ b cap row' arr0 u0 hr h1 h2 h3 h4 h5 h6 h7 =>
  subst hπ
  rw [hrow] at hr; injection hr with hr; subst hr
  have hb:blkOf (some (Value.slice (some ⟨b,0,none⟩) x0.rows.length cap))=b:=rfl
  have hcp:capOfV (some (Value.slice (some ⟨b,0,none⟩) x0.rows.length cap))=cap:=rfl
  rw [hb] at hρ hroom
  rw [hcp,hw] at hroom
  rw [← hxl]
  by_cases hc0:cap=0
  ·subst hc0
   have:x.rows = []:=List.eq_nil_of_length_eq_zero (by omega)
   rw [this]
   exact .nil _ _ _ _ (by rw [hrow]; rfl) this
  ·obtain ⟨arr1,r1,r2⟩:=hroom (Nat.mul_pos (by omega) hpos)
   rcases hv with ⟨k0,k1,_⟩ | ⟨cap',arr',E',k1,k2,⟨k3,kE,k3'⟩,k4,k5,k6,k7,k8,k9,k10,k11⟩
   ·refine .sl _ e x b cap row arr1 (fun _ _=>undef) hrow (by rw [k0]; simp) h2 (by rw [hxl]; exact h3) r1 r2 (fun i j hi=>by rw [k0] at hi; simp at hi) (fun i j s hi=>by rw [k0] at hi; simp at hi)
   ·rw [hρ] at k6
    rw [r1] at k6
    injection k6 with k6
    injection k6 with k6 _
    subst k6
    refine .sl _ e x b cap row arr1 (fun i j=>arr1[i*row.length+j]?.getD undef) hrow (by rw [hxl]; exact h1) h2 (by rw [hxl]; exact h3) r1 r2 (fun i j' hi hj'=>?_) (fun i j' s hi hs'=>?_)
    ·obtain ⟨z1,q1,_⟩:=k11 i j' _ hi (List.getElem?_eq_getElem hj')
     rw [q1]; rfl
    ·obtain ⟨z1,q1,q2⟩:=k11 i j' s hi hs'
     simp only [q1]
     change TR P w' lab _ s _ z1
     have hd:deepT (1000001,1000000+j)=true:=by show Nat.ble 1000000 (1000000+j)=true; simp
     refine TR.mono (fun π=>(0,j)::π) (fun π y _=>rfl) (q2.tr hd) (fun b' π n o hne hl ho=>⟨ho,?_⟩) (by simp)
     obtain ⟨l0,l1,l2,l3,l4,l5⟩:=hl
     exact hlab b' π n l1 l2 l3 hne l4
theorem ces_mine {q:T} {ss:List S} {x:Sh1} (hq:(∃ s d,q=.c (.d s) d∧ss = [s])∨(∃ ds,q=⟨.one (.agg (ss.map .d)),ds⟩)) (hx:(mineT q).sh=.one x) {j:Nat} {s:S} (hs:ss[j]?=some s):x.ces[j]?=some (mineC j (.d s)):=by
 rcases hq with ⟨s0,d,rfl,rfl⟩ | ⟨ds,rfl⟩
 ·have hx:Sh.one (.c (mineC 0 (.d s0)))=.one x:=hx
  injection hx with hx
  subst hx
  cases j with
  | zero =>
   simp only [List.getElem?_cons_zero,Option.some.injEq] at hs
   subst hs
   rfl
  | succ j=>simp at hs
 ·have hx:Sh.one (.agg (mineCs 0 (ss.map .d)))=.one x:=hx
  injection hx with hx
  subst hx
  have hj:=(List.getElem?_eq_some_iff.1 hs).1
  obtain ⟨c,hc⟩:∃ c,(mineCs 0 (ss.map .d))[j]?=some c:=⟨_,List.getElem?_eq_getElem (by rw [mine_len]; simpa using hj)⟩
  obtain ⟨c0,h1,h2⟩:=mine_get hc
  rw [List.getElem?_map,hs] at h1
  injection h1 with h1
  subst h1
  rw [Nat.zero_add] at h2
  subst h2
  exact hc
theorem evFnM_sound {P:Program} {call:FuncId→List T→Option (T × Bool)} (hcall:CallOk P call) {N:Nat} {ks:List Nat} {f:FuncId} {fn:Func} {q:T} {kd:D} {key:Option Dom} {p:List D}
  (hen:∀ vs w,(callFunc f vs).run P w=.ok (.enter f vs) w) (hf:P.funcs[f]?=some fn) (h:WT P q→evFnM P call N ks fn [q,.c (.d (.int .i64)) kd]=some (key,some (1,p))):SoundFn P f [q,.c (.d (.int .i64)) kd] ⟨shM,p⟩:=by
 refine SoundFn.ofM rfl ⟨hen,fun q' kd' ss hargs w lab u us hform hTR hfun=>?_⟩
 simp only [List.cons.injEq,T.mk.injEq,and_true,true_and] at hargs
 obtain ⟨rfl,rfl⟩:=hargs
 have hq:(∃ s d,q=.c (.d s) d∧ss = [s])∨(∃ ds,q=⟨.one (.agg (ss.map .d)),ds⟩):=by
  rcases hform with ⟨s,d,h1,h2,_⟩ | ⟨ds,h1,_⟩
  ·exact .inl ⟨s,d,h1,h2⟩
  ·exact .inr ⟨ds,h1⟩
 replace h:=h (by
  rcases hq with ⟨s,d,rfl,rfl⟩ | ⟨ds,rfl⟩
  ·obtain ⟨z,_,hz⟩:=hTR.2 0 s rfl
   exact hz.wd
  ·haveI:Low:=noLow
   intro j c hj
   obtain ⟨s,hs,rfl⟩:=map_get hj
   obtain ⟨z,_,hz⟩:=hTR.2 j s hs
   exact hz.wd)
 let g:=mineG P w lab ss q.p us
 letI:Low:=⟨fun _=>0,fun b=>w.heap[b]?,g.old,fun t=>match ss[t.2 - 1000000]? with
  | some (.sl e)=>if t.1=1000001∧1000000≤t.2 then some (g.ρ t,g.len t,capOfV (us[t.2 - 1000000]?)*widOf P e,e) else none
  | _=>none,0,fun b t π n=>∀ j,t=(1000001,1000000+j)→lab b ((0,j)::π) n⟩
 unfold evFnM at h
 split at h
 ·rename_i c q9 k9 hb he
  simp only [List.cons.injEq,and_true] at he
  obtain ⟨rfl,rfl⟩:=he
  cases hc:(dstsOk fn.ntmps c&&Nat.ble 2 fn.ntmps&&Nat.ble fn.ntmps 1000000) with
  | false=>rw [hc] at h; cases h
  | true =>
   rw [hc,cond_true] at h
   simp only [Bool.and_eq_true] at hc
   obtain ⟨hc,hcn⟩:=hc
   have hnt:fn.ntmps≤1000000:=Nat.le_of_ble_eq_true hcn
   have hle:2≤fn.ntmps:=Nat.le_of_ble_eq_true hc.2
   refine calls_of_wp hf hb ?_
   have hn:(#[u,.int .i64 kd.int]++Array.replicate (fn.ntmps - (#[u,Value.int .i64 kd.int]).size) undef).size=fn.ntmps:=by
    simp; omega
   have hg0:((#[u,.int .i64 kd.int]++Array.replicate (fn.ntmps - (#[u,Value.int .i64 kd.int]).size) undef).getD 0 undef)=u:=by
    rw [Array.getD_eq_getD_getElem?,Array.getElem?_append_left (by simp)]; rfl
   have hg1:((#[u,.int .i64 kd.int]++Array.replicate (fn.ntmps - (#[u,Value.int .i64 kd.int]).size) undef).getD 1 undef)=.int .i64 kd.int:=by
    rw [Array.getD_eq_getD_getElem?,Array.getElem?_append_left (by simp)]; rfl
   have hmine:∀ b t,t.1=1000001→g.owner b=some (.inr t)→∀ j,t=(1000001,1000000+j)→lab b ((0,j)::g.path b) (g.need b):=fun b t _ ho j hj=>by
    obtain ⟨j',h1,h2⟩:=mineG_of ho
    rw [h1] at hj
    injection hj with _ hj
    have:j'=j:=by omega
    subst this
    exact h2
   have hrel:Rel P w g 0 (start [mineT q,.c (.d (.int .i64)) kd]) { tmps:= #[u,.int .i64 kd.int]++Array.replicate (fn.ntmps - (#[u,Value.int .i64 kd.int]).size) undef,defers:= [] }:=by
    refine ⟨fun i=>?_,fun id cs ds hl=>(by cases hl),fun b hb=>⟨rfl,?_⟩,Nat.zero_le _,⟨rfl,by show Array.size _≤_; rw [hn]; exact hnt⟩,⟨⟨rfl,rfl⟩,fun b hb=>⟨?_,rfl,rfl,hb.1⟩,fun t x hx=>?_⟩,hmine⟩
    ·show VT P w g 0 (look i (startAt 0 [mineT q,.c (.d (.int .i64)) kd])) _
     rw [look_start,if_pos (Nat.zero_le _),Nat.sub_zero]
     match i with
     | 0 =>
      simp only [List.getElem?_cons_zero,Option.getD_some]
      rw [hg0]
      rcases hform with ⟨s,d,rfl,rfl,rfl⟩ | ⟨ds,rfl,rfl⟩
      ·obtain ⟨z,hz,hT⟩:=hTR.2 0 s rfl
       have hz1:u=z:=by simpa using hz
       subst hz1
       exact mine_vc hfun rfl hz hT
      ·refine ⟨us,rfl,by rw [mine_len,List.length_map]; exact hTR.1,fun j c hj=>?_⟩
       obtain ⟨c0,h1,h2⟩:=mine_get hj
       obtain ⟨s,hs,rfl⟩:=map_get h1
       obtain ⟨z,hz,hT⟩:=hTR.2 j s hs
       refine ⟨z,hz,?_⟩
       rw [h2,Nat.zero_add]
       exact mine_vc hfun hs hz hT
     | 1 =>
      simp only [List.getElem?_cons_succ,List.getElem?_cons_zero,Option.getD_some]
      rw [hg1]
      exact VD.int .i64 kd
     | i+2=>trivial
    ·exact dif_neg (fun hc=>by have:=hc.1; omega)
    ·exact dif_neg (fun hc=>hb.2 hc.2)
    ·change (match ss[t.2 - 1000000]? with | some (.sl e)=>if t.1=1000001∧1000000≤t.2 then some (g.ρ t,g.len t,capOfV (us[t.2 - 1000000]?)*widOf P e,e) else none | _=>none)=some x at hx
     split at hx
     ·rename_i e hs
      split at hx
      ·rename_i ht
       injection hx with hx
       subst hx
       refine ⟨ht.1,rfl,rfl,fun h0=>?_⟩
       obtain ⟨z,hz,hT⟩:=hTR.2 _ _ hs
       have ht2:t=(1000001,1000000+(t.2 - 1000000)):=Prod.ext ht.1 (by show t.2=1000000+(t.2 - 1000000); omega)
       show g.owner (blkOf (us[t.2 - 1000000]?))=some (.inr t)∧∃ arr,w.heap[blkOf (us[t.2 - 1000000]?)]?=some (.cells arr e (0,0))∧arr.size=capOfV (us[t.2 - 1000000]?)*widOf P e
       have h0:0<capOfV (us[t.2 - 1000000]?)*widOf P e:=h0
       rw [hz] at h0 ⊢
       generalize hj:t.2 - 1000000=j at *
       generalize gd q.p j=y at *
       generalize hπ : [(0,j)]=π at *
       cases hT with
       | nil _ _ _ A hr hrow =>
        cases A <;> simp [capOfV] at h0
       | sl _ _ _ b cap row arr u0 hr h1 h2 h3 h4 h5 h6 h7 =>
        subst hπ
        have hw:widOf P e=row.length:=by simp [widOf,hr]
        refine ⟨?_,arr,h4,by rw [h5,hw]; rfl⟩
        rw [ht2]
        exact (mineG_lab (P:=P) (ss:=ss) (ds:=q.p) (us:=us) hfun (lt_of_heap h4) h3).1
      ·cases hx
     ·cases hx
   have hfin:∀ (a':Act) (w':World) (σ':St) (g':G) (key':Option Dom),retLeaf (finishM fn q σ')=some (key',some (1,p))→Rel P w' g' 0 σ' a'→Below 0 w w'→a'.defers = []∧∃ v,(results fn a'.tmps).run P w'=.ok v w'∧Ending.returned v=.returned (.int .i64 (gd p 0).int)∧ChangedL w w' lab∧TRs P w' lab ss p.tail us:=by
    intro a' w' σ' g' key' h1 h2 h3
    obtain ⟨p',k1,k2⟩:=retLeaf_ok h1
    injection k2 with _ k2
    subst k2
    unfold finishM at k1
    split at k1
    ·rename_i t hrt
     split at k1
     ·rename_i sh p0 hti h0
      cases hshq:(sh==(mineT q).sh) with
      | false=>rw [hshq] at k1; cases k1
      | true =>
       rw [hshq,cond_true] at k1
       have hshq:sh=(mineT q).sh:=by simpa using hshq
       cases sh with
       | tup xs=>cases k1
       | one x =>
        injection k1 with k1
        subst k1
        have hv:=h2.env t
        have hvt:a'.tmps.getD t undef=.int .i64 (gd (look2 t σ'.e σ'.r).p 0).int:=by
         generalize look2 t σ'.e σ'.r=y at *
         obtain ⟨ysh,yp⟩:=y
         simp only at hti
         subst hti
         have hv:VD P w' g'.prot (.int .i64) (gd yp 0) (a'.tmps.getD t undef):=hv
         show a'.tmps.getD t undef=.int .i64 (gd yp 0).int
         generalize gd yp 0=d at *
         generalize a'.tmps.getD t undef=vk at *
         cases hv
         rfl
        have hrun:(results fn a'.tmps).run P w'=.ok (.int .i64 (gd (look2 t σ'.e σ'.r).p 0).int) w':=by
         have e:results fn a'.tmps=(do let vs ← fn.results.mapM (resVar a'.tmps); pure (if h:vs.size=1 then vs[0] else .tuple vs)):=by
          unfold results
          congr 1
         rw [e,Array.mapM_eq_mapM_toList,hrt]
         simp only [List.mapM_cons,List.mapM_nil,resVar,Sem.run_bind,Sem.run_map,Sem.run_pure,Result.andThen_ok,hvt]
         rfl
        refine ⟨h2.defers.1,_,hrun,rfl,⟨h3.os,h3.tape,h3.output,h3.size,fun k hk hno=>?_⟩,hTR.1,fun j s hs=>?_⟩
        ·have hold:g'.old k:=by
          rw [h2.low.1.1]
          exact ⟨hk,fun ⟨y,hy⟩=>hno _ _ hy⟩
         exact (h2.low.2.1 k hold).2.2.1
        ·obtain ⟨z,hz,hT⟩:=hTR.2 j s hs
         refine ⟨z,hz,?_⟩
         have hcx:=ces_mine hq hshq.symm hs
         show TR P w' lab [(0,j)] s (gd (outM x.ces 0 q.p p0) j) z
         rw [outM_get x.ces 0 q.p p0 j _ hcx,Nat.zero_add]
         have he0:=h2.env 0
         rw [h0] at he0
         cases s with
         | sl e =>
          show TR P w' lab [(0,j)] (.sl e) (gd p0 j) z
          have hpin:=h2.low.2.2 (1000001,1000000+j) (g.ρ (1000001,1000000+j),g.len (1000001,1000000+j),capOfV (us[j]?)*widOf P e,e) (by
           show (match ss[(1000000+j) - 1000000]? with | some (.sl e)=>if (1000001:Nat)=1000001∧1000000≤1000000+j then some (g.ρ (1000001,1000000+j),g.len (1000001,1000000+j),capOfV (us[(1000000+j) - 1000000]?)*widOf P e,e) else none | _=>none)=_
           rw [show (1000000+j) - 1000000=j from by omega,hs]
           exact if_pos ⟨rfl,by omega⟩)
          obtain ⟨_,m2,m3,m4⟩:=hpin
          have ej:(1000000+j) - 1000000=j:=by omega
          have hgl:g.len (1000001,1000000+j)=(gd q.p j).rows.length:=by show (gd q.p ((1000000+j) - 1000000)).rows.length=_; rw [ej]
          have hgr:g.ρ (1000001,1000000+j)=blkOf (some z):=by show blkOf (us[(1000000+j) - 1000000]?)=_; rw [ej,hz]
          obtain ⟨uj,huj⟩:∃ uj,VC P w' g' 0 (.own (1000001,1000000+j) true e) (gd p0 j) uj:=by
           have hcx:x.ces[j]?=some (.own (1000001,1000000+j) true e):=hcx
           cases x with
           | c c0 =>
            cases j with
            | zero =>
             simp only [Sh1.ces,List.getElem?_cons_zero,Option.some.injEq] at hcx
             subst hcx
             exact ⟨_,he0⟩
            | succ j=>simp [Sh1.ces] at hcx
           | agg cs0 =>
            obtain ⟨arr,_,hh⟩:=he0
            obtain ⟨uj,_,huj⟩:=hh.2 j _ hcx
            exact ⟨uj,huj⟩
          refine mine_back hfun hs hz hT (m3.trans hgl) (m2.trans hgr) (fun h0=>?_) huj (fun b π n l1 l2 l3 l4 l5=>?_)
          ·obtain ⟨_,arr,q1,q2⟩:=m4 (by show 0<capOfV (us[j]?)*widOf P e; rw [hz]; exact h0)
           have q1:w'.heap[g.ρ (1000001,1000000+j)]?=some (.cells arr e (0,0)):=q1
           rw [hgr] at q1
           exact ⟨arr,q1,by rw [q2]; show capOfV (us[j]?)*_=_; rw [hz]⟩
          ·have:=h2.mine b (1000001,1000000+j) rfl l1 j rfl
           rw [l3,l5] at this
           exact this
         | int k =>
          show TR P w' lab [(0,j)] (.int k) (gd q.p j) z
          generalize gd q.p j=y at *
          cases hT; exact .int _ _ _
         | bool =>
          show TR P w' lab [(0,j)] .bool (gd q.p j) z
          generalize gd q.p j=y at *
          cases hT; exact .bool _ _
         | str =>
          show TR P w' lab [(0,j)] .str (gd q.p j) z
          generalize gd q.p j=y at *
          cases hT; exact .str _ _
     ·cases k1
    ·cases k1
   exact evCode_ok hcall c (start [mineT q,.c (.d (.int .i64)) kd]) _ _ _ key (1,p) w g _ _ hc.1 h hrel hn (Below.refl _ _)
    ⟨fun σ' w' g' a' key' h1 h2 h3 h4=>hfin a' w' σ' g' key' h1 h2 h4,fun j σ' w' g' a' key' h1=>(by cases h1),fun σ' w' g' a' key' h1 h2 h3 h4=>hfin a' w' σ' g' key' h1 h2 h4⟩
 ·cases h
end Go.Proofs.YtpdfmcmnjikppaaGreat
namespace Go.Proofs.YtpdfmcmnjikppaaGreat
def scan (ex:Nat→Option (Nat × List D)):Nat→Nat→Option (Nat × List D)
 | _,0=>none
 | k,m+1=>match ex k with
  | some o=>some o
  | none=>scan ex (k+1) m
theorem iter_scan {step:List D→Out} (st:Nat→List D) (ex:Nat→Option (Nat × List D)) (fin:Nat × List D) {n:Nat}
  (h1:∀ k,k<n→step (st k)=some ((ex k).getD (0,st (k+1)))) (hex:∀ k o,ex k=some o→o.1≠0) (h2:step (st n)=some fin) (hf:fin.1≠0) :
  ∀ (m k N:Nat),k+m=n→m<N→iter step N (st k)=some ((scan ex k m).getD fin):=by
 intro m
 induction m with
 | zero =>
  intro k N hk hN
  obtain ⟨N,rfl⟩:∃ N',N=N'+1:=⟨N - 1,by omega⟩
  obtain rfl:k=n:=by omega
  obtain ⟨c,pay⟩:=fin
  rw [iter,h2]
  cases c with
  | zero=>exact absurd rfl hf
  | succ c=>rfl
 | succ m ih =>
  intro k N hk hN
  obtain ⟨N,rfl⟩:∃ N',N=N'+1:=⟨N - 1,by omega⟩
  rw [iter,h1 k (by omega),scan]
  cases he:ex k with
  | none=>simp only [Option.getD_none]; exact ih (k+1) N (by omega) (by omega)
  | some o =>
   obtain ⟨c,pay⟩:=o
   have:=hex k _ he
   cases c with
   | zero=>exact absurd rfl this
   | succ c=>rfl
theorem enters {P:Program} {f:FuncId} {fn:Func} (hf:P.funcs[f]?=some fn) (hname:(fn.name == "runtime.NumGoroutine")=false:=by kernel_rfl) (hb:fn.body.isNone=false:=by kernel_rfl) (vs:Array Value) (w:World):(callFunc f vs).run P w=.ok (.enter f vs) w:=by
 unfold callFunc
 simp only [Sem.run_bind,run_program,Result.andThen_ok,hf,hname,hb,Bool.false_eq_true,if_false,Sem.run_pure]
theorem fC {α:Type} {p:α→Prop} {a:α} {l:List α} (h:p a∧∀ x∈l,p x):∀ x∈a::l,p x:=List.forall_mem_cons.2 h
theorem fN {α:Type} {p:α→Prop}:∀ x∈([]:List α),p x:=List.forall_mem_nil p
abbrev Ent:=FuncId × (List T→Option (T × Bool))
def find:List Ent→FuncId→List T→Option (T × Bool)
 | [],_,_=>none
 | e::r,f,args=>bif Nat.beq e.1 f then e.2 args else find r f args
def EntOk (P:Program) (e:Ent):Prop:=∀ args r,e.2 args=some (r,true)→SoundFn P e.1 args r
theorem find_ok {P:Program}:∀ {l:List Ent},(∀ e∈l,EntOk P e)→CallOk P (find l)
 | [],_,f,args,r,h=>by cases h
 | e::l,hl,f,args,r,h=>by
  unfold find at h
  cases hb:Nat.beq e.1 f with
  | false =>
   rw [hb,cond_false] at h
   exact find_ok (fun e' he'=>hl e' (by simp [he'])) f args r h
  | true =>
   rw [hb,cond_true] at h
   obtain rfl:=Nat.eq_of_beq_eq_true hb
   exact hl e (by simp) args r h
def e1 (s:Sh) (F:List D→T × Bool):List T→Option (T × Bool)
 | [v]=>bif v.sh==s then some (F v.p) else none
 | _=>none
def e2 (s s':Sh) (F:List D→List D→T × Bool):List T→Option (T × Bool)
 | [v,u]=>bif v.sh==s&&u.sh==s' then some (F v.p u.p) else none
 | _=>none
theorem e1_ok {P:Program} {f:FuncId} {s:Sh} {F:List D→T × Bool} (h:∀ p,(F p).2=true→SoundFn P f [⟨s,p⟩] (F p).1):EntOk P (f,e1 s F):=by
 intro args r hr
 match args,hr with
 | [],hr=>cases hr
 | [⟨sh,p⟩],hr =>
  have hq:(bif sh==s then some (F p) else none)=some (r,true):=hr
  cases hb:(sh==s) with
  | false=>rw [hb] at hq; cases hq
  | true =>
   rw [hb] at hq
   simp only [cond_true,Option.some.injEq] at hq
   have e:sh=s:=by simpa using hb
   subst e
   have:=h p
   rw [hq] at this
   exact this rfl
 | _::_::_,hr=>cases hr
theorem e2_ok {P:Program} {f:FuncId} {s s':Sh} {F:List D→List D→T × Bool} (h:∀ p q,(F p q).2=true→SoundFn P f [⟨s,p⟩,⟨s',q⟩] (F p q).1):EntOk P (f,e2 s s' F):=by
 intro args r hr
 match args,hr with
 | [],hr=>cases hr
 | [_],hr=>cases hr
 | [⟨sh,p⟩,⟨sh',q⟩],hr =>
  have hq:(bif sh==s&&sh'==s' then some (F p q) else none)=some (r,true):=hr
  cases hb:(sh==s&&sh'==s') with
  | false=>rw [hb] at hq; cases hq
  | true =>
   rw [hb] at hq
   simp only [cond_true,Option.some.injEq] at hq
   simp only [Bool.and_eq_true,beq_iff_eq] at hb
   obtain ⟨rfl,rfl⟩:=hb
   have:=h p q
   rw [hq] at this
   exact this rfl
 | _::_::_::_,hr=>cases hr
end Go.Proofs.YtpdfmcmnjikppaaGreat
namespace Go.Proofs.YtpdfmcmnjikppaaGreat
abbrev bo:Option Dom:=none
abbrev sd (s:S):Sh:=.one (.c (.d s))
abbrev si:S:=.int .i64
abbrev rb:Sh:=sd .bool
abbrev ri:Sh:=sd si
abbrev ag (l:List S):Sh:=.one (.agg (l.map .d))
abbrev ob (x:Bool):Out:=some (1,[.b x])
abbrev oi (x:Int):Out:=some (1,[.i x])
abbrev ex (j:Nat) (p:List D):Out:=some (j+2,p)
abbrev nx (p:List D):Out:=some (0,p)
def nd (c:Bool) (o:Out):Out:=bif c then o else none
abbrev w64 (x:Int):Int:=IntKind.i64.wrap x
theorem w64_id {x:Int} (h : -9223372036854775808≤x) (h':x≤9223372036854775807):w64 x=x:=by
 simp only [w64,IntKind.wrap,IntKind.signed,IntKind.bits]
 simp
 omega
theorem inRange_nat {k len:Nat} (h:k<len):inRange (k:Int) len=true:=by
 simp only [inRange,Bool.and_eq_true,decide_eq_true_eq]; omega
theorem fill_loop {L:List D→Out} {z x2:D} {f:List D→List D} {ok:List D→Bool} (z0:List D) (hlen:z.rows.length≤9223372036854775807) (hok:∀ r∈z.rows,ok r=true)
  (hrd:∀ (rows:List (List D)) (k:Int),L [z,x2,.l rows,.i k]=bif decide (k<z.rows.length) then nd (inRange k z.rows.length) (nd (ok (z.rows.getD k.toNat [])) (nd (inRange k rows.length) (nx [z,x2,.l (rows.set k.toNat (f (z.rows.getD k.toNat []))),.i (w64 (k+1))]))) else ex 0 [z,x2,.l rows,.i k])
  {N:Nat} (hN:z.rows.length<N):iter L N [z,x2,.l (List.replicate z.rows.length z0),.i 0]=some (2,[z,x2,.l (z.rows.map f),.i z.rows.length]):=by
 let st:Nat→List D:=fun k => [z,x2,.l ((z.rows.take k).map f++List.replicate (z.rows.length - k) z0),.i (k:Int)]
 have hset:∀ k,(h:k<z.rows.length)→((z.rows.take k).map f++List.replicate (z.rows.length - k) z0).set k (f (z.rows.getD k []))=(z.rows.take (k+1)).map f++List.replicate (z.rows.length - (k+1)) z0:=fun k h=>by
  have hl:((z.rows.take k).map f).length=k:=by simp; omega
  rw [List.set_append_right _ _ (by omega),hl,Nat.sub_self]
  obtain ⟨m,hm⟩:∃ m,z.rows.length - k=m+1:=⟨z.rows.length - k - 1,by omega⟩
  rw [hm,show z.rows.length - (k+1)=m from by omega,List.replicate_succ,List.set_cons_zero,List.take_succ_eq_append_getElem h,List.map_append,List.append_assoc]
  simp only [List.getD_eq_getElem?_getD,List.getElem?_eq_getElem h,Option.getD_some,List.map_cons,List.map_nil,List.singleton_append]
 have:=iter_scan (step:=L) st (fun _=>none) (2,st z.rows.length) (n:=z.rows.length) (fun k hk=>?_) (fun _ _ h=>by cases h) ?_ (by simp) z.rows.length 0 N (by omega) hN
 ·have e0:st 0 = [z,x2,.l (List.replicate z.rows.length z0),.i 0]:=by simp [st]
  rw [e0] at this
  rw [this]
  have:∀ m k,scan (fun _=>none) k m=none:=by
   intro m
   induction m with
   | zero=>intro k; rfl
   | succ m ih=>intro k; exact ih _
  rw [this]
  simp only [st,Option.getD_none,Nat.sub_self,List.replicate_zero,List.append_nil,List.take_length]
 ·have hlen2:((z.rows.take k).map f++List.replicate (z.rows.length - k) z0).length=z.rows.length:=by simp; omega
  have hmem:z.rows.getD k []∈z.rows:=by
   rw [List.getD_eq_getElem?_getD,List.getElem?_eq_getElem hk]
   exact List.getElem_mem hk
  show L [z,x2,.l ((z.rows.take k).map f++List.replicate (z.rows.length - k) z0),.i (k:Int)]=_
  rw [hrd]
  rw [show decide ((k:Int)<z.rows.length)=true from by simpa using hk,cond_true,inRange_nat hk,hlen2,inRange_nat hk,show ((k:Int)).toNat=k from rfl,hok _ hmem,w64_id (by omega) (by omega),hset k hk]
  rfl
 ·show L [z,x2,.l _,.i (z.rows.length:Int)]=_
  rw [hrd,show decide ((z.rows.length:Int)<z.rows.length)=false from by simp,cond_false]
def alikeS (E:List D→List D→Bool) (z u:D):Bool:=(z.rows.length==u.rows.length)&&(List.range z.rows.length).all fun k=>E (z.rows.getD k []) (u.rows.getD k [])
theorem alikeS_refl {E:List D→List D→Bool} (h:∀ r,E r r=true) (z:D):alikeS E z z=true:=by
 simp [alikeS,h]
theorem scan_find {ex:Nat→Option (Nat × List D)} {o:Nat × List D} {C:Nat→Bool} (h:∀ k,ex k=if C k then none else some o):∀ (m k:Nat),scan ex k m=if (List.range m).all (fun j=>C (k+j)) then none else some o
 | 0,k=>by simp [scan]
 | m+1,k=>by
  rw [scan,h]
  by_cases hc:C k=true
  ·rw [if_pos hc]
   simp only
   rw [scan_find h m (k+1),List.range_succ_eq_map,List.all_cons,List.all_map]
   simp only [Nat.add_zero,hc,Bool.true_and]
   congr 2
   congr 1
   funext j
   simp only [Function.comp]
   congr 1
   omega
  ·rw [if_neg hc]
   simp [List.range_succ_eq_map,hc]
theorem like_loop {L:List D→Out} {z u x y:D} {E:List D→List D→Bool} (hlen:z.rows.length≤9223372036854775807) (hu:z.rows.length=u.rows.length)
  (hrd:∀ k:Int,L [z,u,x,y,.i k]=bif decide (k<z.rows.length) then nd (inRange k z.rows.length) (nd (inRange k u.rows.length) (bif !E (z.rows.getD k.toNat []) (u.rows.getD k.toNat []) then ob false else nx [z,u,x,y,.i (w64 (k+1))])) else ex 0 [z,u,x,y,.i k])
  {N:Nat} (hN:z.rows.length<N):iter L N [z,u,x,y,.i 0]=some (if alikeS E z u then (2,[z,u,x,y,.i z.rows.length]) else (1,[.b false])):=by
 have:=iter_scan (step:=L) (fun k => [z,u,x,y,.i (k:Int)]) (fun k=>if E (z.rows.getD k []) (u.rows.getD k []) then none else some (1,[.b false])) (2,[z,u,x,y,.i z.rows.length]) (n:=z.rows.length) (fun k hk=>?_) (fun k o h=>?_) ?_ (by simp) z.rows.length 0 N (by omega) hN
 ·simp only [Int.natCast_zero] at this
  rw [this,scan_find (o:=(1,[.b false])) (C:=fun k=>E (z.rows.getD k []) (u.rows.getD k [])) (fun k=>rfl)]
  simp only [Nat.zero_add,alikeS,← hu,beq_self_eq_true,Bool.true_and]
  split <;> rfl
 ·show L [z,u,x,y,.i (k:Int)]=_
  rw [hrd,show decide ((k:Int)<z.rows.length)=true from by simpa using hk,cond_true,inRange_nat hk,inRange_nat (by omega),show ((k:Int)).toNat=k from rfl,w64_id (by omega) (by omega)]
  cases E (z.rows.getD k []) (u.rows.getD k []) <;> rfl
 ·split at h
  ·cases h
  ·injection h with h; rw [← h]; simp
 ·show L [z,u,x,y,.i (z.rows.length:Int)]=_
  rw [hrd,show decide ((z.rows.length:Int)<z.rows.length)=false from by simp,cond_false]
def left (s:Nat) (n:Int):Int:=if (s:Int)≤n then n - s else -1
def fair (n:Int):Bool:=decide (0≤n)&&decide (n≤1048576)
def total (size:List D→Nat) (rows:List (List D)):Nat:=(rows.map size).sum
theorem size_loop {L:List D→Out} {z x y:D} {size:List D→Nat} (hlen:z.rows.length≤9223372036854775807)
  (hrd:∀ n k:Int,L [z,.i n,x,y,.i k]=bif decide (k<z.rows.length) then nd (inRange k z.rows.length) (nd (fair n) (bif decide (left (size (z.rows.getD k.toNat [])) n<0) then oi (-1) else nx [z,.i (left (size (z.rows.getD k.toNat [])) n),x,y,.i (w64 (k+1))])) else ex 0 [z,.i n,x,y,.i k]) :
  ∀ (m k N:Nat) (n:Int),k+m=z.rows.length→m<N→0≤n→n≤1048576→iter L N [z,.i n,x,y,.i k]=some (if (total size (z.rows.drop k):Int)≤n then (2,[z,.i (n - total size (z.rows.drop k)),x,y,.i z.rows.length]) else (1,[.i (-1)])):=by
 intro m
 induction m with
 | zero =>
  intro k N n hk hN h0 h1
  obtain ⟨N,rfl⟩:∃ N',N=N'+1:=⟨N - 1,by omega⟩
  have hk:k=z.rows.length:=by omega
  subst hk
  rw [iter,hrd,show decide ((z.rows.length:Int)<z.rows.length)=false from by simp,cond_false]
  simp [total,h0]
 | succ m ih =>
  intro k N n hk hN h0 h1
  obtain ⟨N,rfl⟩:∃ N',N=N'+1:=⟨N - 1,by omega⟩
  have hlt:k<z.rows.length:=by omega
  have hd:z.rows.drop k=z.rows.getD k []::z.rows.drop (k+1):=by
   rw [List.drop_eq_getElem_cons hlt,List.getD_eq_getElem?_getD,List.getElem?_eq_getElem hlt]; rfl
  have ht:total size (z.rows.drop k)=size (z.rows.getD k [])+total size (z.rows.drop (k+1)):=by rw [hd]; simp [total]
  rw [iter,hrd,show decide ((k:Int)<z.rows.length)=true from by simpa using hlt,cond_true,inRange_nat hlt,show fair n=true from by simp [fair,h0,h1],show ((k:Int)).toNat=k from rfl,w64_id (by omega) (by omega)]
  by_cases hs:(size (z.rows.getD k []):Int)≤n
  ·have hl:left (size (z.rows.getD k [])) n=n - size (z.rows.getD k []):=if_pos hs
   rw [hl,show decide (n - (size (z.rows.getD k []):Int)<0)=false from decide_eq_false (by omega),cond_false]
   have:=ih (k+1) N (n - size (z.rows.getD k [])) (by omega) (by omega) (by omega) (by omega)
   simp only [nd,cond_true]
   rw [show ((k:Int)+1)=((k+1:Nat):Int) from by simp,this,ht]
   congr 1
   by_cases hq:((size (z.rows.getD k [])+total size (z.rows.drop (k+1)):Nat):Int)≤n
   ·rw [if_pos hq,if_pos (by push_cast at hq; omega),show n - (size (z.rows.getD k []):Int) - (total size (z.rows.drop (k+1)):Int)=n - ((size (z.rows.getD k [])+total size (z.rows.drop (k+1)):Nat):Int) from by push_cast; omega]
   ·rw [if_neg hq,if_neg (by push_cast at hq; omega)]
  ·have hl:left (size (z.rows.getD k [])) n = -1:=if_neg hs
   rw [hl,ht,if_neg (by push_cast; omega)]
   rfl
theorem all_loop {L:List D→Out} (st:Nat→List D) (n:Nat) (C:Nat→Bool) (v fin:List D) (j:Nat) (h1:∀ k,k<n→L (st k)=some (bif C k then (0,st (k+1)) else (1,v))) (h2:L (st n)=some (j+2,fin)) {N:Nat} (hN:n<N) :
  iter L N (st 0)=some (bif (List.range n).all C then (j+2,fin) else (1,v)):=by
 have:=iter_scan (step:=L) st (fun k=>if C k then none else some (1,v)) (j+2,fin) (n:=n) (fun k hk=>?_) (fun k o h=>?_) h2 (by simp) n 0 N (by omega) hN
 ·rw [this,scan_find (o:=(1,v)) (C:=C) (fun k=>rfl)]
  simp only [Nat.zero_add]
  have e:(fun j=>C j)=C:=rfl
  rw [e]
  cases (List.range n).all C <;> rfl
 ·rw [h1 k hk]
  cases C k <;> rfl
 ·split at h
  ·cases h
  ·injection h with h; rw [← h]; simp
def e3 (s s' s'':Sh) (F:List D→List D→List D→T × Bool):List T→Option (T × Bool)
 | [v,u,t]=>bif v.sh==s&&(u.sh==s'&&t.sh==s'') then some (F v.p u.p t.p) else none
 | _=>none
theorem e3_ok {P:Program} {f:FuncId} {s s' s'':Sh} {F:List D→List D→List D→T × Bool} (h:∀ p q r,(F p q r).2=true→SoundFn P f [⟨s,p⟩,⟨s',q⟩,⟨s'',r⟩] (F p q r).1):EntOk P (f,e3 s s' s'' F):=by
 intro args r hr
 match args,hr with
 | [],hr=>cases hr
 | [_],hr=>cases hr
 | [_,_],hr=>cases hr
 | [⟨sh,p⟩,⟨sh',q⟩,⟨sh'',o⟩],hr =>
  have hq:(bif sh==s&&(sh'==s'&&sh''==s'') then some (F p q o) else none)=some (r,true):=hr
  cases hb:(sh==s&&(sh'==s'&&sh''==s'')) with
  | false=>rw [hb] at hq; cases hq
  | true =>
   rw [hb] at hq
   simp only [cond_true,Option.some.injEq] at hq
   simp only [Bool.and_eq_true,beq_iff_eq] at hb
   obtain ⟨rfl,rfl,rfl⟩:=hb
   have:=h p q o
   rw [hq] at this
   exact this rfl
 | _::_::_::_::_,hr=>cases hr
end Go.Proofs.YtpdfmcmnjikppaaGreat
namespace Go.Proofs.YtpdfmcmnjikppaaGreat
set_option maxRecDepth 4096
theorem ne_step (c x:Bool):(bif !c then ob false else ob x)=ob (c&&x):=by cases c <;> rfl
theorem wt_sl {P:Program} {e:TypeId} {p:List D} (h:WT P ⟨sd (.sl e),p⟩):(gd p 0).rows.length≤9223372036854775807:=by
 have h:WD P (.sl e) (gd p 0):=h
 cases h with
 | sl _ _ row _ h _=>exact h
theorem left_left (a b:Nat) (n:Int):(if left a n<0 then -1 else left b (left a n))=left (a+b) n:=by
 unfold left
 repeat' split
 all_goals first | rfl | omega | (push_cast at *; omega)
theorem left_sub (a:Nat) (n:Int):(if n - (a:Int)<0 then -1 else n - (a:Int))=left a n:=by
 unfold left
 repeat' split
 all_goals first | rfl | omega
theorem fair_left {a:Nat} {n:Int} (h:fair n=true) (h':¬ left a n<0):fair (left a n)=true:=by
 simp only [fair,Bool.and_eq_true,decide_eq_true_eq,left] at *
 split at h' <;> simp_all <;> omega
theorem oi_if (c:Prop) [Decidable c] (x y:Int):(bif decide c then oi x else oi y)=oi (if c then x else y):=by
 by_cases h:c <;> simp [h]
def cpInt (r:List D):List D:= [gd r 0]
def okInt (_:List D):Bool:=true
def eqInt (p q:List D):Bool:=(gd p 0).int==(gd q 0).int
def cpIntS (z:D):D:=.l (z.rows.map fun r=>cpInt r)
def okIntS (z:D):Bool:=decide (z.rows.length≤4294967296)&&z.rows.all fun r=>okInt r
def eqIntS:D→D→Bool:=alikeS (fun r s=>eqInt r s)
noncomputable def eqIntSL (N:Nat) (p q:List D):List D→Out:=loopOf Tryz.prog (find []) N [0,1,4,5,10,14,25] Tryz.f82 rb [⟨sd (.sl 3),p⟩,⟨sd (.sl 3),q⟩] 0
theorem eqIntS_rd (p q:List D) (N:Nat) (z u x y:D) (k:Int):eqIntSL N p q [z,u,x,y,.i k]=bif decide (k<z.rows.length) then nd (inRange k z.rows.length) (nd (inRange k u.rows.length) (bif !(eqInt (z.rows.getD k.toNat []) (u.rows.getD k.toNat [])) then ob false else nx [z,u,x,y,.i (w64 (k+1))])) else ex 0 [z,u,x,y,.i k]:=by kernel_rfl
theorem eqIntS_ev (p q:List D) (N:Nat):evFn Tryz.prog (find []) N [0,1,4,5,10,14,25] Tryz.f82 rb [⟨sd (.sl 3),p⟩,⟨sd (.sl 3),q⟩]=some (bo,bif !(((gd p 0).rows.length:Int)==(gd q 0).rows.length) then ob false else
  (let o:=iter (eqIntSL N p q) N [gd p 0,gd q 0,D0,.b (!(((gd p 0).rows.length:Int)==(gd q 0).rows.length)),.i 0]
   nd o.isSome (bif o.code==1 then some (1,o.pay) else nd (o.code==2) (ob true)))):=by kernel_rfl
def eqIntSE:Ent:=(82,e2 (sd (.sl 3)) (sd (.sl 3)) fun p q=>(⟨rb,[.b (eqIntS (gd p 0) (gd q 0))]⟩,true))
theorem eqIntS_ok:EntOk Tryz.prog eqIntSE:=e2_ok fun p q _=>evFn_sound (N:=(gd p 0).rows.length+1) (ks:= [0,1,4,5,10,14,25]) (key:=bo) (find_ok (fN)) (enters Tryz.func82) Tryz.func82 fun hw=>by
 rw [eqIntS_ev]
 by_cases hl:(gd p 0).rows.length=(gd q 0).rows.length
 ·rw [like_loop (E:=(fun r s=>eqInt r s)) (wt_sl (hw ⟨sd (.sl 3),p⟩ (by simp))) hl (eqIntS_rd p q _ _ _ _ _) (by omega)]
  rw [show ((((gd p 0).rows.length:Int))==(gd q 0).rows.length)=true from beq_iff_eq.2 (by omega)]
  show some (bo,_)=some (bo,some (1,[D.b (alikeS (fun r s=>eqInt r s) (gd p 0) (gd q 0))]))
  cases alikeS (fun r s=>eqInt r s) (gd p 0) (gd q 0) <;> rfl
 ·rw [show ((((gd p 0).rows.length:Int))==(gd q 0).rows.length)=false from beq_eq_false_iff_ne.2 (by omega)]
  show some (bo,_)=some (bo,some (1,[D.b (alikeS (fun r s=>eqInt r s) (gd p 0) (gd q 0))]))
  rw [show alikeS (fun r s=>eqInt r s) (gd p 0) (gd q 0)=false from by simp [alikeS,hl]]
  rfl
theorem eqIntS_refl (z:D):eqIntS z z=true:=alikeS_refl (fun r=>by simp [eqInt]) z
def sizeIntS (z:D):Nat:=z.rows.length
theorem szIntS_ev (p q:List D) (N:Nat):evFn Tryz.prog (find []) N [0,1,4,10] Tryz.f58 ri [⟨sd (.sl 3),p⟩,⟨ri,q⟩]=some (bo,bif decide (w64 ((gd q 0).int - (gd p 0).rows.length)<0) then oi (-1) else oi (w64 ((gd q 0).int - (gd p 0).rows.length))):=by kernel_rfl
def szIntSE:Ent:=(58,e2 (sd (.sl 3)) ri fun p q=>(⟨ri,[.i (left (sizeIntS (gd p 0)) (gd q 0).int)]⟩,fair (gd q 0).int))
theorem szIntS_ok:EntOk Tryz.prog szIntSE:=e2_ok fun p q h=>evFn_sound (N:=(gd p 0).rows.length+1) (ks:= [0,1,4,10]) (key:=bo) (find_ok (fN)) (enters Tryz.func58) Tryz.func58 fun hw=>by
 have h:fair (gd q 0).int=true:=h
 have hl:=wt_sl (hw ⟨sd (.sl 3),p⟩ (by simp))
 have h2:0≤(gd q 0).int∧(gd q 0).int≤1048576:=by simpa [fair] using h
 rw [szIntS_ev,w64_id (by omega) (by omega)]
 rw [oi_if,left_sub]
 rfl
def rLCell:List S:= [si,si]
def rICell:List S:= [si,si]
def cpCell (p:List D):List D:= [gd p 0,gd p 1]
def okCell (p:List D):Bool:=true
theorem toCell_ev (p:List D) (N:Nat):evFn Tryz.prog (find []) N [0,1,2,3] Tryz.f126 (ag rICell) [⟨ag rLCell,p⟩]=some (bo,some (1,cpCell p)):=by kernel_rfl
def toCellE:Ent:=(126,e1 (ag rLCell) fun p=>(⟨ag rICell,cpCell p⟩,okCell p))
theorem toCell_ok:EntOk Tryz.prog toCellE:=e1_ok fun p h=>evFn_sound (N:=0) (ks:= [0,1,2,3]) (key:=bo) (find_ok (fN)) (enters Tryz.func126) Tryz.func126 fun _=>by
 have h:okCell p=true:=h
 simp only [okCell,Bool.and_eq_true] at h
 rw [toCell_ev]
def eqCell (p q:List D):Bool:=((gd p 0).int==(gd q 0).int)&&(((gd p 1).int==(gd q 1).int)&&(true))
theorem eqCell_ev (p q:List D) (N:Nat):evFn Tryz.prog (find []) N [0,1,2,3,4,9,14] Tryz.f83 rb [⟨ag rICell,p⟩,⟨ag rICell,q⟩]=some (bo,bif !((gd p 0).int==(gd q 0).int) then ob false else bif !((gd p 1).int==(gd q 1).int) then ob false else ob true):=by kernel_rfl
def eqCellE:Ent:=(83,e2 (ag rICell) (ag rICell) fun p q=>(⟨rb,[.b (eqCell p q)]⟩,true))
theorem eqCell_ok:EntOk Tryz.prog eqCellE:=e2_ok fun p q _=>evFn_sound (N:=0) (ks:= [0,1,2,3,4,9,14]) (key:=bo) (find_ok (fN)) (enters Tryz.func83) Tryz.func83 fun _=>by
 rw [eqCell_ev]
 simp only [ne_step]
 rfl
theorem eqCell_refl (p:List D):eqCell p p=true:=by
 simp [eqCell]
def cpCellS (z:D):D:=.l (z.rows.map fun r=>cpCell (sub r 0 2))
def okCellS (z:D):Bool:=decide (z.rows.length≤4294967296)&&z.rows.all fun r=>okCell (sub r 0 2)
def eqCellS:D→D→Bool:=alikeS (fun r s=>eqCell (sub r 0 2) (sub s 0 2))
noncomputable def eqCellSL (N:Nat) (p q:List D):List D→Out:=loopOf Tryz.prog (find [eqCellE]) N [0,1,4,5,10,14,26] Tryz.f15 rb [⟨sd (.sl 108),p⟩,⟨sd (.sl 108),q⟩] 0
theorem eqCellS_rd (p q:List D) (N:Nat) (z u x y:D) (k:Int):eqCellSL N p q [z,u,x,y,.i k]=bif decide (k<z.rows.length) then nd (inRange k z.rows.length) (nd (inRange k u.rows.length) (bif !(eqCell (sub (z.rows.getD k.toNat []) 0 2) (sub (u.rows.getD k.toNat []) 0 2)) then ob false else nx [z,u,x,y,.i (w64 (k+1))])) else ex 0 [z,u,x,y,.i k]:=by kernel_rfl
theorem eqCellS_ev (p q:List D) (N:Nat):evFn Tryz.prog (find [eqCellE]) N [0,1,4,5,10,14,26] Tryz.f15 rb [⟨sd (.sl 108),p⟩,⟨sd (.sl 108),q⟩]=some (bo,bif !(((gd p 0).rows.length:Int)==(gd q 0).rows.length) then ob false else
  (let o:=iter (eqCellSL N p q) N [gd p 0,gd q 0,D0,.b (!(((gd p 0).rows.length:Int)==(gd q 0).rows.length)),.i 0]
   nd o.isSome (bif o.code==1 then some (1,o.pay) else nd (o.code==2) (ob true)))):=by kernel_rfl
def eqCellSE:Ent:=(15,e2 (sd (.sl 108)) (sd (.sl 108)) fun p q=>(⟨rb,[.b (eqCellS (gd p 0) (gd q 0))]⟩,true))
theorem eqCellS_ok:EntOk Tryz.prog eqCellSE:=e2_ok fun p q _=>evFn_sound (N:=(gd p 0).rows.length+1) (ks:= [0,1,4,5,10,14,26]) (key:=bo) (find_ok (fC ⟨eqCell_ok,fN⟩)) (enters Tryz.func15) Tryz.func15 fun hw=>by
 rw [eqCellS_ev]
 by_cases hl:(gd p 0).rows.length=(gd q 0).rows.length
 ·rw [like_loop (E:=(fun r s=>eqCell (sub r 0 2) (sub s 0 2))) (wt_sl (hw ⟨sd (.sl 108),p⟩ (by simp))) hl (eqCellS_rd p q _ _ _ _ _) (by omega)]
  rw [show ((((gd p 0).rows.length:Int))==(gd q 0).rows.length)=true from beq_iff_eq.2 (by omega)]
  show some (bo,_)=some (bo,some (1,[D.b (alikeS (fun r s=>eqCell (sub r 0 2) (sub s 0 2)) (gd p 0) (gd q 0))]))
  cases alikeS (fun r s=>eqCell (sub r 0 2) (sub s 0 2)) (gd p 0) (gd q 0) <;> rfl
 ·rw [show ((((gd p 0).rows.length:Int))==(gd q 0).rows.length)=false from beq_eq_false_iff_ne.2 (by omega)]
  show some (bo,_)=some (bo,some (1,[D.b (alikeS (fun r s=>eqCell (sub r 0 2) (sub s 0 2)) (gd p 0) (gd q 0))]))
  rw [show alikeS (fun r s=>eqCell (sub r 0 2) (sub s 0 2)) (gd p 0) (gd q 0)=false from by simp [alikeS,hl]]
  rfl
theorem eqCellS_refl (z:D):eqCellS z z=true:=alikeS_refl (fun r=>by exact eqCell_refl _) z
def sizeCellS (z:D):Nat:=z.rows.length
theorem szCellS_ev (p q:List D) (N:Nat):evFn Tryz.prog (find []) N [0,1,4,10] Tryz.f30 ri [⟨sd (.sl 139),p⟩,⟨ri,q⟩]=some (bo,bif decide (w64 ((gd q 0).int - (gd p 0).rows.length)<0) then oi (-1) else oi (w64 ((gd q 0).int - (gd p 0).rows.length))):=by kernel_rfl
def szCellSE:Ent:=(30,e2 (sd (.sl 139)) ri fun p q=>(⟨ri,[.i (left (sizeCellS (gd p 0)) (gd q 0).int)]⟩,fair (gd q 0).int))
theorem szCellS_ok:EntOk Tryz.prog szCellSE:=e2_ok fun p q h=>evFn_sound (N:=(gd p 0).rows.length+1) (ks:= [0,1,4,10]) (key:=bo) (find_ok (fN)) (enters Tryz.func30) Tryz.func30 fun hw=>by
 have h:fair (gd q 0).int=true:=h
 have hl:=wt_sl (hw ⟨sd (.sl 139),p⟩ (by simp))
 have h2:0≤(gd q 0).int∧(gd q 0).int≤1048576:=by simpa [fair] using h
 rw [szCellS_ev,w64_id (by omega) (by omega)]
 rw [oi_if,left_sub]
 rfl
def rLRange:List S:= [si,si]
def rIRange:List S:= [si,si]
def cpRange (p:List D):List D:= [gd p 0,gd p 1]
def okRange (p:List D):Bool:=true
theorem toRange_ev (p:List D) (N:Nat):evFn Tryz.prog (find []) N [0,1,2,3] Tryz.f12 (ag rIRange) [⟨ag rLRange,p⟩]=some (bo,some (1,cpRange p)):=by kernel_rfl
def toRangeE:Ent:=(12,e1 (ag rLRange) fun p=>(⟨ag rIRange,cpRange p⟩,okRange p))
theorem toRange_ok:EntOk Tryz.prog toRangeE:=e1_ok fun p h=>evFn_sound (N:=0) (ks:= [0,1,2,3]) (key:=bo) (find_ok (fN)) (enters Tryz.func12) Tryz.func12 fun _=>by
 have h:okRange p=true:=h
 simp only [okRange,Bool.and_eq_true] at h
 rw [toRange_ev]
def eqRange (p q:List D):Bool:=((gd p 0).int==(gd q 0).int)&&(((gd p 1).int==(gd q 1).int)&&(true))
theorem eqRange_ev (p q:List D) (N:Nat):evFn Tryz.prog (find []) N [0,1,2,3,4,9,14] Tryz.f120 rb [⟨ag rIRange,p⟩,⟨ag rIRange,q⟩]=some (bo,bif !((gd p 0).int==(gd q 0).int) then ob false else bif !((gd p 1).int==(gd q 1).int) then ob false else ob true):=by kernel_rfl
def eqRangeE:Ent:=(120,e2 (ag rIRange) (ag rIRange) fun p q=>(⟨rb,[.b (eqRange p q)]⟩,true))
theorem eqRange_ok:EntOk Tryz.prog eqRangeE:=e2_ok fun p q _=>evFn_sound (N:=0) (ks:= [0,1,2,3,4,9,14]) (key:=bo) (find_ok (fN)) (enters Tryz.func120) Tryz.func120 fun _=>by
 rw [eqRange_ev]
 simp only [ne_step]
 rfl
theorem eqRange_refl (p:List D):eqRange p p=true:=by
 simp [eqRange]
def cpRangeS (z:D):D:=.l (z.rows.map fun r=>cpRange (sub r 0 2))
def okRangeS (z:D):Bool:=decide (z.rows.length≤4294967296)&&z.rows.all fun r=>okRange (sub r 0 2)
def eqRangeS:D→D→Bool:=alikeS (fun r s=>eqRange (sub r 0 2) (sub s 0 2))
noncomputable def eqRangeSL (N:Nat) (p q:List D):List D→Out:=loopOf Tryz.prog (find [eqRangeE]) N [0,1,4,5,10,14,26] Tryz.f26 rb [⟨sd (.sl 41),p⟩,⟨sd (.sl 41),q⟩] 0
theorem eqRangeS_rd (p q:List D) (N:Nat) (z u x y:D) (k:Int):eqRangeSL N p q [z,u,x,y,.i k]=bif decide (k<z.rows.length) then nd (inRange k z.rows.length) (nd (inRange k u.rows.length) (bif !(eqRange (sub (z.rows.getD k.toNat []) 0 2) (sub (u.rows.getD k.toNat []) 0 2)) then ob false else nx [z,u,x,y,.i (w64 (k+1))])) else ex 0 [z,u,x,y,.i k]:=by kernel_rfl
theorem eqRangeS_ev (p q:List D) (N:Nat):evFn Tryz.prog (find [eqRangeE]) N [0,1,4,5,10,14,26] Tryz.f26 rb [⟨sd (.sl 41),p⟩,⟨sd (.sl 41),q⟩]=some (bo,bif !(((gd p 0).rows.length:Int)==(gd q 0).rows.length) then ob false else
  (let o:=iter (eqRangeSL N p q) N [gd p 0,gd q 0,D0,.b (!(((gd p 0).rows.length:Int)==(gd q 0).rows.length)),.i 0]
   nd o.isSome (bif o.code==1 then some (1,o.pay) else nd (o.code==2) (ob true)))):=by kernel_rfl
def eqRangeSE:Ent:=(26,e2 (sd (.sl 41)) (sd (.sl 41)) fun p q=>(⟨rb,[.b (eqRangeS (gd p 0) (gd q 0))]⟩,true))
theorem eqRangeS_ok:EntOk Tryz.prog eqRangeSE:=e2_ok fun p q _=>evFn_sound (N:=(gd p 0).rows.length+1) (ks:= [0,1,4,5,10,14,26]) (key:=bo) (find_ok (fC ⟨eqRange_ok,fN⟩)) (enters Tryz.func26) Tryz.func26 fun hw=>by
 rw [eqRangeS_ev]
 by_cases hl:(gd p 0).rows.length=(gd q 0).rows.length
 ·rw [like_loop (E:=(fun r s=>eqRange (sub r 0 2) (sub s 0 2))) (wt_sl (hw ⟨sd (.sl 41),p⟩ (by simp))) hl (eqRangeS_rd p q _ _ _ _ _) (by omega)]
  rw [show ((((gd p 0).rows.length:Int))==(gd q 0).rows.length)=true from beq_iff_eq.2 (by omega)]
  show some (bo,_)=some (bo,some (1,[D.b (alikeS (fun r s=>eqRange (sub r 0 2) (sub s 0 2)) (gd p 0) (gd q 0))]))
  cases alikeS (fun r s=>eqRange (sub r 0 2) (sub s 0 2)) (gd p 0) (gd q 0) <;> rfl
 ·rw [show ((((gd p 0).rows.length:Int))==(gd q 0).rows.length)=false from beq_eq_false_iff_ne.2 (by omega)]
  show some (bo,_)=some (bo,some (1,[D.b (alikeS (fun r s=>eqRange (sub r 0 2) (sub s 0 2)) (gd p 0) (gd q 0))]))
  rw [show alikeS (fun r s=>eqRange (sub r 0 2) (sub s 0 2)) (gd p 0) (gd q 0)=false from by simp [alikeS,hl]]
  rfl
theorem eqRangeS_refl (z:D):eqRangeS z z=true:=alikeS_refl (fun r=>by exact eqRange_refl _) z
def sizeRangeS (z:D):Nat:=z.rows.length
theorem szRangeS_ev (p q:List D) (N:Nat):evFn Tryz.prog (find []) N [0,1,4,10] Tryz.f20 ri [⟨sd (.sl 30),p⟩,⟨ri,q⟩]=some (bo,bif decide (w64 ((gd q 0).int - (gd p 0).rows.length)<0) then oi (-1) else oi (w64 ((gd q 0).int - (gd p 0).rows.length))):=by kernel_rfl
def szRangeSE:Ent:=(20,e2 (sd (.sl 30)) ri fun p q=>(⟨ri,[.i (left (sizeRangeS (gd p 0)) (gd q 0).int)]⟩,fair (gd q 0).int))
theorem szRangeS_ok:EntOk Tryz.prog szRangeSE:=e2_ok fun p q h=>evFn_sound (N:=(gd p 0).rows.length+1) (ks:= [0,1,4,10]) (key:=bo) (find_ok (fN)) (enters Tryz.func20) Tryz.func20 fun hw=>by
 have h:fair (gd q 0).int=true:=h
 have hl:=wt_sl (hw ⟨sd (.sl 30),p⟩ (by simp))
 have h2:0≤(gd q 0).int∧(gd q 0).int≤1048576:=by simpa [fair] using h
 rw [szRangeS_ev,w64_id (by omega) (by omega)]
 rw [oi_if,left_sub]
 rfl
def rLWrite:List S:= [si,si]
def rIWrite:List S:= [si,si]
def cpWrite (p:List D):List D:= [gd p 0,gd p 1]
def okWrite (p:List D):Bool:=true
theorem toWrite_ev (p:List D) (N:Nat):evFn Tryz.prog (find []) N [0,1,2,3] Tryz.f104 (ag rIWrite) [⟨ag rLWrite,p⟩]=some (bo,some (1,cpWrite p)):=by kernel_rfl
def toWriteE:Ent:=(104,e1 (ag rLWrite) fun p=>(⟨ag rIWrite,cpWrite p⟩,okWrite p))
theorem toWrite_ok:EntOk Tryz.prog toWriteE:=e1_ok fun p h=>evFn_sound (N:=0) (ks:= [0,1,2,3]) (key:=bo) (find_ok (fN)) (enters Tryz.func104) Tryz.func104 fun _=>by
 have h:okWrite p=true:=h
 simp only [okWrite,Bool.and_eq_true] at h
 rw [toWrite_ev]
def eqWrite (p q:List D):Bool:=((gd p 0).int==(gd q 0).int)&&(((gd p 1).int==(gd q 1).int)&&(true))
theorem eqWrite_ev (p q:List D) (N:Nat):evFn Tryz.prog (find []) N [0,1,2,3,4,9,14] Tryz.f121 rb [⟨ag rIWrite,p⟩,⟨ag rIWrite,q⟩]=some (bo,bif !((gd p 0).int==(gd q 0).int) then ob false else bif !((gd p 1).int==(gd q 1).int) then ob false else ob true):=by kernel_rfl
def eqWriteE:Ent:=(121,e2 (ag rIWrite) (ag rIWrite) fun p q=>(⟨rb,[.b (eqWrite p q)]⟩,true))
theorem eqWrite_ok:EntOk Tryz.prog eqWriteE:=e2_ok fun p q _=>evFn_sound (N:=0) (ks:= [0,1,2,3,4,9,14]) (key:=bo) (find_ok (fN)) (enters Tryz.func121) Tryz.func121 fun _=>by
 rw [eqWrite_ev]
 simp only [ne_step]
 rfl
theorem eqWrite_refl (p:List D):eqWrite p p=true:=by
 simp [eqWrite]
def cpWriteS (z:D):D:=.l (z.rows.map fun r=>cpWrite (sub r 0 2))
def okWriteS (z:D):Bool:=decide (z.rows.length≤4294967296)&&z.rows.all fun r=>okWrite (sub r 0 2)
def eqWriteS:D→D→Bool:=alikeS (fun r s=>eqWrite (sub r 0 2) (sub s 0 2))
noncomputable def eqWriteSL (N:Nat) (p q:List D):List D→Out:=loopOf Tryz.prog (find [eqWriteE]) N [0,1,4,5,10,14,26] Tryz.f27 rb [⟨sd (.sl 70),p⟩,⟨sd (.sl 70),q⟩] 0
theorem eqWriteS_rd (p q:List D) (N:Nat) (z u x y:D) (k:Int):eqWriteSL N p q [z,u,x,y,.i k]=bif decide (k<z.rows.length) then nd (inRange k z.rows.length) (nd (inRange k u.rows.length) (bif !(eqWrite (sub (z.rows.getD k.toNat []) 0 2) (sub (u.rows.getD k.toNat []) 0 2)) then ob false else nx [z,u,x,y,.i (w64 (k+1))])) else ex 0 [z,u,x,y,.i k]:=by kernel_rfl
theorem eqWriteS_ev (p q:List D) (N:Nat):evFn Tryz.prog (find [eqWriteE]) N [0,1,4,5,10,14,26] Tryz.f27 rb [⟨sd (.sl 70),p⟩,⟨sd (.sl 70),q⟩]=some (bo,bif !(((gd p 0).rows.length:Int)==(gd q 0).rows.length) then ob false else
  (let o:=iter (eqWriteSL N p q) N [gd p 0,gd q 0,D0,.b (!(((gd p 0).rows.length:Int)==(gd q 0).rows.length)),.i 0]
   nd o.isSome (bif o.code==1 then some (1,o.pay) else nd (o.code==2) (ob true)))):=by kernel_rfl
def eqWriteSE:Ent:=(27,e2 (sd (.sl 70)) (sd (.sl 70)) fun p q=>(⟨rb,[.b (eqWriteS (gd p 0) (gd q 0))]⟩,true))
theorem eqWriteS_ok:EntOk Tryz.prog eqWriteSE:=e2_ok fun p q _=>evFn_sound (N:=(gd p 0).rows.length+1) (ks:= [0,1,4,5,10,14,26]) (key:=bo) (find_ok (fC ⟨eqWrite_ok,fN⟩)) (enters Tryz.func27) Tryz.func27 fun hw=>by
 rw [eqWriteS_ev]
 by_cases hl:(gd p 0).rows.length=(gd q 0).rows.length
 ·rw [like_loop (E:=(fun r s=>eqWrite (sub r 0 2) (sub s 0 2))) (wt_sl (hw ⟨sd (.sl 70),p⟩ (by simp))) hl (eqWriteS_rd p q _ _ _ _ _) (by omega)]
  rw [show ((((gd p 0).rows.length:Int))==(gd q 0).rows.length)=true from beq_iff_eq.2 (by omega)]
  show some (bo,_)=some (bo,some (1,[D.b (alikeS (fun r s=>eqWrite (sub r 0 2) (sub s 0 2)) (gd p 0) (gd q 0))]))
  cases alikeS (fun r s=>eqWrite (sub r 0 2) (sub s 0 2)) (gd p 0) (gd q 0) <;> rfl
 ·rw [show ((((gd p 0).rows.length:Int))==(gd q 0).rows.length)=false from beq_eq_false_iff_ne.2 (by omega)]
  show some (bo,_)=some (bo,some (1,[D.b (alikeS (fun r s=>eqWrite (sub r 0 2) (sub s 0 2)) (gd p 0) (gd q 0))]))
  rw [show alikeS (fun r s=>eqWrite (sub r 0 2) (sub s 0 2)) (gd p 0) (gd q 0)=false from by simp [alikeS,hl]]
  rfl
theorem eqWriteS_refl (z:D):eqWriteS z z=true:=alikeS_refl (fun r=>by exact eqWrite_refl _) z
def sizeWriteS (z:D):Nat:=z.rows.length
theorem szWriteS_ev (p q:List D) (N:Nat):evFn Tryz.prog (find []) N [0,1,4,10] Tryz.f21 ri [⟨sd (.sl 124),p⟩,⟨ri,q⟩]=some (bo,bif decide (w64 ((gd q 0).int - (gd p 0).rows.length)<0) then oi (-1) else oi (w64 ((gd q 0).int - (gd p 0).rows.length))):=by kernel_rfl
def szWriteSE:Ent:=(21,e2 (sd (.sl 124)) ri fun p q=>(⟨ri,[.i (left (sizeWriteS (gd p 0)) (gd q 0).int)]⟩,fair (gd q 0).int))
theorem szWriteS_ok:EntOk Tryz.prog szWriteSE:=e2_ok fun p q h=>evFn_sound (N:=(gd p 0).rows.length+1) (ks:= [0,1,4,10]) (key:=bo) (find_ok (fN)) (enters Tryz.func21) Tryz.func21 fun hw=>by
 have h:fair (gd q 0).int=true:=h
 have hl:=wt_sl (hw ⟨sd (.sl 124),p⟩ (by simp))
 have h2:0≤(gd q 0).int∧(gd q 0).int≤1048576:=by simpa [fair] using h
 rw [szWriteS_ev,w64_id (by omega) (by omega)]
 rw [oi_if,left_sub]
 rfl
end Go.Proofs.YtpdfmcmnjikppaaGreat
namespace Go.Proofs.YtpdfmcmnjikppaaGreat
set_option maxRecDepth 4096
end Go.Proofs.YtpdfmcmnjikppaaGreat
namespace Go.Proofs.YtpdfmcmnjikppaaGreat
set_option maxRecDepth 4096
end Go.Proofs.YtpdfmcmnjikppaaGreat
namespace Go.Proofs.YtpdfmcmnjikppaaGreat
set_option maxRecDepth 4096
end Go.Proofs.YtpdfmcmnjikppaaGreat
namespace Go.Proofs.YtpdfmcmnjikppaaGreat
set_option maxRecDepth 4096
theorem and_ob (c x:Bool):(bif c then ob x else ob false)=ob (c&&x):=by cases c <;> rfl
def inB (n a b:Int):Bool:=decide (n≥a)&&decide (n≤b)
theorem i_from_ev (p q r:List D) (N:Nat):evFn Tryz.prog (find []) N [0,1,2,6] Tryz.f154 (rb) [⟨ri,p⟩,⟨ri,q⟩,⟨ri,r⟩]=some (bo,bif decide ((gd p 0).int≥(gd q 0).int) then ob (decide ((gd p 0).int≤(gd r 0).int)) else ob false):=by kernel_rfl
def i_fromE:Ent:=(154,e3 (ri) (ri) (ri) fun p q r=>(⟨rb,[.b (inB (gd p 0).int (gd q 0).int (gd r 0).int)]⟩,true))
theorem i_from_ok:EntOk Tryz.prog i_fromE:=e3_ok fun p q r h=>evFn_sound (N:=0) (ks:= [0,1,2,6]) (key:=bo) (find_ok (fN)) (enters Tryz.func154) Tryz.func154 fun _=>by
 rw [i_from_ev]
 rw [and_ob]; rfl
theorem s_l1In_ev (p q r:List D) (N:Nat):evFn Tryz.prog (find []) N [0,1,2,6] Tryz.f184 (rb) [⟨ri,p⟩,⟨ri,q⟩,⟨ri,r⟩]=some (bo,bif decide ((gd p 0).int≥(gd q 0).int) then ob (decide ((gd p 0).int≤(gd r 0).int)) else ob false):=by kernel_rfl
def s_l1InE:Ent:=(184,e3 (ri) (ri) (ri) fun p q r=>(⟨rb,[.b (inB (gd p 0).int (gd q 0).int (gd r 0).int)]⟩,true))
theorem s_l1In_ok:EntOk Tryz.prog s_l1InE:=e3_ok fun p q r h=>evFn_sound (N:=0) (ks:= [0,1,2,6]) (key:=bo) (find_ok (fN)) (enters Tryz.func184) Tryz.func184 fun _=>by
 rw [s_l1In_ev]
 rw [and_ob]; rfl
theorem i_isWhole_ev (p:List D) (N:Nat):evFn Tryz.prog (find [i_fromE]) N [0,2] Tryz.f220 (rb) [⟨ri,p⟩]=some (bo,ob (inB (gd p 0).int (0) (1000000000))):=by kernel_rfl
def i_isWholeE:Ent:=(220,e1 (ri) fun p=>(⟨rb,[.b (inB (gd p 0).int (0) (1000000000))]⟩,true))
theorem i_isWhole_ok:EntOk Tryz.prog i_isWholeE:=e1_ok fun p h=>evFn_sound (N:=0) (ks:= [0,2]) (key:=bo) (find_ok (fC ⟨i_from_ok,fN⟩)) (enters Tryz.func220) Tryz.func220 fun _=>by
 rw [i_isWhole_ev]
 skip
theorem i_isAnswer_ev (p:List D) (N:Nat):evFn Tryz.prog (find [i_fromE]) N [0,2] Tryz.f209 (rb) [⟨ri,p⟩]=some (bo,ob (inB (gd p 0).int (-1) (1000000000))):=by kernel_rfl
def i_isAnswerE:Ent:=(209,e1 (ri) fun p=>(⟨rb,[.b (inB (gd p 0).int (-1) (1000000000))]⟩,true))
theorem i_isAnswer_ok:EntOk Tryz.prog i_isAnswerE:=e1_ok fun p h=>evFn_sound (N:=0) (ks:= [0,2]) (key:=bo) (find_ok (fC ⟨i_from_ok,fN⟩)) (enters Tryz.func209) Tryz.func209 fun _=>by
 rw [i_isAnswer_ev]
 skip
theorem i_isKey_ev (p:List D) (N:Nat):evFn Tryz.prog (find [i_fromE]) N [0,2] Tryz.f208 (rb) [⟨ri,p⟩]=some (bo,ob (inB (gd p 0).int (0) (999))):=by kernel_rfl
def i_isKeyE:Ent:=(208,e1 (ri) fun p=>(⟨rb,[.b (inB (gd p 0).int (0) (999))]⟩,true))
theorem i_isKey_ok:EntOk Tryz.prog i_isKeyE:=e1_ok fun p h=>evFn_sound (N:=0) (ks:= [0,2]) (key:=bo) (find_ok (fC ⟨i_from_ok,fN⟩)) (enters Tryz.func208) Tryz.func208 fun _=>by
 rw [i_isKey_ev]
 skip
theorem i_isGroup_ev (p:List D) (N:Nat):evFn Tryz.prog (find [i_fromE]) N [0,2] Tryz.f149 (rb) [⟨ri,p⟩]=some (bo,ob (inB (gd p 0).int (0) (3))):=by kernel_rfl
def i_isGroupE:Ent:=(149,e1 (ri) fun p=>(⟨rb,[.b (inB (gd p 0).int (0) (3))]⟩,true))
theorem i_isGroup_ok:EntOk Tryz.prog i_isGroupE:=e1_ok fun p h=>evFn_sound (N:=0) (ks:= [0,2]) (key:=bo) (find_ok (fC ⟨i_from_ok,fN⟩)) (enters Tryz.func149) Tryz.func149 fun _=>by
 rw [i_isGroup_ev]
 skip
theorem s_l1Whole_ev (p:List D) (N:Nat):evFn Tryz.prog (find [s_l1InE]) N [0,2] Tryz.f218 (rb) [⟨ri,p⟩]=some (bo,ob (inB (gd p 0).int (0) (1000000000))):=by kernel_rfl
def s_l1WholeE:Ent:=(218,e1 (ri) fun p=>(⟨rb,[.b (inB (gd p 0).int (0) (1000000000))]⟩,true))
theorem s_l1Whole_ok:EntOk Tryz.prog s_l1WholeE:=e1_ok fun p h=>evFn_sound (N:=0) (ks:= [0,2]) (key:=bo) (find_ok (fC ⟨s_l1In_ok,fN⟩)) (enters Tryz.func218) Tryz.func218 fun _=>by
 rw [s_l1Whole_ev]
 skip
theorem s_l10Key_ev (p:List D) (N:Nat):evFn Tryz.prog (find [s_l1InE]) N [0,2] Tryz.f201 (rb) [⟨ri,p⟩]=some (bo,ob (inB (gd p 0).int (0) (999))):=by kernel_rfl
def s_l10KeyE:Ent:=(201,e1 (ri) fun p=>(⟨rb,[.b (inB (gd p 0).int (0) (999))]⟩,true))
theorem s_l10Key_ok:EntOk Tryz.prog s_l10KeyE:=e1_ok fun p h=>evFn_sound (N:=0) (ks:= [0,2]) (key:=bo) (find_ok (fC ⟨s_l1In_ok,fN⟩)) (enters Tryz.func201) Tryz.func201 fun _=>by
 rw [s_l10Key_ev]
 skip
def rangeOk (p:List D):Bool:=decide ((gd p 0).int≥0)&&(decide ((gd p 0).int<(gd p 1).int)&&decide ((gd p 1).int≤1000))
theorem i_RangeOk_ev (p:List D) (N:Nat):evFn Tryz.prog (find []) N [0,1,2] Tryz.f108 (rb) [⟨ag rIRange,p⟩]=some (bo,bif decide ((gd p 0).int≥0) then bif decide ((gd p 0).int<(gd p 1).int) then ob (decide ((gd p 1).int≤1000)) else ob false else ob false):=by kernel_rfl
def i_RangeOkE:Ent:=(108,e1 (ag rIRange) fun p=>(⟨rb,[.b (rangeOk p)]⟩,true))
theorem i_RangeOk_ok:EntOk Tryz.prog i_RangeOkE:=e1_ok fun p h=>evFn_sound (N:=0) (ks:= [0,1,2]) (key:=bo) (find_ok (fN)) (enters Tryz.func108) Tryz.func108 fun _=>by
 rw [i_RangeOk_ev]
 simp only [and_ob]; rfl
theorem s_RangeOk_ev (p:List D) (N:Nat):evFn Tryz.prog (find []) N [0,1,2] Tryz.f94 (rb) [⟨ag rIRange,p⟩]=some (bo,bif decide ((gd p 0).int≥0) then bif decide ((gd p 0).int<(gd p 1).int) then ob (decide ((gd p 1).int≤1000)) else ob false else ob false):=by kernel_rfl
def s_RangeOkE:Ent:=(94,e1 (ag rIRange) fun p=>(⟨rb,[.b (rangeOk p)]⟩,true))
theorem s_RangeOk_ok:EntOk Tryz.prog s_RangeOkE:=e1_ok fun p h=>evFn_sound (N:=0) (ks:= [0,1,2]) (key:=bo) (find_ok (fN)) (enters Tryz.func94) Tryz.func94 fun _=>by
 rw [s_RangeOk_ev]
 simp only [and_ob]; rfl
end Go.Proofs.YtpdfmcmnjikppaaGreat
namespace Go.Proofs.YtpdfmcmnjikppaaGreat
set_option maxRecDepth 4096
def writeAt (z:D) (k:Nat):Bool:=inB (gd (z.rows.getD k []) 0).int 0 999&&(inB (gd (z.rows.getD k []) 1).int (-1) 1000000000&&(k==0 || !decide ((gd (z.rows.getD (k - 1) []) 0).int≥(gd (z.rows.getD k []) 0).int)))
def writesOk (z:D):Bool:=decide ((z.rows.length:Int)≤60)&&(List.range z.rows.length).all (writeAt z)
theorem pre_nat {k:Nat} (h:k≠0) (h':k≤9223372036854775807):w64 ((k:Int) - 1)=((k - 1:Nat):Int):=by
 rw [w64_id (by omega) (by omega)]; omega
noncomputable def swL (N:Nat) (p:List D):List D→Out:=loopOf Tryz.prog (find [s_l1InE,s_l10KeyE]) N [0,2,3,6,10,46] Tryz.f93 rb [⟨sd (.sl 70),p⟩] 0
theorem sw_rd (p:List D) (N:Nat) (z x2 y:D) (k:Int):swL N p [z,x2,y,.i k] =
 bif decide (k<z.rows.length) then nd (inRange k z.rows.length) (bif !(inB (gd (z.rows.getD k.toNat []) 0).int 0 999) then ob false else nd (inRange k z.rows.length) (bif !(inB (gd (z.rows.getD k.toNat []) 1).int (-1) 1000000000) then ob false else
  bif decide (k > 0) then nd (inRange (w64 (k - 1)) z.rows.length) (nd (inRange k z.rows.length) (bif decide ((gd (z.rows.getD (w64 (k - 1)).toNat []) 0).int≥(gd (z.rows.getD k.toNat []) 0).int) then ob false else nx [z,x2,y,.i (w64 (k+1))])) else nx [z,x2,y,.i (w64 (k+1))])) else ex 0 [z,x2,y,.i k]:=by kernel_rfl
theorem sw_ev (p:List D) (N:Nat):evFn Tryz.prog (find [s_l1InE,s_l10KeyE]) N [0,2,3,6,10,46] Tryz.f93 rb [⟨sd (.sl 70),p⟩]=some (bo,bif decide (((gd p 0).rows.length:Int) > 60) then ob false else
  (let o:=iter (swL N p) N [gd p 0,D0,.b (decide (((gd p 0).rows.length:Int) > 60)),.i 0]
  nd o.isSome (bif o.code==1 then some (1,o.pay) else nd (o.code==2) (ob true)))):=by kernel_rfl
noncomputable def iwL (N:Nat) (p:List D):List D→Out:=loopOf Tryz.prog (find [i_isKeyE,i_isAnswerE]) N [0,2,3,4,5,6,7,8,36] Tryz.f109 rb [⟨sd (.sl 70),p⟩] 0
theorem iw_rd (p:List D) (N:Nat) (z x2 z5:D) (n k:Int):iwL N p [z,x2,z5,.i n,.i k] =
  bif decide (k<n) then nd (inRange k z5.rows.length)
   (bif !(inB (gd (z5.rows.getD k.toNat []) 0).int 0 999) then ob false else bif !(inB (gd (z5.rows.getD k.toNat []) 1).int (-1) 1000000000) then ob false else
   bif decide (k > 0) then nd (inRange (w64 (k - 1)) z.rows.length) (bif decide ((gd (z.rows.getD (w64 (k - 1)).toNat []) 0).int≥(gd (z5.rows.getD k.toNat []) 0).int) then ob false else nx [z,x2,z5,.i n,.i (w64 (k+1))]) else nx [z,x2,z5,.i n,.i (w64 (k+1))])
  else ex 0 [z,x2,z5,.i n,.i k]:=by kernel_rfl
theorem iw_ev (p:List D) (N:Nat):evFn Tryz.prog (find [i_isKeyE,i_isAnswerE]) N [0,2,3,4,5,6,7,8,36] Tryz.f109 rb [⟨sd (.sl 70),p⟩]=some (bo,
  (let o:=iter (iwL N p) N [gd p 0,D0,gd p 0,.i (gd p 0).rows.length,.i 0]
  nd o.isSome (bif o.code==1 then some (1,o.pay) else nd (o.code==2) (ob (decide (((gd o.pay 0).rows.length:Int)≤60)))))):=by kernel_rfl
def s_WritesOkE:Ent:=(93,e1 (sd (.sl 70)) fun p=>(⟨rb,[.b (writesOk (gd p 0))]⟩,true))
def i_WritesOkE:Ent:=(109,e1 (sd (.sl 70)) fun p=>(⟨rb,[.b (writesOk (gd p 0))]⟩,true))
theorem s_WritesOk_ok:EntOk Tryz.prog s_WritesOkE:=e1_ok fun p _=>evFn_sound (N:=(gd p 0).rows.length+1) (ks:= [0,2,3,6,10,46]) (key:=bo) (find_ok (fC ⟨s_l1In_ok,fC ⟨s_l10Key_ok,fN⟩⟩)) (enters Tryz.func93) Tryz.func93 fun hw=>by
 have hl:=wt_sl (hw ⟨sd (.sl 70),p⟩ (by simp))
 rw [sw_ev]
 by_cases h60:((gd p 0).rows.length:Int)≤60
 ·have e:=all_loop (L:=swL ((gd p 0).rows.length+1) p) (fun k => [gd p 0,D0,.b (decide (((gd p 0).rows.length:Int) > 60)),.i (k:Int)]) (gd p 0).rows.length (writeAt (gd p 0)) [.b false] [gd p 0,D0,.b (decide (((gd p 0).rows.length:Int) > 60)),.i (gd p 0).rows.length] 0 (fun k hk=>?_) ?_ (Nat.lt_succ_self _)
  ·simp only [Int.natCast_zero] at e
   rw [e,show decide (((gd p 0).rows.length:Int) > 60)=false from decide_eq_false (by omega)]
   simp only [writesOk,h60,decide_true,Bool.true_and]
   cases (List.range (gd p 0).rows.length).all (writeAt (gd p 0)) <;> rfl
  ·show swL _ p [gd p 0,D0,_,.i (k:Int)]=_
   rw [sw_rd,decide_eq_true (show (k:Int)<(gd p 0).rows.length from by omega),inRange_nat hk]
   simp only [cond_true,nd,Int.toNat_natCast,writeAt]
   cases inB (gd ((gd p 0).rows.getD k []) 0).int 0 999 <;> simp only [Bool.not_true,Bool.not_false,cond_true,cond_false,Bool.false_and,Bool.true_and] <;> first | rfl | skip
   cases inB (gd ((gd p 0).rows.getD k []) 1).int (-1) 1000000000 <;> simp only [Bool.not_true,Bool.not_false,cond_true,cond_false,Bool.false_and,Bool.true_and] <;> first | rfl | skip
   rw [w64_id (x:=(k:Int)+1) (by omega) (by omega)]
   by_cases h0:k=0
   ·subst h0; rfl
   ·rw [decide_eq_true (show (k:Int) > 0 from by omega),pre_nat h0 (by omega),inRange_nat (show k - 1<(gd p 0).rows.length from by omega),show (k==0)=false from by simpa using h0]
    simp only [cond_true,Int.toNat_natCast,Bool.false_or]
    cases decide ((gd ((gd p 0).rows.getD (k - 1) []) 0).int≥(gd ((gd p 0).rows.getD k []) 0).int) <;> rfl
  ·show swL _ p [gd p 0,D0,_,.i ((gd p 0).rows.length:Int)]=_
   rw [sw_rd,decide_eq_false (show ¬ ((gd p 0).rows.length:Int)<(gd p 0).rows.length from by omega)]
   rfl
 ·rw [decide_eq_true (show ((gd p 0).rows.length:Int) > 60 from by omega)]
  simp only [writesOk,h60,decide_false,Bool.false_and]
  rfl
theorem i_WritesOk_ok:EntOk Tryz.prog i_WritesOkE:=e1_ok fun p _=>evFn_sound (N:=(gd p 0).rows.length+1) (ks:= [0,2,3,4,5,6,7,8,36]) (key:=bo) (find_ok (fC ⟨i_isKey_ok,fC ⟨i_isAnswer_ok,fN⟩⟩)) (enters Tryz.func109) Tryz.func109 fun hw=>by
 have hl:=wt_sl (hw ⟨sd (.sl 70),p⟩ (by simp))
 have e:=all_loop (L:=iwL ((gd p 0).rows.length+1) p) (fun k => [gd p 0,D0,gd p 0,.i (gd p 0).rows.length,.i (k:Int)]) (gd p 0).rows.length (writeAt (gd p 0)) [.b false] [gd p 0,D0,gd p 0,.i (gd p 0).rows.length,.i (gd p 0).rows.length] 0 (fun k hk=>?_) ?_ (Nat.lt_succ_self _)
 ·simp only [Int.natCast_zero] at e
  rw [iw_ev,e]
  cases hq:(List.range (gd p 0).rows.length).all (writeAt (gd p 0))
  ·simp only [writesOk,hq,Bool.and_false]; rfl
  ·simp only [writesOk,hq,Bool.and_true]; rfl
 ·show iwL _ p [gd p 0,D0,gd p 0,.i _,.i (k:Int)]=_
  rw [iw_rd,decide_eq_true (show (k:Int)<(gd p 0).rows.length from by omega),inRange_nat hk]
  simp only [cond_true,nd,Int.toNat_natCast,writeAt]
  cases inB (gd ((gd p 0).rows.getD k []) 0).int 0 999 <;> simp only [Bool.not_true,Bool.not_false,cond_true,cond_false,Bool.false_and,Bool.true_and] <;> first | rfl | skip
  cases inB (gd ((gd p 0).rows.getD k []) 1).int (-1) 1000000000 <;> simp only [Bool.not_true,Bool.not_false,cond_true,cond_false,Bool.false_and,Bool.true_and] <;> first | rfl | skip
  rw [w64_id (x:=(k:Int)+1) (by omega) (by omega)]
  by_cases h0:k=0
  ·subst h0; rfl
  ·rw [decide_eq_true (show (k:Int) > 0 from by omega),pre_nat h0 (by omega),inRange_nat (show k - 1<(gd p 0).rows.length from by omega),show (k==0)=false from by simpa using h0]
   simp only [cond_true,Int.toNat_natCast,Bool.false_or]
   cases decide ((gd ((gd p 0).rows.getD (k - 1) []) 0).int≥(gd ((gd p 0).rows.getD k []) 0).int) <;> rfl
 ·show iwL _ p [gd p 0,D0,gd p 0,.i _,.i ((gd p 0).rows.length:Int)]=_
  rw [iw_rd,decide_eq_false (show ¬ ((gd p 0).rows.length:Int)<(gd p 0).rows.length from by omega)]
  rfl
end Go.Proofs.YtpdfmcmnjikppaaGreat
namespace Go.Proofs.YtpdfmcmnjikppaaGreat
set_option maxRecDepth 4096
def ixF (C:Nat→Bool):Nat→Nat→Int
 | _,0 => -1
 | k,m+1=>bif C k then k else ixF C (k+1) m
theorem ixF_any (C:Nat→Bool):∀ (m k:Nat),decide (ixF C k m≥0)=(List.range m).any fun j=>C (k+j)
 | 0,k=>rfl
 | m+1,k=>by
  rw [ixF,List.range_succ_eq_map,List.any_cons,List.any_map]
  cases hc:C k with
  | true=>simp [hc]
  | false =>
   simp only [cond_false,Nat.add_zero,hc,Bool.false_or]
   rw [ixF_any C m (k+1)]
   congr 1
   funext j
   simp only [Function.comp]
   congr 1; omega
theorem ix_loop {L:List D→Out} (st:Nat→List D) (n:Nat) (C:Nat→Bool) (fin:List D) (h1:∀ k,k<n→L (st k)=some (bif C k then (1,[.i (k:Int)]) else (0,st (k+1)))) (h2:L (st n)=some (2,fin)) :
  ∀ (m k N:Nat),k+m=n→m<N→iter L N (st k)=some (bif decide (ixF C k m≥0) then (1,[.i (ixF C k m)]) else (2,fin)):=by
 intro m
 induction m with
 | zero =>
  intro k N hk hN
  obtain ⟨N,rfl⟩:∃ N',N=N'+1:=⟨N - 1,by omega⟩
  obtain rfl:k=n:=by omega
  rw [iter,h2]; rfl
 | succ m ih =>
  intro k N hk hN
  obtain ⟨N,rfl⟩:∃ N',N=N'+1:=⟨N - 1,by omega⟩
  rw [iter,h1 k (by omega),ixF]
  cases hc:C k with
  | true=>simp only [cond_true]; rw [decide_eq_true (show (k:Int)≥0 from by omega)]; rfl
  | false=>simp only [cond_false]; exact ih (k+1) N (by omega) (by omega)
def anyS (C:List D→Bool) (z:D):Bool:=(List.range z.rows.length).any fun k=>C (z.rows.getD k [])
theorem ixF_neg (C:Nat→Bool):∀ (m k:Nat),decide (ixF C k m≥0)=false→ixF C k m = -1
 | 0,k,_=>rfl
 | m+1,k,h=>by
  rw [ixF] at h ⊢
  cases hc:C k with
  | true=>rw [hc,cond_true,decide_eq_true (show (k:Int)≥0 from by omega)] at h; cases h
  | false=>rw [hc,cond_false] at h; rw [cond_false]; exact ixF_neg C m (k+1) h
end Go.Proofs.YtpdfmcmnjikppaaGreat
namespace Go.Proofs.YtpdfmcmnjikppaaGreat
set_option maxRecDepth 4096
def readsOk (z:D):Bool:=decide ((z.rows.length:Int)≤16) && !anyS (fun r => !rangeOk (sub r 0 2)) z
def hasInt (z:D) (x:Int):Bool:=anyS (fun r=>x==(gd r 0).int) z
def cnt (C:Nat→Bool):Nat→Nat→Nat
 | _,0=>0
 | k,m+1=>(bif C k then 1 else 0)+cnt C (k+1) m
theorem cnt_le (C:Nat→Bool):∀ m k,cnt C k m≤m
 | 0,k=>Nat.le_refl _
 | m+1,k=>by
  have:=cnt_le C m (k+1)
  rw [cnt]
  cases C k <;> simp only [cond_true,cond_false] <;> omega
theorem not_all {n:Nat} {C:Nat→Bool}:(!(List.range n).all fun k => !C k)=(List.range n).any C:=by simp [List.all_eq_not_any_not]
noncomputable def s_l12HasL (N:Nat) (p q:List D):List D→Out:=loopOf Tryz.prog (find []) N [0,1,4,5,9,17] Tryz.f95 rb [⟨sd (.sl 3),p⟩,⟨ri,q⟩] 0
theorem s_l12Has_rd (p q:List D) (N:Nat) (z x y:D) (k:Int):s_l12HasL N p q [z,x,y,.i k]=bif decide (k<z.rows.length) then nd (inRange k z.rows.length) (bif ((gd (z.rows.getD k.toNat []) 0).int==x.int) then ob true else nx [z,x,y,.i (w64 (k+1))]) else ex 0 [z,x,y,.i k]:=by kernel_rfl
theorem s_l12Has_ev (p q:List D) (N:Nat):evFn Tryz.prog (find []) N [0,1,4,5,9,17] Tryz.f95 rb [⟨sd (.sl 3),p⟩,⟨ri,q⟩]=some (bo,(let o:=iter (s_l12HasL N p q) N [gd p 0,gd q 0,D0,.i 0]
  nd o.isSome (bif o.code==1 then some (1,o.pay) else nd (o.code==2) (ob false)))):=by kernel_rfl
def s_l12HasE:Ent:=(95,e2 (sd (.sl 3)) ri fun p q=>(⟨rb,[.b (hasInt (gd p 0) (gd q 0).int)]⟩,true))
theorem s_l12Has_ok:EntOk Tryz.prog s_l12HasE:=e2_ok fun p q _=>evFn_sound (N:=(gd p 0).rows.length+1) (ks:= [0,1,4,5,9,17]) (key:=bo) (find_ok (fN)) (enters Tryz.func95) Tryz.func95 fun hw=>by
 have hl:=wt_sl (hw ⟨sd (.sl 3),p⟩ (by simp))
 have e:=all_loop (L:=s_l12HasL ((gd p 0).rows.length+1) p q) (fun k => [gd p 0,gd q 0,D0,.i (k:Int)]) (gd p 0).rows.length (fun k => !((gd q 0).int==(gd ((gd p 0).rows.getD k []) 0).int)) [.b true] [gd p 0,gd q 0,D0,.i (gd p 0).rows.length] 0 (fun k hk=>?_) ?_ (Nat.lt_succ_self _)
 ·simp only [Int.natCast_zero] at e
  rw [s_l12Has_ev,e]
  have hn:hasInt (gd p 0) (gd q 0).int = !(List.range (gd p 0).rows.length).all fun k => !((gd q 0).int==(gd ((gd p 0).rows.getD k []) 0).int):=not_all.symm
  rw [hn]
  cases (List.range (gd p 0).rows.length).all fun k => !((gd q 0).int==(gd ((gd p 0).rows.getD k []) 0).int) <;> rfl
 ·show s_l12HasL _ p q [gd p 0,gd q 0,D0,.i (k:Int)]=_
  rw [s_l12Has_rd,decide_eq_true (show (k:Int)<(gd p 0).rows.length from by omega),inRange_nat hk,w64_id (by omega) (by omega),Int.toNat_natCast,Bool.beq_comm]
  cases hcc:((gd q 0).int==(gd ((gd p 0).rows.getD k []) 0).int) <;> rfl
 ·show s_l12HasL _ p q [gd p 0,gd q 0,D0,.i ((gd p 0).rows.length:Int)]=_
  rw [s_l12Has_rd,decide_eq_false (show ¬ ((gd p 0).rows.length:Int)<(gd p 0).rows.length from by omega)]
  rfl
noncomputable def ixIL (N:Nat) (p q:List D):List D→Out:=loopOf Tryz.prog (find []) N [0,1,4,5,7,8,9,16] Tryz.f138 ri [⟨sd (.sl 3),p⟩,⟨ri,q⟩] 0
theorem ixI_rd (p q:List D) (N:Nat) (z c x:D) (n k:Int):ixIL N p q [z,c,x,.i n,.i k]=bif decide (k<n) then nd (inRange k z.rows.length) (bif (c.int==(gd (z.rows.getD k.toNat []) 0).int) then oi k else nx [z,c,x,.i n,.i (w64 (k+1))]) else ex 0 [z,c,x,.i n,.i k]:=by kernel_rfl
theorem ixI_ev (p q:List D) (N:Nat):evFn Tryz.prog (find []) N [0,1,4,5,7,8,9,16] Tryz.f138 ri [⟨sd (.sl 3),p⟩,⟨ri,q⟩]=some (bo,(let o:=iter (ixIL N p q) N [gd p 0,gd q 0,.i 0,.i (gd p 0).rows.length,.i 0]
  nd o.isSome (bif o.code==1 then some (1,o.pay) else nd (o.code==2) (oi (-1))))):=by kernel_rfl
def ixIE:Ent:=(138,e2 (sd (.sl 3)) ri fun p q=>(⟨ri,[.i (ixF (fun k=>(gd q 0).int==(gd ((gd p 0).rows.getD k []) 0).int) 0 (gd p 0).rows.length)]⟩,true))
theorem ixI_ok:EntOk Tryz.prog ixIE:=e2_ok fun p q _=>evFn_sound (N:=(gd p 0).rows.length+1) (ks:= [0,1,4,5,7,8,9,16]) (key:=bo) (find_ok (fN)) (enters Tryz.func138) Tryz.func138 fun hw=>by
 have hl:=wt_sl (hw ⟨sd (.sl 3),p⟩ (by simp))
 have e:=ix_loop (L:=ixIL ((gd p 0).rows.length+1) p q) (fun k => [gd p 0,gd q 0,.i 0,.i (gd p 0).rows.length,.i (k:Int)]) (gd p 0).rows.length (fun k=>(gd q 0).int==(gd ((gd p 0).rows.getD k []) 0).int) [gd p 0,gd q 0,.i 0,.i (gd p 0).rows.length,.i (gd p 0).rows.length] (fun k hk=>?_) ?_ (gd p 0).rows.length 0 ((gd p 0).rows.length+1) (by omega) (by omega)
 ·simp only [Int.natCast_zero] at e
  rw [ixI_ev,e]
  cases hd:decide (ixF (fun k=>(gd q 0).int==(gd ((gd p 0).rows.getD k []) 0).int) 0 (gd p 0).rows.length≥0)
  ·rw [ixF_neg _ _ _ hd]; rfl
  ·rfl
 ·show ixIL _ p q [gd p 0,gd q 0,.i 0,.i _,.i (k:Int)]=_
  rw [ixI_rd,decide_eq_true (show (k:Int)<(gd p 0).rows.length from by omega),inRange_nat hk,w64_id (by omega) (by omega),Int.toNat_natCast]
  cases hcc:((gd q 0).int==(gd ((gd p 0).rows.getD k []) 0).int) <;> rfl
 ·show ixIL _ p q [gd p 0,gd q 0,.i 0,.i _,.i ((gd p 0).rows.length:Int)]=_
  rw [ixI_rd,decide_eq_false (show ¬ ((gd p 0).rows.length:Int)<(gd p 0).rows.length from by omega)]
  rfl
theorem coI_ev (p q:List D) (N:Nat):evFn Tryz.prog (find [ixIE]) N [0,1,4] Tryz.f136 rb [⟨sd (.sl 3),p⟩,⟨ri,q⟩]=some (bo,ob (decide (ixF (fun k=>(gd q 0).int==(gd ((gd p 0).rows.getD k []) 0).int) 0 (gd p 0).rows.length≥0))):=by kernel_rfl
def coIE:Ent:=(136,e2 (sd (.sl 3)) ri fun p q=>(⟨rb,[.b (hasInt (gd p 0) (gd q 0).int)]⟩,true))
theorem coI_ok:EntOk Tryz.prog coIE:=e2_ok fun p q _=>evFn_sound (N:=0) (ks:= [0,1,4]) (key:=bo) (find_ok (fC ⟨ixI_ok,fN⟩)) (enters Tryz.func136) Tryz.func136 fun _=>by
 rw [coI_ev,ixF_any]
 simp only [Nat.zero_add]
 rfl
end Go.Proofs.YtpdfmcmnjikppaaGreat
namespace Go.Proofs.YtpdfmcmnjikppaaGreat
set_option maxRecDepth 4096
def shareAt (z:D) (k:Nat):Bool:=
 inB (gd (z.rows.getD k []) 0).int 0 3&&((k==0 || !decide ((gd (z.rows.getD (k - 1) []) 0).int≥(gd (z.rows.getD k []) 0).int))&&(readsOk (gd (z.rows.getD k []) 1)&&(writesOk (gd (z.rows.getD k []) 2)&&inB (gd (z.rows.getD k []) 3).int 0 2)))
def sharesOk (z:D):Bool:=decide ((z.rows.length:Int)≤4)&&(List.range z.rows.length).all (shareAt z)
end Go.Proofs.YtpdfmcmnjikppaaGreat
namespace Go.Proofs.YtpdfmcmnjikppaaGreat
set_option maxRecDepth 4096
end Go.Proofs.YtpdfmcmnjikppaaGreat
namespace Go.Proofs.YtpdfmcmnjikppaaGreat
set_option maxRecDepth 4096
end Go.Proofs.YtpdfmcmnjikppaaGreat
namespace Go.Proofs.YtpdfmcmnjikppaaGreat
set_option maxRecDepth 4096
theorem cond_ob (c x y:Bool):(bif c then ob x else ob y)=ob (bif c then x else y):=by cases c <;> rfl
end Go.Proofs.YtpdfmcmnjikppaaGreat
namespace Go.Proofs.YtpdfmcmnjikppaaGreat
theorem int_i (n:Int):(D.i n).int=n:=rfl
theorem bool_b (n:Bool):(D.b n).bool=n:=rfl
theorem str_s (n:List UInt8):(D.s n).str=n:=rfl
theorem rows_l (n:List (List D)):(D.l n).rows=n:=rfl
theorem w64_succ {k n:Nat} (h:k<n) (hn:n≤9223372036854775807):w64 ((k:Int)+1)=((k+1:Nat):Int):=by
 rw [w64_id (by omega) (by omega)]; omega
theorem wt_at {P:Program} {xs:List Ce} {p:List D} {e:TypeId} (h:WT P ⟨.one (.agg xs),p⟩) {j:Nat} (hj:xs[j]?=some (.d (.sl e))):(gd p j).rows.length≤9223372036854775807:=by
 have h:∀ (j:Nat) c,xs[j]?=some c→WC P c (gd p j):=h
 have h:WD P (.sl e) (gd p j):=h j _ hj
 cases h with
 | sl _ _ row _ h _=>exact h
theorem for_loop {L:List D→Out} (st:Nat→List D) (n:Nat) (C:Nat→Bool) (v:List D) (j:Nat) (h1:∀ k,k<n→L (st k)=some (bif C k then (0,st (k+1)) else (1,v))) (h2:L (st n)=some (j+2,st n)) {N:Nat} (hN:n<N) :
  iter L N (st 0)=some (bif (List.range n).all C then (j+2,st n) else (1,v)):=all_loop st n C v (st n) j h1 h2 hN
def ltI (x y:Int):Bool:=decide (x<y)
def leI (x y:Int):Bool:=decide (x≤y)
theorem ltI_t {x y:Int} (h:x<y):ltI x y=true:=decide_eq_true h
theorem ltI_f {x y:Int} (h:y≤x):ltI x y=false:=decide_eq_false (by omega)
theorem leI_t {x y:Int} (h:x≤y):leI x y=true:=decide_eq_true h
theorem leI_f {x y:Int} (h:y<x):leI x y=false:=decide_eq_false (by omega)
theorem ltI_nat {k n:Nat} (h:k<n):ltI (k:Int) (n:Int)=true:=decide_eq_true (by omega)
theorem ltI_nn {n:Nat}:ltI (n:Int) (n:Int)=false:=decide_eq_false (by omega)
theorem leI_0 {n:Nat}:leI 0 (n:Int)=true:=decide_eq_true (by omega)
theorem leI_nat {k n:Nat} (h:k≤n):leI (k:Int) (n:Int)=true:=decide_eq_true (by omega)
theorem c_lt {k n:Nat} (h:k<n) {a b:Out}:(bif ltI (k:Int) (n:Int) then a else b)=a:=by rw [ltI_nat h]; rfl
theorem c_nlt {n:Nat} {a b:Out}:(bif ltI (n:Int) (n:Int) then a else b)=b:=by rw [ltI_nn]; rfl
theorem nd_true {a:Out}:nd true a=a:=rfl
theorem nd_ix {k n:Nat} (h:k<n) {a:Out}:nd (inRange (k:Int) n) a=a:=by rw [inRange_nat h]; rfl
theorem nd_take {k n:Nat} (h:k≤n) {a:Out}:nd (leI 0 0&&leI 0 (k:Int)&&leI (k:Int) (n:Int)) a=a:=by
 rw [leI_0,leI_nat h]; rfl
theorem bne_not {a b:Int}:(a != b) = !(a==b):=rfl
theorem ltI_00:ltI 0 ((0:Nat):Int)=false:=rfl
theorem ltI_0s {k:Nat}:ltI 0 ((k+1:Nat):Int)=true:=ltI_t (by omega)
theorem w64_pred {k:Nat} (h:k+1≤9223372036854775807):w64 (((k+1:Nat):Int) - 1)=(k:Int):=by rw [w64_id (by omega) (by omega)]; omega
def lenOk (l:List (List D)):Bool:=decide (l.length≤4294967296)
theorem lenOk_t {l:List (List D)} (h:l.length≤4294967296):lenOk l=true:=decide_eq_true h
theorem cond_oi (c:Bool) (x y:Int):(bif c then oi x else oi y)=oi (bif c then x else y):=by cases c <;> rfl
theorem cond_os (c:Bool) (x y:List UInt8):(bif c then (some (1,[.s x]):Out) else some (1,[.s y]))=some (1,[.s (bif c then x else y)]):=by cases c <;> rfl
theorem sameP_self (a:List (List D)):sameP a a=true:=by
 unfold sameP
 exact @decide_eq_true _ (Classical.propDecidable _) rfl
def e4 (s0 s1 s2 s3:Sh) (F:List D→List D→List D→List D→T × Bool):List T→Option (T × Bool)
 | [v0,v1,v2,v3]=>bif v0.sh==s0&&v1.sh==s1&&v2.sh==s2&&v3.sh==s3 then some (F v0.p v1.p v2.p v3.p) else none
 | _=>none
theorem e4_ok {P:Program} {f:FuncId} {s0 s1 s2 s3:Sh} {F:List D→List D→List D→List D→T × Bool} (h:∀ p0 p1 p2 p3,(F p0 p1 p2 p3).2=true→SoundFn P f [⟨s0,p0⟩,⟨s1,p1⟩,⟨s2,p2⟩,⟨s3,p3⟩] (F p0 p1 p2 p3).1):EntOk P (f,e4 s0 s1 s2 s3 F):=by
 intro args r hr0
 have hr:e4 s0 s1 s2 s3 F args=some (r,true):=hr0
 clear hr0
 unfold e4 at hr
 split at hr
 ·rename_i v0 v1 v2 v3
  cases hb:(v0.sh==s0&&v1.sh==s1&&v2.sh==s2&&v3.sh==s3) with
  | false=>rw [hb] at hr; cases hr
  | true =>
   rw [hb,cond_true,Option.some.injEq] at hr
   simp only [Bool.and_eq_true,beq_iff_eq] at hb
   obtain ⟨shv0,pv0⟩:=v0
   obtain ⟨shv1,pv1⟩:=v1
   obtain ⟨shv2,pv2⟩:=v2
   obtain ⟨shv3,pv3⟩:=v3
   obtain ⟨⟨⟨q0,q1⟩,q2⟩,q3⟩:=hb
   simp only at q0
   subst q0
   simp only at q1
   subst q1
   simp only at q2
   subst q2
   simp only at q3
   subst q3
   have hh:=h pv0 pv1 pv2 pv3
   rw [hr] at hh
   exact hh rfl
 ·cases hr
def e5 (s0 s1 s2 s3 s4:Sh) (F:List D→List D→List D→List D→List D→T × Bool):List T→Option (T × Bool)
 | [v0,v1,v2,v3,v4]=>bif v0.sh==s0&&v1.sh==s1&&v2.sh==s2&&v3.sh==s3&&v4.sh==s4 then some (F v0.p v1.p v2.p v3.p v4.p) else none
 | _=>none
theorem e5_ok {P:Program} {f:FuncId} {s0 s1 s2 s3 s4:Sh} {F:List D→List D→List D→List D→List D→T × Bool} (h:∀ p0 p1 p2 p3 p4,(F p0 p1 p2 p3 p4).2=true→SoundFn P f [⟨s0,p0⟩,⟨s1,p1⟩,⟨s2,p2⟩,⟨s3,p3⟩,⟨s4,p4⟩] (F p0 p1 p2 p3 p4).1):EntOk P (f,e5 s0 s1 s2 s3 s4 F):=by
 intro args r hr0
 have hr:e5 s0 s1 s2 s3 s4 F args=some (r,true):=hr0
 clear hr0
 unfold e5 at hr
 split at hr
 ·rename_i v0 v1 v2 v3 v4
  cases hb:(v0.sh==s0&&v1.sh==s1&&v2.sh==s2&&v3.sh==s3&&v4.sh==s4) with
  | false=>rw [hb] at hr; cases hr
  | true =>
   rw [hb,cond_true,Option.some.injEq] at hr
   simp only [Bool.and_eq_true,beq_iff_eq] at hb
   obtain ⟨shv0,pv0⟩:=v0
   obtain ⟨shv1,pv1⟩:=v1
   obtain ⟨shv2,pv2⟩:=v2
   obtain ⟨shv3,pv3⟩:=v3
   obtain ⟨shv4,pv4⟩:=v4
   obtain ⟨⟨⟨⟨q0,q1⟩,q2⟩,q3⟩,q4⟩:=hb
   simp only at q0
   subst q0
   simp only at q1
   subst q1
   simp only at q2
   subst q2
   simp only at q3
   subst q3
   simp only at q4
   subst q4
   have hh:=h pv0 pv1 pv2 pv3 pv4
   rw [hr] at hh
   exact hh rfl
 ·cases hr
theorem cnt_zero (C:Nat→Bool) (k:Nat):cnt C k 0=0:=rfl
theorem cnt_succ (C:Nat→Bool):∀ m k,cnt C k (m+1)=cnt C k m+(bif C (k+m) then 1 else 0)
 | 0,k=>by simp [cnt]
 | m+1,k=>by
  rw [cnt,cnt_succ C m (k+1),cnt,show k+1+m=k+(m+1) from by omega]
  omega
theorem anyS_take {C:List D→Bool} {z:D} {k:Nat} (h:k≤z.rows.length):anyS C (.l (z.rows.take k))=(List.range k).any fun j=>C (z.rows.getD j []):=by
 unfold anyS
 rw [rows_l,List.length_take,Nat.min_eq_left h]
 rw [Bool.eq_iff_iff]
 simp only [List.any_eq_true,List.mem_range]
 constructor
 ·rintro ⟨j,hj,h⟩
  refine ⟨j,hj,?_⟩
  rwa [List.getD_eq_getElem?_getD,List.getElem?_take_of_lt hj,← List.getD_eq_getElem?_getD] at h
 ·rintro ⟨j,hj,h⟩
  refine ⟨j,hj,?_⟩
  rwa [List.getD_eq_getElem?_getD,List.getElem?_take_of_lt hj,← List.getD_eq_getElem?_getD]
end Go.Proofs.YtpdfmcmnjikppaaGreat
