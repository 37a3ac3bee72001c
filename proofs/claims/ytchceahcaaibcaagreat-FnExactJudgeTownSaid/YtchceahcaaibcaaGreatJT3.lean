/-
 Texts of the proof,put together: part 3.
-/
import Derived.Test.YtchceahcaaibcaaGreatJT1
import Derived.Test.YtchceahcaaibcaaGreatJT2
set_option linter.unusedSimpArgs false
set_option linter.unusedVariables false
set_option linter.unusedSectionVars false
namespace Go.Proofs.YtchceahcaaibcaaGreat
open Go.RowKit
section
variable [Low] {P:Program} {w w':World} {g g':G} {base:Nat} {σ:St} {a:Act}
theorem leave_ok {o:Out} {σ:St} {kx:Nat→St→R} {key:Option Dom} {out:Nat × List D}:∀ {ids:List Nat},leave ids o σ kx=some (key,some out)→∃ j∈ids,o.code=j+2∧∃ k',kx j σ=some (k',some out)
 | [],h=>by simp [leave] at h
 | [j],h=>by
  obtain ⟨h1,h2⟩:=rneed_ok (show rneed (o.code==j+2) (kx j σ)=_ from h)
  exact ⟨j,by simp,by simpa using h1,_,h2⟩
 | j::k::r,h=>by
  obtain ⟨h1,h2⟩:=rcond_ok (show rcond (o.code==j+2) (kx j σ) (leave (k::r) o σ kx)=_ from h)
  by_cases hc:o.code=j+2
  ·obtain ⟨k',h1⟩:=h1 (by simpa using hc)
   exact ⟨j,by simp,hc,k',h1⟩
  ·obtain ⟨k',h2⟩:=h2 (by simpa using hc)
   obtain ⟨i,q1,q2,q3⟩:=leave_ok h2
   exact ⟨i,by simp at q1 ⊢; exact .inr q1,q2,q3⟩
theorem leaf_ok {d:Dom} {code:Nat} {key:Option Dom} {out:Nat × List D} (h:leaf d code σ=some (key,some out)):(restrictD d σ).dom=d∧σ.r = []∧out=(code,(restrictD d σ).flat):=by
 unfold leaf at h
 cases hc:((restrictD d σ).dom==d&&σ.r.isEmpty) with
 | false=>rw [hc] at h; cases h
 | true =>
  rw [hc] at h
  simp only [cond_true,Option.some.injEq,Prod.mk.injEq] at h
  simp only [Bool.and_eq_true,beq_iff_eq] at hc
  exact ⟨hc.1,by simpa using hc.2,h.2.symm⟩
theorem retLeaf_ok {x:Option (List D)} {key:Option Dom} {out:Nat × List D} (h:retLeaf x=some (key,some out)):∃ p,x=some p∧out=(1,p):=by
 unfold retLeaf at h
 split at h
 ·rename_i p
  simp only [Option.some.injEq,Prod.mk.injEq] at h
  exact ⟨p,rfl,h.2.symm⟩
 ·cases h
theorem stepOut_ok {r:R} {x:Nat × List D} (h:stepOut r=some x):∃ key,r=some (key,some x):=by
 unfold stepOut at h
 split at h
 ·rename_i k o
  subst h
  exact ⟨k,rfl⟩
 ·cases h
theorem joinOut_ok {rets:Bool} {ids:List Nat} {code:Nat} {pay:List D} {τ:St} {kn:St→R} {kx:Nat→St→R} {kr:Option (List D)→R} {key:Option Dom} {out:Nat × List D}
  (h:joinOut rets ids (some (code,pay)) τ kn kx kr=some (key,some out)) :
  (code=0∧∃ k,kn τ=some (k,some out))∨(code=1∧∃ k,kr (some pay)=some (k,some out))∨∃ j,code=j+2∧∃ k,kx j τ=some (k,some out):=by
 have c0:∀ {x:R} {k:Option Dom},rcond (Out.code (some (code,pay))==0) (kn τ) x=some (k,some out)→(code=0∧∃ k,kn τ=some (k,some out))∨∃ k,x=some (k,some out):=by
  intro x k h
  obtain ⟨h1,h2⟩:=rcond_ok h
  by_cases hc:code=0
  ·exact .inl ⟨hc,h1 (by simpa [Out.code] using hc)⟩
  ·exact .inr (h2 (by simpa [Out.code] using hc))
 have lv:∀ {ids:List Nat} {k:Option Dom},leave ids (some (code,pay)) τ kx=some (k,some out)→∃ j,code=j+2∧∃ k,kx j τ=some (k,some out):=by
  intro ids k h
  obtain ⟨j,_,h1,k2,h2⟩:=leave_ok h
  exact ⟨j,h1,k2,h2⟩
 unfold joinOut at h
 split at h
 ·obtain ⟨h1,h2⟩:=rneed_ok h
  exact .inl ⟨by simpa [Out.code] using h1,_,h2⟩
 ·rcases c0 h with h | ⟨k,h⟩
  ·exact .inl h
  ·obtain ⟨h1,h2⟩:=rneed_ok h
   exact .inr (.inl ⟨by simpa [Out.code] using h1,_,h2⟩)
 ·rcases c0 h with h | ⟨k,h⟩
  ·exact .inl h
  ·exact .inr (.inr (lv h))
 ·rcases c0 h with h | ⟨k,h⟩
  ·exact .inl h
  ·obtain ⟨h1,h2⟩:=rcond_ok h
   by_cases hc:code=1
   ·exact .inr (.inl ⟨hc,h1 (by simpa [Out.code] using hc)⟩)
   ·obtain ⟨k',h2⟩:=h2 (by simpa [Out.code] using hc)
    exact .inr (.inr (lv h2))
theorem gd_wideDs:∀ (cs:List Ce) (ds:List D) (i j:Nat) c,cs[j]?=some c→gd (wideDs cs ds i) j=wideD c (gd ds (i+j))
 | [],_,_,_,_,h=>by simp at h
 | c::cs,ds,i,0,c',h=>by simp at h; subst h; rfl
 | c::cs,ds,i,j+1,c',h=>by
  have:=gd_wideDs cs ds (i+1) j c' (by simpa using h)
  show gd (wideDs cs ds (i+1)) j=_
  rw [this,show i+1+j=i+(j+1) from by omega]
theorem vc_wide {c:Ce} {x:D} {v:Value} (h:VC P w g base c x v):VC P w g base (wideC c) (wideD c x) v:=by
 cases c with
 | kb b =>
  have h:v=.bool b:=h
  subst h
  exact VD.bool (.b b)
 | _=>exact h
theorem vcs_wide {cs:List Ce} {ds:List D} {arr:Array Value} (h:VCs P w g base cs ds arr):VCs P w g base (cs.map wideC) (wideDs cs ds 0) arr:=by
 refine ⟨by rw [h.1,List.length_map],fun j c hc=>?_⟩
 rw [List.getElem?_map] at hc
 obtain ⟨c0,h0,rfl⟩:=Option.map_eq_some_iff.1 hc
 obtain ⟨u,hu,hv⟩:=h.2 j c0 h0
 exact ⟨u,hu,by rw [gd_wideDs cs ds 0 j c0 h0,Nat.zero_add]; exact vc_wide hv⟩
theorem vt_wide {t:T} {v:Value} (h:VT P w g base t v):VT P w g base t.wide v:=by
 obtain ⟨sh,p⟩:=t
 match sh,h with
 | .one (.c c),h=>exact vc_wide h
 | .one (.agg cs),⟨arr,h1,h2⟩=>exact ⟨arr,h1,vcs_wide h2⟩
 | .tup xs,h=>exact h
theorem look_wide (e:Env) (j:Nat):look j (e.map fun p=>(p.1,p.2.wide))=(look j e).wide:=by
 induction e with
 | nil=>rfl
 | cons p e ih =>
  obtain ⟨i,v⟩:=p
  simp only [List.map_cons,look]
  cases (j==i) with
  | true=>rfl
  | false=>exact ih
theorem hlook_wide (h:Boxes) (j:Nat):hlook j (h.map fun p=>(p.1,p.2.1.map wideC,wideDs p.2.1 p.2.2 0))=(hlook j h).map fun p=>(p.1.map wideC,wideDs p.1 p.2 0):=by
 induction h with
 | nil=>rfl
 | cons p h ih =>
  obtain ⟨i,v⟩:=p
  simp only [List.map_cons,hlook]
  cases (j==i) with
  | true=>rfl
  | false=>exact ih
theorem len_wideDs:∀ (cs:List Ce) (ds:List D) (i:Nat),(wideDs cs ds i).length=cs.length
 | [],_,_=>rfl
 | c::cs,ds,i=>congrArg (· + 1) (len_wideDs cs ds (i+1))
theorem Rel.wide (hr:Rel P w g base σ a) (hre:σ.r = []):Rel P w g base σ.wide a:=by
 refine ⟨fun i=>?_,fun id cs ds h=>?_,hr.fresh,hr.base_le,hr.defers,hr.low⟩
 ·have:=hr.env i
  rw [hre] at this
  show VT P w g base (look2 i (σ.e.map fun p=>(p.1,p.2.wide)) σ.r) _
  rw [hre]
  show VT P w g base (look i (σ.e.map fun p=>(p.1,p.2.wide))) _
  rw [look_wide]
  exact vt_wide this
 ·have h:hlook id (σ.h.map fun p=>(p.1,p.2.1.map wideC,wideDs p.2.1 p.2.2 0))=some (cs,ds):=h
  rw [hlook_wide] at h
  obtain ⟨⟨cs0,ds0⟩,h0,h1⟩:=Option.map_eq_some_iff.1 h
  injection h1 with h1 h2
  subst h1; subst h2
  obtain ⟨q1,q2,q3,q4,arr,E,q5,q6⟩:=hr.box id cs0 ds0 h0
  exact ⟨q1,q2,q3,by rw [len_wideDs,List.length_map],arr,E,q5,vcs_wide q6⟩
theorem Rel.cut (hr:Rel P w g base σ a) (ks:List Nat):Rel P w g base (σ.cut ks) a:=by
 refine ⟨fun i=>?_,hr.box,hr.fresh,hr.base_le,hr.defers,hr.low⟩
 show VT P w g base (look2 i (dropAll (dropsOf ks) σ.e) σ.r) _
 rcases look2_dropAll i (dropsOf ks) σ.e σ.r with h | h
 ·rw [h]; exact hr.env i
 ·rw [h]; trivial
def Ends (P:Program) (base n:Nat) (w0:World) (fin:St→Option (List D)) (out:Nat × List D) (kn:St→R) (kx:Nat→St→R) (kr:Option (List D)→R) (Q:Exit→Act→World→Prop):Prop:=
 (∀ σ' w' g' a' key',kn σ'=some (key',some out)→Rel P w' g' base σ' a'→a'.tmps.size=n→Below base w0 w'→Q .normal a' w') ∧
 (∀ j σ' w' g' a' key',kx j σ'=some (key',some out)→Rel P w' g' base σ' a'→a'.tmps.size=n→Below base w0 w'→Q (.exit j) a' w') ∧
 (∀ σ' w' g' a' key',kr (fin σ')=some (key',some out)→Rel P w' g' base σ' a'→a'.tmps.size=n→Below base w0 w'→Q .ret a' w')
theorem evCode_ok {call:FuncId→List T→Option (T × Bool)} (hcall:CallOk P call) {N:Nat} {ks:List Nat} {fin:St→Option (List D)} {n:Nat} {w0:World} :
  ∀ (c:Code) (σ:St) (kn:St→R) (kx:Nat→St→R) (kr:Option (List D)→R) (key:Option Dom) (out:Nat × List D) (w:World) (g:G) (a:Act) (Q:Exit→Act→World→Prop),
   dstsOk n c=true→evCode P call N ks fin c σ kn kx kr=some (key,some out)→Rel P w g base σ a→a.tmps.size=n→Below base w0 w→Ends P base n w0 fin out kn kx kr Q→c.wp P Q a w:=by
 intro c
 induction c with
 | skip =>
  intro σ kn kx kr key out w g a Q hd h hr hn hb hE
  exact wp_skip (hE.1 σ w g a key h hr hn hb)
 | region id ops draw =>
  intro σ kn kx kr key out w g a Q hd h hr hn hb hE
  have hops:∀ o∈ops.toList,∀ d,o.dst=some d→d<n:=fun o ho d hdo=>by
   have:=List.all_eq_true.1 hd o ho
   rw [hdo] at this
   exact Nat.le_of_ble_eq_true this
  simp only [evCode] at h
  have hr:=hr.cut ks
  generalize σ.cut ks=σ at *
  cases hj:(joinsOf ks).contains (1000000+id) with
  | true =>
   rw [hj,cond_true] at h
   split at h
   ·rename_i d _ _
    split at h
    ·rename_i kk oo hev
     obtain ⟨hsome,h⟩:=rneed_ok h
     obtain ⟨⟨code,pay⟩,rfl⟩:=Option.isSome_iff_exists.1 hsome
     have at0:∀ σ' w' g' a' key',leaf d 0 (σ'.settle ks).wide=some (key',some (code,pay))→Rel P w' g' base σ' a'→a'.tmps.size=n→Below base w0 w'→Q .normal a' w':=by
      intro σ' w' g' a' key' h1 h2 h3 h4
      obtain ⟨q1,q2,q3⟩:=leaf_ok h1
      injection q3 with q3 q4
      subst q3; subst q4
      obtain ⟨g2,hg2⟩:=h2.settle ks
      have:=((hg2.wide (settle_r _ _)).restrictD q2 d).mkSt rfl
      rw [q1] at this
      exact hE.1 _ w' g2 a' key h this h3 h4
     cases draw with
     | true=>exact evDraw_ok hcall hops at0 hev hr hn hb
     | false =>
      exact wp_region_list (evOps_ok hcall at0 ops.toList σ w g a kk hops hops hev hr hn hb)
    ·cases h
   ·cases h
  | false =>
  rw [hj,cond_false] at h
  cases draw with
  | true=>exact evDraw_ok hcall hops (fun σ' w' g' a' key' h1 h2 h3 h4=>(h2.settle ks).elim fun g2 hg2=>hE.1 _ w' g2 a' key' h1 hg2 h3 h4) h hr hn hb
  | false =>
   exact wp_region_list (evOps_ok hcall (fun σ' w' g' a' key' h1 h2 h3 h4=>(h2.settle ks).elim fun g2 hg2=>hE.1 _ w' g2 a' key' h1 hg2 h3 h4) ops.toList σ w g a key hops hops h hr hn hb)
 | seq x y ihx ihy =>
  intro σ kn kx kr key out w g a Q hd h hr hn hb hE
  simp only [dstsOk,Bool.and_eq_true] at hd
  refine wp_seq (ihx σ _ kx kr key out w g a _ hd.1 h hr hn hb ⟨fun σ' w' g' a' key' h1 h2 h3 h4=>?_,fun j σ' w' g' a' key' h1 h2 h3 h4=>hE.2.1 j σ' w' g' a' key' h1 h2 h3 h4,fun σ' w' g' a' key' h1 h2 h3 h4=>hE.2.2 σ' w' g' a' key' h1 h2 h3 h4⟩)
  exact ihy σ' kn kx kr key' out w' g' a' Q hd.2 h1 h2 h3 h4 hE
 | cond c x y ihx ihy =>
  intro σ kn kx kr key out w g a Q hd h hr hn hb hE
  simp only [dstsOk,Bool.and_eq_true] at hd
  simp only [evCode] at h
  have hc:=opd_ok hr c
  split at h
  ·rename_i t hsh
   have hcv:a.eval c=.bool t:=by
    generalize opd σ c=q at *
    obtain ⟨sh,p⟩:=q
    simp only at hsh
    subst hsh
    exact hc
   cases t with
   | true=>exact wp_cond_true hcv (ihx σ kn kx kr key out w g a Q hd.1 h hr hn hb hE)
   | false=>exact wp_cond_false hcv (ihy σ kn kx kr key out w g a Q hd.2 h hr hn hb hE)
  ·rename_i hsh
   have hcv:a.eval c=.bool (gd (opd σ c).p 0).bool:=by
    generalize opd σ c=q at *
    obtain ⟨sh,p⟩:=q
    simp only at hsh
    subst hsh
    exact vd_bool hc
   obtain ⟨h1,h2⟩:=rcond_ok h
   refine wp_cond_split hcv (fun ht=>?_) (fun hf=>?_)
   ·obtain ⟨k',h1⟩:=h1 ht
    exact ihx σ kn kx kr k' out w g a Q hd.1 h1 hr hn hb hE
   ·obtain ⟨k',h2⟩:=h2 hf
    exact ihy σ kn kx kr k' out w g a Q hd.2 h2 hr hn hb hE
  ·cases h
 | block id x ih =>
  intro σ kn kx kr key out w g a Q hd h hr hn hb hE
  simp only [evCode] at h
  cases hj:(joinsOf ks).contains id with
  | true =>
   rw [hj,cond_true] at h
   split at h
   ·rename_i d _ _
    split at h
    ·rename_i kk oo hev
     obtain ⟨hsome,h⟩:=rneed_ok h
     obtain ⟨⟨code,pay⟩,rfl⟩:=Option.isSome_iff_exists.1 hsome
     have hjo:=joinOut_ok h
     have at0:∀ σ' w' g' a' key',leaf d 0 σ'=some (key',some (code,pay))→Rel P w' g' base σ' a'→a'.tmps.size=n→Below base w0 w'→Q .normal a' w':=by
      intro σ' w' g' a' key' h1 h2 h3 h4
      obtain ⟨q1,q2,q3⟩:=leaf_ok h1
      injection q3 with q3 q4
      subst q3; subst q4
      have:=(h2.restrictD q2 d).mkSt rfl
      rw [q1] at this
      rcases hjo with ⟨_,k,hk⟩ | ⟨hc,_⟩ | ⟨j,hc,_⟩
      ·exact hE.1 _ w' g' a' k hk this h3 h4
      ·omega
      ·omega
     refine wp_block (ih σ _ _ _ kk (code,pay) w g a _ hd hev hr hn hb ⟨at0,fun j σ' w' g' a' key' h1 h2 h3 h4=>?_,fun σ' w' g' a' key' h1 h2 h3 h4=>?_⟩)
     ·have h1:(bif j==id then leaf d 0 else leaf d (j+2)) σ'=some (key',some (code,pay)):=h1
      simp only [Exit.inBlock]
      by_cases e:j=id
      ·rw [if_pos e]
       rw [show (j==id)=true from by simpa using e,cond_true] at h1
       exact at0 σ' w' g' a' key' h1 h2 h3 h4
      ·rw [if_neg e]
       rw [show (j==id)=false from by simpa using e,cond_false] at h1
       obtain ⟨q1,q2,q3⟩:=leaf_ok h1
       injection q3 with q3 q4
       subst q3; subst q4
       have:=(h2.restrictD q2 d).mkSt rfl
       rw [q1] at this
       rcases hjo with ⟨hc,_⟩ | ⟨hc,_⟩ | ⟨j',hc,k,hk⟩
       ·omega
       ·omega
       ·obtain rfl:j'=j:=by omega
        exact hE.2.1 j' _ w' g' a' k hk this h3 h4
     ·obtain ⟨pp,q1,q2⟩:=retLeaf_ok h1
      injection q2 with q2 q3
      subst q2; subst q3
      rcases hjo with ⟨hc,_⟩ | ⟨_,k,hk⟩ | ⟨j',hc,_⟩
      ·omega
      ·exact hE.2.2 σ' w' g' a' k (by rw [q1]; exact hk) h2 h3 h4
      ·omega
    ·cases h
   ·cases h
  | false =>
  rw [hj,cond_false] at h
  have hr:=hr.shed ks x
  generalize σ.shed ks x=σ at *
  refine wp_block (ih σ _ _ kr key out w g a _ hd h hr hn hb ⟨fun σ' w' g' a' key' h1 h2 h3 h4=>hE.1 _ w' g' a' key' h1 (h2.restrict σ) h3 h4,fun j σ' w' g' a' key' h1 h2 h3 h4=>?_,fun σ' w' g' a' key' h1 h2 h3 h4=>hE.2.2 σ' w' g' a' key' h1 h2 h3 h4⟩)
  have h1:(bif j==id then kn (σ.restrict σ') else kx j σ')=some (key',some out):=h1
  simp only [Exit.inBlock]
  by_cases e:j=id
  ·rw [if_pos e]
   rw [show (j==id)=true from by simpa using e,cond_true] at h1
   exact hE.1 _ w' g' a' key' h1 (h2.restrict σ) h3 h4
  ·rw [if_neg e]
   rw [show (j==id)=false from by simpa using e,cond_false] at h1
   exact hE.2.1 j σ' w' g' a' key' h1 h2 h3 h4
 | loop x ih =>
  intro σ kn kx kr key out w g a Q hd h hr hn hb hE
  simp only [evCode] at h
  cases hre:σ.r.isEmpty with
  | false=>rw [hre] at h; cases h
  | true =>
   rw [hre] at h
   have hre:σ.r = []:=by simpa using hre
   simp only [Bool.not_true,cond_false] at h
   split at h
   ·rename_i heq
    obtain ⟨hsome,h⟩:=rneed_ok h
    generalize hstep:(fun p=>stepOut (evCode P call N ks fin x (mkSt σ.dom p) (leaf σ.dom 0) (fun j=>leaf σ.dom (j+2)) retLeaf))=step at *
    obtain ⟨oo,hoo⟩:=Option.isSome_iff_exists.1 hsome
    rw [hoo] at h
    obtain ⟨code,pay⟩:=oo
    -- where it ends
    have hend:(∀ j w' g' a',code=j+2→Rel P w' g' base (mkSt σ.dom pay) a'→a'.tmps.size=n→Below base w0 w'→Q (.exit j) a' w') ∧
      (∀ σ' w' g' a',code=1→fin σ'=some pay→Rel P w' g' base σ' a'→a'.tmps.size=n→Below base w0 w'→Q .ret a' w'):=by
     have hlv:∀ {k':Option Dom},leave (exitsOf x).eraseDups (some (code,pay)) (mkSt σ.dom (Out.pay (some (code,pay)))) kx=some (k',some out)→code≠1∧∀ j w' g' a',code=j+2→Rel P w' g' base (mkSt σ.dom pay) a'→a'.tmps.size=n→Below base w0 w'→Q (.exit j) a' w':=by
      intro k' hl
      obtain ⟨j,_,h1,k2,h2⟩:=leave_ok hl
      have h1:code=j+2:=h1
      refine ⟨by omega,fun j' w' g' a' hj' hr' hn' hb'=>?_⟩
      obtain rfl:j'=j:=by omega
      exact hE.2.1 j' _ w' g' a' k2 h2 hr' hn' hb'
     have hrt:∀ {k':Option Dom},kr (some pay)=some (k',some out)→∀ σ' w' g' a',code=1→fin σ'=some pay→Rel P w' g' base σ' a'→a'.tmps.size=n→Below base w0 w'→Q .ret a' w':=by
      intro k' hk σ' w' g' a' _ hf hr' hn' hb'
      exact hE.2.2 σ' w' g' a' k' (by rw [hf]; exact hk) hr' hn' hb'
     cases hh:hasRet x with
     | true =>
      rw [hh,cond_true] at h
      split at h
      ·obtain ⟨h1,h2⟩:=rneed_ok h
       have h1:code=1:=by simpa [Out.code] using h1
       exact ⟨fun j w' g' a' hj=>by omega,hrt h2⟩
      ·obtain ⟨h1,h2⟩:=rcond_ok h
       by_cases hc:code=1
       ·obtain ⟨k',h1⟩:=h1 (by simpa [Out.code] using hc)
        exact ⟨fun j w' g' a' hj=>by omega,hrt h1⟩
       ·obtain ⟨k',h2⟩:=h2 (by simpa [Out.code] using hc)
        exact ⟨(hlv h2).2,fun σ' w' g' a' h=>absurd h hc⟩
     | false =>
      rw [hh,cond_false] at h
      exact ⟨(hlv h).2,fun σ' w' g' a' h1=>absurd h1 (hlv h).1⟩
    -- the rounds
    refine wp_loop_ghost (fun m a w=>∃ p g,iter step m p=some (code,pay)∧Rel P w g base (mkSt σ.dom p) a∧a.tmps.size=n∧Below base w0 w) N ⟨σ.flat,g,hoo,hr.mkSt hre,hn,hb⟩ ?_
    rintro m a1 w1 ⟨p,g1,hit,hr1,hn1,hb1⟩
    cases m with
    | zero=>cases hit
    | succ m =>
     unfold iter at hit
     cases hs:step p with
     | none=>rw [hs] at hit; cases hit
     | some cp =>
      obtain ⟨code',pay'⟩:=cp
      rw [hs] at hit
      have hs':stepOut (evCode P call N ks fin x (mkSt σ.dom p) (leaf σ.dom 0) (fun j=>leaf σ.dom (j+2)) retLeaf)=some (code',pay'):=by rw [← hs,← hstep]
      obtain ⟨k',hev⟩:=stepOut_ok hs'
      refine ih (mkSt σ.dom p) _ _ _ k' (code',pay') w1 g1 a1 _ hd hev hr1 hn1 hb1 ⟨fun σ' w' g' a' key' h1 h2 h3 h4=>?_,fun j σ' w' g' a' key' h1 h2 h3 h4=>?_,fun σ' w' g' a' key' h1 h2 h3 h4=>?_⟩
      ·obtain ⟨q1,q2,q3⟩:=leaf_ok h1
       injection q3 with q3 q4
       subst q3; subst q4
       have:=(h2.restrictD q2 σ.dom).mkSt rfl
       rw [q1] at this
       exact ⟨m,Nat.lt_succ_self m,_,g',hit,this,h3,h4⟩
      ·obtain ⟨q1,q2,q3⟩:=leaf_ok h1
       injection q3 with q3 q4
       subst q3; subst q4
       have:=(h2.restrictD q2 σ.dom).mkSt rfl
       rw [q1] at this
       simp only [Option.some.injEq,Prod.mk.injEq] at hit
       obtain ⟨rfl,rfl⟩:=hit
       exact hend.1 j w' g' a' rfl this h3 h4
      ·obtain ⟨pp,q1,q2⟩:=retLeaf_ok h1
       injection q2 with q2 q3
       subst q2; subst q3
       simp only [Option.some.injEq,Prod.mk.injEq] at hit
       obtain ⟨rfl,rfl⟩:=hit
       exact hend.2 σ' w' g' a' rfl q1 h2 h3 h4
   ·cases h
 | exit id =>
  intro σ kn kx kr key out w g a Q hd h hr hn hb hE
  exact wp_exit (hE.2.1 id σ w g a key h hr hn hb)
 | ret =>
  intro σ kn kx kr key out w g a Q hd h hr hn hb hE
  exact wp_ret (hE.2.2 σ w g a key h hr hn hb)
 | _ =>
  intro σ kn kx kr key out w g a Q hd h hr hn hb hE
  simp only [evCode] at h
  cases h
end
end Go.Proofs.YtchceahcaaibcaaGreat
namespace Go.Proofs.YtchceahcaaibcaaGreat
open Go.RowKit
section
variable [Low] {P:Program} {w w':World} {g g':G} {base:Nat} {σ:St} {a:Act}
def VL (P:Program) (w:World) (g:G) (base:Nat):List Sh1→List D→List Value→Prop
 | [],_,[]=>True
 | x::xs,p,v::vs=>V1 P w g base x p v∧VL P w g base xs (p.drop x.size) vs
 | _,_,_=>False
theorem gd_drop (p:List D) (n i:Nat):gd (p.drop n) i=gd p (n+i):=by simp [gd,List.getD]
theorem gd_append_left {p q:List D} {i:Nat} (h:i<p.length):gd (p++q) i=gd p i:=by simp [gd,List.getD,List.getElem?_append_left h]
theorem vl_get:∀ {xs:List Sh1} {p:List D} {vs:List Value},VL P w g base xs p vs→vs.length=xs.length∧∀ (j:Nat) x,xs[j]?=some x→∃ u,vs[j]?=some u∧V1 P w g base x (sub p (offs xs j) x.size) u
 | [],p,[],h=>⟨rfl,fun j x h=>by simp at h⟩
 | [],p,v::vs,h=>h.elim
 | x::xs,p,[],h=>h.elim
 | x::xs,p,v::vs,h=>by
  obtain ⟨h1,h2⟩:=h
  obtain ⟨k1,k2⟩:=vl_get h2
  refine ⟨by simp [k1],fun j y hj=>?_⟩
  cases j with
  | zero =>
   simp only [List.getElem?_cons_zero,Option.some.injEq] at hj
   subst hj
   exact ⟨v,rfl,v1_congr (fun j hj=>by rw [gd_sub _ _ _ _ hj]; simp [offs]) h1⟩
  | succ j =>
   obtain ⟨u,q1,q2⟩:=k2 j y (by simpa using hj)
   refine ⟨u,by simpa using q1,v1_congr (fun i hi=>?_) q2⟩
   rw [gd_sub _ _ _ _ hi,gd_sub _ _ _ _ hi,gd_drop]
   congr 1
   simp only [offs,List.take_succ_cons,List.foldr_cons]
   omega
theorem load_ptr {t:TypeId} {x r:T} {u:Value} (h:evLoad P t σ x=some r) (hx:VT P w g base x u):∃ A,u=.pointer (some A):=by
 unfold evLoad at h
 split at h
 ·obtain ⟨sh,p⟩:=x
  cases sh with
  | tup xs=>cases h
  | one x=>cases x with
   | agg xs=>cases h
   | c x=>cases x with
    | ptr id off=>exact ⟨_,hx⟩
    | eptr tk e off=>cases tk with
     | none=>obtain ⟨_,_,_,_,h,_⟩:=hx; exact ⟨_,h⟩
     | some t=>obtain ⟨_,_,h,_⟩:=hx; exact ⟨_,h⟩
    | cptr cells off=>obtain ⟨_,_,h,_⟩:=hx; exact ⟨_,h⟩
    | _=>cases h
 ·cases h
def resVar (tmps:Array Value):ResultVar→Sem Value
 | .tmp t=>pure (tmps.getD t undef)
 | .cell a t=>do loadVar t (← asAddr (tmps.getD a undef))
theorem results1_ok (hr:Rel P w g base σ a):∀ {rs:List ResultVar} {shs:List Sh1} {p:List D},results1 P σ rs=some (shs,p)→∃ vs:List Value,(rs.mapM (resVar a.tmps)).run P w=.ok vs w∧VL P w g base shs p vs
 | [],shs,p,h=>by
  simp only [results1,Option.some.injEq,Prod.mk.injEq] at h
  obtain ⟨rfl,rfl⟩:=h
  exact ⟨[],by simp,trivial⟩
 | r::rs,shs,p,h=>by
  unfold results1 at h
  simp only at h
  split at h
  ·rename_i v shs0 p0 hv hrs
   obtain ⟨vs,k1,k2⟩:=results1_ok hr hrs
   have h1:∃ u,(resVar a.tmps r).run P w=.ok u w∧VT P w g base v u:=by
    cases r with
    | tmp t =>
     simp only [Option.some.injEq] at hv
     subst hv
     exact ⟨_,by simp [resVar],hr.env t⟩
    | cell x t =>
     simp only at hv
     obtain ⟨A,hA⟩:=load_ptr hv (hr.env x)
     obtain ⟨z,q1,q2⟩:=evLoad_ok hr hv (hr.env x)
     have q1:=q1 w (Below.refl _ _)
     refine ⟨z,?_,q2⟩
     rw [hA] at q1
     simp only [resVar,hA,asAddr,Sem.run_bind,Sem.run_pure,Result.andThen_ok]
     simpa only [Instr.loadAt,Instr.sureAddr,Sem.run_bind,Sem.run_pure,Result.andThen_ok] using q1
   obtain ⟨u,q1,q2⟩:=h1
   have hrun:(List.mapM (resVar a.tmps) (r::rs)).run P w=.ok (u::vs) w:=by
    rw [List.mapM_cons]
    simp only [Sem.run_bind,q1,Result.andThen_ok,k1,Sem.run_pure]
   obtain ⟨vsh,vp⟩:=v
   split at h
   ·rename_i b he
    simp only at he
    subst he
    simp only [Option.some.injEq,Prod.mk.injEq] at h
    obtain ⟨rfl,rfl⟩:=h
    refine ⟨_,hrun,?_,k2⟩
    have q2:u=.bool b:=q2
    subst q2
    exact VD.bool (.b b)
   ·rename_i x _ he
    simp only at he
    subst he
    simp only [Option.some.injEq,Prod.mk.injEq] at h
    obtain ⟨rfl,rfl⟩:=h
    refine ⟨_,hrun,v1_congr (fun j hj=>?_) q2,?_⟩
    ·rw [gd_append_left (by rw [sub_length]; exact hj),gd_sub _ _ _ _ hj,Nat.zero_add]
    ·rw [List.drop_append_of_le_length (by rw [sub_length]; exact Nat.le_refl _)]
     simpa [List.drop_eq_nil_of_le (Nat.le_of_eq (sub_length vp x.size 0))] using k2
   ·cases h
  ·cases h
def fwd (pairs:List (Tok × Tok)) (t:Tok):Option Tok:=(pairs.find? (·.1==t)).map (·.2)
def inv (pairs:List (Tok × Tok)) (t:Tok):Tok:=((pairs.find? (·.2==t)).map (·.1)).getD t
theorem find_nodup {f:Tok × Tok→Tok}:∀ {pairs:List (Tok × Tok)} {q:Tok × Tok},nodupB (pairs.map f)=true→q∈pairs→pairs.find? (fun r=>f r==f q)=some q
 | [],q,_,h=>by simp at h
 | r::rs,q,hn,h=>by
  simp only [List.map_cons,nodupB,Bool.and_eq_true] at hn
  rw [List.find?_cons]
  rcases List.mem_cons.1 h with e | e
  ·subst e; simp
  ·have hne:(f r==f q)=false:=by
    cases hq:f r==f q with
    | false=>rfl
    | true =>
     have hq:f r=f q:=by simpa using hq
     have:(rs.map f).contains (f r)=true:=List.contains_iff_mem.2 (List.mem_map.2 ⟨q,e,hq.symm⟩)
     rw [this] at hn
     exact absurd hn.1 (by decide)
   rw [hne]
   exact find_nodup hn.2 e
theorem given_append:∀ {a b c d:List Ce},a.length=c.length→given (a++b) (c++d)=given a c++given b d
 | [],b,[],d,_=>by simp [given]
 | x::a,b,y::c,d,h=>by
  have ih:=given_append (a:=a) (b:=b) (c:=c) (d:=d) (by simpa using h)
  cases x <;> cases y <;> simp [given,ih]
theorem given_get:∀ {cs rs:List Ce} {j:Nat} {t t':Tok} {x x':Bool} {e e':TypeId},cs[j]?=some (.own t x e)→rs[j]?=some (.own t' x' e')→(t,t')∈given cs rs
 | [],rs,j,_,_,_,_,_,_,h,_=>by simp at h
 | c::cs,[],j,_,_,_,_,_,_,_,h=>by simp at h
 | c::cs,r::rs,0,t,t',x,x',e,e',h,h'=>by
  simp only [List.getElem?_cons_zero,Option.some.injEq] at h h'
  subst h; subst h'
  simp [given]
 | c::cs,r::rs,j+1,t,t',x,x',e,e',h,h'=>by
  have:=given_get (cs:=cs) (rs:=rs) (j:=j) (by simpa using h) (by simpa using h')
  cases c <;> cases r <;> simp [given,this]
def giveG (g:G) (pairs:List (Tok × Tok)):G:=
 { prot:=g.prot,owner:=fun b=>match g.owner b with | some (.inr t)=>(fwd pairs t).map .inr | _=>none, θ:=g.θ,ρ:=fun t=>g.ρ (inv pairs t),len:=fun t=>g.len (inv pairs t),wid:=fun t=>g.wid (inv pairs t),ety:=fun t=>g.ety (inv pairs t),path:=g.path,need:=g.need }
theorem fitC_ok {pairs:List (Tok × Tok)} (h1:nodupB (pairs.map (·.1))=true) (h2:nodupB (pairs.map (·.2))=true) {c r:Ce} (hf:fitC c r=true) (hp:∀ t x e t' x' e',c=.own t x e→r=.own t' x' e'→(t,t')∈pairs)
  {x:D} {v:Value} (hv:VC P w g base c x v):VC P w (giveG g pairs) base r x v:=by
 cases c with
 | d s=>cases r with
  | d s' =>
   have:s=s':=by simpa [fitC] using hf
   subst this
   exact hv
  | _=>simp [fitC] at hf
 | own t xm e=>cases r with
  | own t' x' e' =>
   have hm:=hp t xm e t' x' e' rfl rfl
   have hx:xm=x'∧e=e'∧(deepT t'&&xm)=(deepT t&&xm):=by
    have hf:(xm==x'&&e==e'&&t'.1==0&&(!xm||deepT t==deepT t'))=true:=by cases xm <;> exact hf
    simp only [Bool.and_eq_true,beq_iff_eq,Bool.or_eq_true,Bool.not_eq_true'] at hf
    refine ⟨hf.1.1.1,hf.1.1.2,?_⟩
    rcases hf.2 with h | h
    ·rw [h,Bool.and_false,Bool.and_false]
    ·rw [h]
   obtain ⟨rfl,rfl,hdx⟩:=hx
   have ei:inv pairs t'=t:=by
    have:=find_nodup (f:=(·.2)) h2 hm
    simp only at this
    simp [inv,this]
   have ef:fwd pairs t=some t':=by
    have:=find_nodup (f:=(·.1)) h1 hm
    simp only at this
    simp [fwd,this]
   obtain ⟨row,hrow,hown⟩:=hv
   refine ⟨row,hrow,?_⟩
   rcases hown with ⟨k0,k1,k2⟩ | ⟨cap,arr,E,k1,k2,k3,k4,k5,k6,k7,k8,k9,k10,k11⟩
   ·exact .inl ⟨k0,by show g.len (inv pairs t')=0; rw [ei]; exact k1,k2⟩
   ·refine .inr ⟨cap,arr,E,by show v=.slice (some ⟨g.ρ (inv pairs t'),0,none⟩) _ _; rw [ei]; exact k1,k2,by show _∧_∧e=g.ety (inv pairs t'); rw [ei]; exact k3,by show base≤g.ρ (inv pairs t'); rw [ei]; exact k4,?_,by show w.heap[g.ρ (inv pairs t')]?=_; rw [ei]; exact k6,k7,by show _=g.len (inv pairs t'); rw [ei]; exact k8,by show _=g.wid (inv pairs t'); rw [ei]; exact k9,?_,fun i j s hi hs=>?_⟩
    ·show (match g.owner (g.ρ (inv pairs t')) with | some (Sum.inr t)=>(fwd pairs t).map Sum.inr | _=>none)=some (.inr t')
     rw [ei,k5]
     simp [ef]
    ·show g.prot (g.ρ (inv pairs t'))=if xm then 0 else g.len (inv pairs t')*g.wid (inv pairs t')
     rw [ei]; exact k10
    ·obtain ⟨z,z1,z2⟩:=k11 i j s hi hs
     refine ⟨z,z1,z2.mono hdx (fun b o u h1 h2=>⟨h2,h1⟩) (fun _ b o h0 ho hne hb=>⟨hb,h0,?_,?_,rfl,rfl,fun e=>e⟩)⟩
     ·show (match g.owner b with | some (Sum.inr t)=>(fwd pairs t).map Sum.inr | _=>none)=some (.inr t')
      rw [ho]
      simp [ef]
     ·show b≠g.ρ (inv pairs t')
      rw [ei]; exact hne
  | d s =>
   cases xm with
   | true=>cases s <;> simp [fitC] at hf
   | false =>
    cases s with
    | sl e' =>
     have:e=e':=by simpa [fitC] using hf
     subst this
     obtain ⟨row,hrow,hown⟩:=hv
     have:VD P w g.prot (.sl e) x v:=own_vd' hrow hown
     exact this
    | _=>simp [fitC] at hf
  | _=>cases xm <;> simp [fitC] at hf
 | _=>cases r <;> simp [fitC] at hf
theorem fitCs_get:∀ {cs rs:List Ce},fitCs cs rs=true→cs.length=rs.length∧∀ (j:Nat) r,rs[j]?=some r→∃ c,cs[j]?=some c∧fitC c r=true
 | [],[],_=>⟨rfl,fun j r h=>by simp at h⟩
 | [],r::rs,h=>by simp [fitCs] at h
 | c::cs,[],h=>by simp [fitCs] at h
 | c::cs,r::rs,h=>by
  simp only [fitCs,Bool.and_eq_true] at h
  obtain ⟨k1,k2⟩:=fitCs_get h.2
  refine ⟨by simp [k1],fun j x hj=>?_⟩
  cases j with
  | zero =>
   simp only [List.getElem?_cons_zero,Option.some.injEq] at hj
   subst hj
   exact ⟨c,rfl,h.1⟩
  | succ j =>
   obtain ⟨c0,q1,q2⟩:=k2 j x (by simpa using hj)
   exact ⟨c0,by simpa using q1,q2⟩
theorem sealC_own {ts:List Tok} {c:Ce} {t:Tok} {x:Bool} {e:TypeId} (h:sealC ts c=.own t x e):∃ x0,c=.own t x0 e:=by
 cases c with
 | own t0 x0 e0=>simp only [sealC,Ce.own.injEq] at h; obtain ⟨rfl,_,rfl⟩:=h; exact ⟨x0,rfl⟩
 | eptr t e off=>cases t <;> cases h
 | _=>cases h
theorem fit1_ok {pairs:List (Tok × Tok)} (h1:nodupB (pairs.map (·.1))=true) (h2:nodupB (pairs.map (·.2))=true) {ts:List Tok} {x y:Sh1} (hf:fit1 (x.map (sealC ts)) y=true) (hp:∀ q∈given x.ces y.ces,q∈pairs)
  {p:List D} {v:Value} (hv:V1 P w g base (x.map (sealC ts)) p v):x.size=y.size∧V1 P w (giveG g pairs) base y p v:=by
 cases x with
 | c c=>cases y with
  | c r =>
   refine ⟨rfl,fitC_ok h1 h2 hf (fun t x e t' x' e' e1 e2=>?_) hv⟩
   obtain ⟨x0,rfl⟩:=sealC_own e1
   subst e2
   exact hp _ (by simp [Sh1.ces,given])
  | agg ys=>cases hf
 | agg xs=>cases y with
  | c r=>cases hf
  | agg ys =>
   obtain ⟨k1,k2⟩:=fitCs_get (show fitCs (xs.map (sealC ts)) ys=true from hf)
   rw [List.length_map] at k1
   obtain ⟨arr,rfl,q1,q2⟩:=hv
   refine ⟨k1,arr,rfl,by rw [q1,List.length_map,k1],fun j r hj=>?_⟩
   obtain ⟨c,hc,hfc⟩:=k2 j r hj
   obtain ⟨u,hu,huv⟩:=q2 j c hc
   refine ⟨u,hu,fitC_ok h1 h2 hfc (fun t x e t' x' e' e1 e2=>?_) huv⟩
   rw [List.getElem?_map] at hc
   cases hx:xs[j]? with
   | none=>rw [hx] at hc; cases hc
   | some c0 =>
    rw [hx] at hc
    injection hc with hc
    rw [e1] at hc
    obtain ⟨x0,rfl⟩:=sealC_own hc
    subst e2
    exact hp _ (given_get hx hj)
theorem ces_length (x:Sh1):x.ces.length=x.size:=by cases x <;> rfl
theorem fit_ok {pairs:List (Tok × Tok)} (h1:nodupB (pairs.map (·.1))=true) (h2:nodupB (pairs.map (·.2))=true) {ts:List Tok}:∀ {xs ys:List Sh1},fit (xs.map (Sh1.map (sealC ts))) ys=true→(∀ q∈given (outCes xs) (outCes ys),q∈pairs) →
  ∀ {p:List D} {vs:List Value},VL P w g base (xs.map (Sh1.map (sealC ts))) p vs→VL P w (giveG g pairs) base ys p vs
 | [],[],_,_,p,vs,h=>by cases vs <;> exact h
 | [],y::ys,h,_,_,_,_=>by simp [fit] at h
 | x::xs,[],h,_,_,_,_=>by simp [fit] at h
 | x::xs,y::ys,h,hp,p,[],hv=>hv.elim
 | x::xs,y::ys,h,hp,p,v::vs,hv=>by
  simp only [List.map_cons,fit,Bool.and_eq_true] at h
  obtain ⟨hv1,hv2⟩:=hv
  have hsz:x.size=y.size:=by
   cases x with
   | c c=>cases y with
    | c r=>rfl
    | agg ys=>cases h.1
   | agg xs=>cases y with
    | c r=>cases h.1
    | agg ys =>
     have:=(fitCs_get (show fitCs (xs.map (sealC ts)) ys=true from h.1)).1
     rwa [List.length_map] at this
  have e:given (outCes (x::xs)) (outCes (y::ys))=given x.ces y.ces++given (outCes xs) (outCes ys):=by
   simp only [outCes,List.flatMap_cons]
   exact given_append (by rw [ces_length,ces_length,hsz])
  rw [e] at hp
  refine ⟨(fit1_ok h1 h2 h.1 (fun q hq=>hp q (List.mem_append.2 (.inl hq))) hv1).2,?_⟩
  have:=fit_ok h1 h2 h.2 (fun q hq=>hp q (List.mem_append.2 (.inr hq))) hv2
  rwa [Sh1.size_map,hsz] at this
theorem vl_kept {f:Ce→Ce} (hk:Kept P base g g' w w' f):∀ {xs:List Sh1} {p:List D} {vs:List Value},VL P w g base xs p vs→VL P w' g' base (xs.map (Sh1.map f)) p vs
 | [],p,vs,h=>by cases vs <;> exact h
 | x::xs,p,[],h=>h.elim
 | x::xs,p,v::vs,h=>⟨hk.v1 h.1,by rw [Sh1.size_map]; exact vl_kept hk h.2⟩
theorem finish_ok (hr:Rel P w g base σ a) {fn:Func} {rs:Sh} {p:List D} (h:finish P fn rs σ=some p) :
  ∃ v g',(results fn a.tmps).run P w=.ok v w∧VT P w g' base ⟨rs,p⟩ v∧(∀ b,b<base→g'.prot b=Low.low b)∧(∀ b,w.heap.size≤b→g'.prot b=0∧g'.owner b=none):=by
 unfold finish at h
 split at h
 ·rename_i shs p0 hres
  generalize hts:lend (outCes shs) (outCes rs.list)=ts at h
  generalize hpr:given (outCes shs) (outCes rs.list)=pairs at h
  cases hc:(fit (shs.map (Sh1.map (sealC ts))) rs.list&&nodupB (pairs.map (·.1))&&nodupB (pairs.map (·.2))&&rs.tupOk) with
  | false=>rw [hc] at h; cases h
  | true =>
   rw [hc,cond_true] at h
   injection h with h
   subst h
   simp only [Bool.and_eq_true] at hc
   obtain ⟨⟨⟨c1,c2⟩,c3⟩,c4⟩:=hc
   obtain ⟨vs,k1,k2⟩:=results1_ok hr hres
   have k3:=fit_ok c2 c3 c1 (fun q hq=>by rw [← hpr]; exact hq) (vl_kept (kept_seal g ts w) k2)
   obtain ⟨q1,q2⟩:=vl_get k3
   have hs:=hr.seal ts
   have hrun:(results fn a.tmps).run P w=.ok (if h:vs.toArray.size=1 then vs.toArray[0] else .tuple vs.toArray) w:=by
    have e:results fn a.tmps=(do let vs ← fn.results.mapM (resVar a.tmps); pure (if h:vs.size=1 then vs[0] else .tuple vs)):=by
     unfold results
     congr 1
    rw [e,Array.mapM_eq_mapM_toList]
    simp only [Sem.run_bind,Sem.run_map,k1,Result.andThen_ok,Sem.run_pure]
   refine ⟨_,giveG (sealG g ts) pairs,hrun,?_,fun b hb=>(hs.low b hb).2,fun b hb=>?_⟩
   ·cases rs with
    | one x =>
     have hl:vs.length=1:=by rw [q1]; rfl
     obtain ⟨u,hu,huv⟩:=q2 0 x rfl
     rw [dif_pos (by simpa using hl)]
     have:vs.toArray[0]'(by simp [hl])=u:=by
      have:=hu
      rw [List.getElem?_eq_getElem (by omega)] at this
      simpa using this
     rw [this]
     exact v1_congr (fun j hj=>by rw [gd_sub _ _ _ _ hj]; simp [offs]) huv
    | tup xs =>
     have hne:¬ vs.toArray.size=1:=by
      simp only [List.size_toArray,q1]
      simpa [Sh.list,Sh.tupOk] using c4
     rw [dif_neg hne]
     exact ⟨vs.toArray,rfl,by simp [q1,Sh.list],fun j x hj=>by
      obtain ⟨u,hu,huv⟩:=q2 j x hj
      exact ⟨u,by simpa using hu,huv⟩⟩
   ·have:=hs.fresh b hb
    refine ⟨this.1,?_⟩
    show (match (sealG g ts).owner b with | some (Sum.inr t)=>(fwd pairs t).map Sum.inr | _=>none)=none
    rw [this.2]
 ·cases h
theorem look_start:∀ (args:List T) (k i:Nat),look i (startAt k args)=if k≤i then (args[i - k]?).getD .any else .any
 | [],k,i=>by simp [startAt,look]
 | v::vs,k,i=>by
  simp only [startAt,look]
  by_cases e:i=k
  ·subst e; simp
  ·rw [show (i==k)=false from by simpa using e,cond_false,look_start vs (k+1) i]
   by_cases h:k≤i
   ·rw [if_pos h,if_pos (by omega),show i - k=(i - (k+1))+1 from by omega]
    simp
   ·rw [if_neg h,if_neg (by omega)]
end
inductive WD (P:Program):S→D→Prop
 | int (k:IntKind) (d:D):WD P (.int k) d
 | bool (d:D):WD P .bool d
 | str (d:D):WD P .str d
 | sl (e:TypeId) (d:D) (row:List S) (hr:rowOf P e=some row) (h1:d.rows.length≤9223372036854775807) (h2:∀ i j s,i<d.rows.length→row[j]?=some s→WD P s (gd (d.rows.getD i []) j)):WD P (.sl e) d
theorem VD.wd {P:Program} {w:World} {prot:Nat→Nat} {s:S} {x:D} {v:Value} (h:VD P w prot s x v):WD P s x:=by
 induction h with
 | int k d=>exact .int k d
 | bool d=>exact .bool d
 | str d=>exact .str d
 | sl e d A c row u hr h1 h2 h3 h4 ih=>exact .sl e d row hr (Nat.le_trans h1 h2) ih
def WC (P:Program):Ce→D→Prop
 | .d s,x=>WD P s x
 | .cptr cells _,x=>∀ (j:Nat) s,cells[j]?=some s→WD P s (gd (x.rows.getD 0 []) j)
 | _,_=>True
def WT (P:Program) (t:T):Prop:=
 match t.sh with
 | .one (.c c)=>WC P c (gd t.p 0)
 | .one (.agg xs)=>∀ (j:Nat) c,xs[j]?=some c→WC P c (gd t.p j)
 | .tup _=>True
theorem wc_of {P:Program} {w:World} {g:G} {base:Nat} {c:Ce} {x:D} {v:Value} (h:VC P w g base c x v):WC P c x:=by
 cases c with
 | d s=>exact VD.wd h
 | cptr cells off =>
  obtain ⟨b,o,_,_,h⟩:=h
  intro j s hs
  obtain ⟨u,_,h⟩:=h j s hs
  exact h.wd
 | _=>trivial
theorem wt_of {P:Program} {w:World} {g:G} {base:Nat} {t:T} {v:Value} (h:VT P w g base t v):WT P t:=by
 obtain ⟨sh,p⟩:=t
 cases sh with
 | tup xs=>trivial
 | one x=>cases x with
  | c c=>exact wc_of h
  | agg xs =>
   obtain ⟨arr,_,_,h⟩:=h
   intro j c hj
   obtain ⟨u,_,h⟩:=h j c hj
   exact wc_of h
theorem evFn_sound {P:Program} {call:FuncId→List T→Option (T × Bool)} (hcall:CallOk P call) {N:Nat} {ks:List Nat} {f:FuncId} {fn:Func} {rs:Sh} {args:List T} {key:Option Dom} {p:List D}
  (hen:∀ vs w,(callFunc f vs).run P w=.ok (.enter f vs) w) (hf:P.funcs[f]?=some fn) (h:(∀ t∈args,WT P t)→evFn P call N ks fn rs args=some (key,some (1,p))) (hisw:rs.isW=false:=by rfl):SoundFn P f args ⟨rs,p⟩:=by
 refine SoundFn.of hisw ⟨hen,fun w prot vs hargs hprot=>?_⟩
 replace h:=h fun t ht=>by
  obtain ⟨j,hj⟩:=List.getElem?_of_mem ht
  obtain ⟨u,_,h⟩:=hargs.2 j t hj
  exact wt_of h
 letI:Low:=⟨prot⟩
 unfold evFn at h
 split at h
 ·rename_i c hb
  cases hc:(dstsOk fn.ntmps c&&Nat.ble args.length fn.ntmps) with
  | false=>rw [hc] at h; cases h
  | true =>
   rw [hc,cond_true] at h
   simp only [Bool.and_eq_true] at hc
   have hle:args.length≤fn.ntmps:=Nat.le_of_ble_eq_true hc.2
   refine calls_of_wp hf hb ?_
   have hrel:Rel P w (g0 prot) w.heap.size (start args) { tmps:=vs++Array.replicate (fn.ntmps - vs.size) undef,defers:= [] }:=by
    refine ⟨fun i=>?_,fun id cs ds hl=>(by cases hl),fun b hb=>⟨hprot b hb,rfl⟩,Nat.le_refl _,rfl,fun b hb=>⟨rfl,rfl⟩⟩
    show VT P w (g0 prot) w.heap.size (look i (startAt 0 args)) _
    rw [look_start,if_pos (Nat.zero_le _),Nat.sub_zero]
    cases ht:args[i]? with
    | none=>trivial
    | some t =>
     obtain ⟨u,hu,huv⟩:=hargs.2 i t ht
     have hi:i<vs.size:=(Array.getElem?_eq_some_iff.1 hu).1
     have:(vs++Array.replicate (fn.ntmps - vs.size) undef).getD i undef=u:=by
      rw [Array.getD_eq_getD_getElem?,Array.getElem?_append_left hi,hu]; rfl
     rw [this]
     exact huv
   have hn:(vs++Array.replicate (fn.ntmps - vs.size) undef).size=fn.ntmps:=by
    have:=hargs.1
    simp; omega
   have hfin:∀ (a':Act) (w':World) (σ':St) (g':G) (key':Option Dom),retLeaf (finish P fn rs σ')=some (key',some (1,p))→Rel P w' g' w.heap.size σ' a'→Below w.heap.size w w'→a'.defers = []∧∃ v,(results fn a'.tmps).run P w'=.ok v w'∧∃ v' g',Ending.returned v=.returned v'∧Res P prot w w' ⟨rs,p⟩ v' g':=by
    intro a' w' σ' g' key' h1 h2 h3
    obtain ⟨p',k1,k2⟩:=retLeaf_ok h1
    injection k2 with _ k2
    subst k2
    obtain ⟨v,g2,q1,q2,q3,q4⟩:=finish_ok h2 k1
    exact ⟨h2.defers,v,q1,v,g2,rfl,h3,q2,q3,q4⟩
   exact evCode_ok hcall c (start args) _ _ _ key (1,p) w (g0 prot) _ _ hc.1 h hrel hn (Below.refl _ _)
    ⟨fun σ' w' g' a' key' h1 h2 h3 h4=>hfin a' w' σ' g' key' h1 h2 h4,fun j σ' w' g' a' key' h1=>(by cases h1),fun σ' w' g' a' key' h1 h2 h3 h4=>hfin a' w' σ' g' key' h1 h2 h4⟩
 ·cases h
end Go.Proofs.YtchceahcaaibcaaGreat
namespace Go.Proofs.YtchceahcaaibcaaGreat
def scan (ex:Nat→Option (Nat × List D)):Nat→Nat→Option (Nat × List D)
 | _,0=>none
 | k,m+1=>match ex k with
  | some o=>some o
  | none=>scan ex (k+1) m
theorem iter_scan {step:List D→Out} (st:Nat→List D) (ex:Nat→Option (Nat × List D)) (fin:Nat × List D) {n:Nat}
  (h1:∀ k,k<n→step (st k)=some ((ex k).getD (0,st (k+1)))) (hex:∀ k o,ex k=some o→o.1≠0) (h2:step (st n)=some fin) (hf:fin.1≠0) :
  ∀ (m k N:Nat),k+m=n→m<N→iter step N (st k)=some ((scan ex k m).getD fin):=by
 intro m
 induction m with
 | zero =>
  intro k N hk hN
  obtain ⟨N,rfl⟩:∃ N',N=N'+1:=⟨N - 1,by omega⟩
  obtain rfl:k=n:=by omega
  obtain ⟨c,pay⟩:=fin
  rw [iter,h2]
  cases c with
  | zero=>exact absurd rfl hf
  | succ c=>rfl
 | succ m ih =>
  intro k N hk hN
  obtain ⟨N,rfl⟩:∃ N',N=N'+1:=⟨N - 1,by omega⟩
  rw [iter,h1 k (by omega),scan]
  cases he:ex k with
  | none=>simp only [Option.getD_none]; exact ih (k+1) N (by omega) (by omega)
  | some o =>
   obtain ⟨c,pay⟩:=o
   have:=hex k _ he
   cases c with
   | zero=>exact absurd rfl this
   | succ c=>rfl
theorem enters {P:Program} {f:FuncId} {fn:Func} (hf:P.funcs[f]?=some fn) (hname:(fn.name == "runtime.NumGoroutine")=false:=by kernel_rfl) (hb:fn.body.isNone=false:=by kernel_rfl) (vs:Array Value) (w:World):(callFunc f vs).run P w=.ok (.enter f vs) w:=by
 unfold callFunc
 simp only [Sem.run_bind,run_program,Result.andThen_ok,hf,hname,hb,Bool.false_eq_true,if_false,Sem.run_pure]
theorem fC {α:Type} {p:α→Prop} {a:α} {l:List α} (h:p a∧∀ x∈l,p x):∀ x∈a::l,p x:=List.forall_mem_cons.2 h
theorem fN {α:Type} {p:α→Prop}:∀ x∈([]:List α),p x:=List.forall_mem_nil p
abbrev Ent:=FuncId × (List T→Option (T × Bool))
def find:List Ent→FuncId→List T→Option (T × Bool)
 | [],_,_=>none
 | e::r,f,args=>bif Nat.beq e.1 f then e.2 args else find r f args
def EntOk (P:Program) (e:Ent):Prop:=∀ args r,e.2 args=some (r,true)→SoundFn P e.1 args r
theorem find_ok {P:Program}:∀ {l:List Ent},(∀ e∈l,EntOk P e)→CallOk P (find l)
 | [],_,f,args,r,h=>by cases h
 | e::l,hl,f,args,r,h=>by
  unfold find at h
  cases hb:Nat.beq e.1 f with
  | false =>
   rw [hb,cond_false] at h
   exact find_ok (fun e' he'=>hl e' (by simp [he'])) f args r h
  | true =>
   rw [hb,cond_true] at h
   obtain rfl:=Nat.eq_of_beq_eq_true hb
   exact hl e (by simp) args r h
def e1 (s:Sh) (F:List D→T × Bool):List T→Option (T × Bool)
 | [v]=>bif v.sh==s then some (F v.p) else none
 | _=>none
def e2 (s s':Sh) (F:List D→List D→T × Bool):List T→Option (T × Bool)
 | [v,u]=>bif v.sh==s&&u.sh==s' then some (F v.p u.p) else none
 | _=>none
theorem e1_ok {P:Program} {f:FuncId} {s:Sh} {F:List D→T × Bool} (h:∀ p,(F p).2=true→SoundFn P f [⟨s,p⟩] (F p).1):EntOk P (f,e1 s F):=by
 intro args r hr
 match args,hr with
 | [],hr=>cases hr
 | [⟨sh,p⟩],hr =>
  have hq:(bif sh==s then some (F p) else none)=some (r,true):=hr
  cases hb:(sh==s) with
  | false=>rw [hb] at hq; cases hq
  | true =>
   rw [hb] at hq
   simp only [cond_true,Option.some.injEq] at hq
   have e:sh=s:=by simpa using hb
   subst e
   have:=h p
   rw [hq] at this
   exact this rfl
 | _::_::_,hr=>cases hr
theorem e2_ok {P:Program} {f:FuncId} {s s':Sh} {F:List D→List D→T × Bool} (h:∀ p q,(F p q).2=true→SoundFn P f [⟨s,p⟩,⟨s',q⟩] (F p q).1):EntOk P (f,e2 s s' F):=by
 intro args r hr
 match args,hr with
 | [],hr=>cases hr
 | [_],hr=>cases hr
 | [⟨sh,p⟩,⟨sh',q⟩],hr =>
  have hq:(bif sh==s&&sh'==s' then some (F p q) else none)=some (r,true):=hr
  cases hb:(sh==s&&sh'==s') with
  | false=>rw [hb] at hq; cases hq
  | true =>
   rw [hb] at hq
   simp only [cond_true,Option.some.injEq] at hq
   simp only [Bool.and_eq_true,beq_iff_eq] at hb
   obtain ⟨rfl,rfl⟩:=hb
   have:=h p q
   rw [hq] at this
   exact this rfl
 | _::_::_::_,hr=>cases hr
end Go.Proofs.YtchceahcaaibcaaGreat
namespace Go.Proofs.YtchceahcaaibcaaGreat
abbrev bo:Option Dom:=none
abbrev sd (s:S):Sh:=.one (.c (.d s))
abbrev si:S:=.int .i64
abbrev rb:Sh:=sd .bool
abbrev ri:Sh:=sd si
abbrev ag (l:List S):Sh:=.one (.agg (l.map .d))
abbrev ob (x:Bool):Out:=some (1,[.b x])
abbrev oi (x:Int):Out:=some (1,[.i x])
abbrev ex (j:Nat) (p:List D):Out:=some (j+2,p)
abbrev nx (p:List D):Out:=some (0,p)
def nd (c:Bool) (o:Out):Out:=bif c then o else none
abbrev w64 (x:Int):Int:=IntKind.i64.wrap x
theorem w64_id {x:Int} (h : -9223372036854775808≤x) (h':x≤9223372036854775807):w64 x=x:=by
 simp only [w64,IntKind.wrap,IntKind.signed,IntKind.bits]
 simp
 omega
theorem inRange_nat {k len:Nat} (h:k<len):inRange (k:Int) len=true:=by
 simp only [inRange,Bool.and_eq_true,decide_eq_true_eq]; omega
theorem fill_loop {L:List D→Out} {z x2:D} {f:List D→List D} {ok:List D→Bool} (z0:List D) (hlen:z.rows.length≤9223372036854775807) (hok:∀ r∈z.rows,ok r=true)
  (hrd:∀ (rows:List (List D)) (k:Int),L [z,x2,.l rows,.i k]=bif decide (k<z.rows.length) then nd (inRange k z.rows.length) (nd (ok (z.rows.getD k.toNat [])) (nd (inRange k rows.length) (nx [z,x2,.l (rows.set k.toNat (f (z.rows.getD k.toNat []))),.i (w64 (k+1))]))) else ex 0 [z,x2,.l rows,.i k])
  {N:Nat} (hN:z.rows.length<N):iter L N [z,x2,.l (List.replicate z.rows.length z0),.i 0]=some (2,[z,x2,.l (z.rows.map f),.i z.rows.length]):=by
 let st:Nat→List D:=fun k => [z,x2,.l ((z.rows.take k).map f++List.replicate (z.rows.length - k) z0),.i (k:Int)]
 have hset:∀ k,(h:k<z.rows.length)→((z.rows.take k).map f++List.replicate (z.rows.length - k) z0).set k (f (z.rows.getD k []))=(z.rows.take (k+1)).map f++List.replicate (z.rows.length - (k+1)) z0:=fun k h=>by
  have hl:((z.rows.take k).map f).length=k:=by simp; omega
  rw [List.set_append_right _ _ (by omega),hl,Nat.sub_self]
  obtain ⟨m,hm⟩:∃ m,z.rows.length - k=m+1:=⟨z.rows.length - k - 1,by omega⟩
  rw [hm,show z.rows.length - (k+1)=m from by omega,List.replicate_succ,List.set_cons_zero,List.take_succ_eq_append_getElem h,List.map_append,List.append_assoc]
  simp only [List.getD_eq_getElem?_getD,List.getElem?_eq_getElem h,Option.getD_some,List.map_cons,List.map_nil,List.singleton_append]
 have:=iter_scan (step:=L) st (fun _=>none) (2,st z.rows.length) (n:=z.rows.length) (fun k hk=>?_) (fun _ _ h=>by cases h) ?_ (by simp) z.rows.length 0 N (by omega) hN
 ·have e0:st 0 = [z,x2,.l (List.replicate z.rows.length z0),.i 0]:=by simp [st]
  rw [e0] at this
  rw [this]
  have:∀ m k,scan (fun _=>none) k m=none:=by
   intro m
   induction m with
   | zero=>intro k; rfl
   | succ m ih=>intro k; exact ih _
  rw [this]
  simp only [st,Option.getD_none,Nat.sub_self,List.replicate_zero,List.append_nil,List.take_length]
 ·have hlen2:((z.rows.take k).map f++List.replicate (z.rows.length - k) z0).length=z.rows.length:=by simp; omega
  have hmem:z.rows.getD k []∈z.rows:=by
   rw [List.getD_eq_getElem?_getD,List.getElem?_eq_getElem hk]
   exact List.getElem_mem hk
  show L [z,x2,.l ((z.rows.take k).map f++List.replicate (z.rows.length - k) z0),.i (k:Int)]=_
  rw [hrd]
  rw [show decide ((k:Int)<z.rows.length)=true from by simpa using hk,cond_true,inRange_nat hk,hlen2,inRange_nat hk,show ((k:Int)).toNat=k from rfl,hok _ hmem,w64_id (by omega) (by omega),hset k hk]
  rfl
 ·show L [z,x2,.l _,.i (z.rows.length:Int)]=_
  rw [hrd,show decide ((z.rows.length:Int)<z.rows.length)=false from by simp,cond_false]
def alikeS (E:List D→List D→Bool) (z u:D):Bool:=(z.rows.length==u.rows.length)&&(List.range z.rows.length).all fun k=>E (z.rows.getD k []) (u.rows.getD k [])
theorem alikeS_refl {E:List D→List D→Bool} (h:∀ r,E r r=true) (z:D):alikeS E z z=true:=by
 simp [alikeS,h]
theorem scan_find {ex:Nat→Option (Nat × List D)} {o:Nat × List D} {C:Nat→Bool} (h:∀ k,ex k=if C k then none else some o):∀ (m k:Nat),scan ex k m=if (List.range m).all (fun j=>C (k+j)) then none else some o
 | 0,k=>by simp [scan]
 | m+1,k=>by
  rw [scan,h]
  by_cases hc:C k=true
  ·rw [if_pos hc]
   simp only
   rw [scan_find h m (k+1),List.range_succ_eq_map,List.all_cons,List.all_map]
   simp only [Nat.add_zero,hc,Bool.true_and]
   congr 2
   congr 1
   funext j
   simp only [Function.comp]
   congr 1
   omega
  ·rw [if_neg hc]
   simp [List.range_succ_eq_map,hc]
theorem like_loop {L:List D→Out} {z u x y:D} {E:List D→List D→Bool} (hlen:z.rows.length≤9223372036854775807) (hu:z.rows.length=u.rows.length)
  (hrd:∀ k:Int,L [z,u,x,y,.i k]=bif decide (k<z.rows.length) then nd (inRange k z.rows.length) (nd (inRange k u.rows.length) (bif !E (z.rows.getD k.toNat []) (u.rows.getD k.toNat []) then ob false else nx [z,u,x,y,.i (w64 (k+1))])) else ex 0 [z,u,x,y,.i k])
  {N:Nat} (hN:z.rows.length<N):iter L N [z,u,x,y,.i 0]=some (if alikeS E z u then (2,[z,u,x,y,.i z.rows.length]) else (1,[.b false])):=by
 have:=iter_scan (step:=L) (fun k => [z,u,x,y,.i (k:Int)]) (fun k=>if E (z.rows.getD k []) (u.rows.getD k []) then none else some (1,[.b false])) (2,[z,u,x,y,.i z.rows.length]) (n:=z.rows.length) (fun k hk=>?_) (fun k o h=>?_) ?_ (by simp) z.rows.length 0 N (by omega) hN
 ·simp only [Int.natCast_zero] at this
  rw [this,scan_find (o:=(1,[.b false])) (C:=fun k=>E (z.rows.getD k []) (u.rows.getD k [])) (fun k=>rfl)]
  simp only [Nat.zero_add,alikeS,← hu,beq_self_eq_true,Bool.true_and]
  split <;> rfl
 ·show L [z,u,x,y,.i (k:Int)]=_
  rw [hrd,show decide ((k:Int)<z.rows.length)=true from by simpa using hk,cond_true,inRange_nat hk,inRange_nat (by omega),show ((k:Int)).toNat=k from rfl,w64_id (by omega) (by omega)]
  cases E (z.rows.getD k []) (u.rows.getD k []) <;> rfl
 ·split at h
  ·cases h
  ·injection h with h; rw [← h]; simp
 ·show L [z,u,x,y,.i (z.rows.length:Int)]=_
  rw [hrd,show decide ((z.rows.length:Int)<z.rows.length)=false from by simp,cond_false]
def left (s:Nat) (n:Int):Int:=if (s:Int)≤n then n - s else -1
def fair (n:Int):Bool:=decide (0≤n)&&decide (n≤1048576)
def total (size:List D→Nat) (rows:List (List D)):Nat:=(rows.map size).sum
theorem size_loop {L:List D→Out} {z x y:D} {size:List D→Nat} (hlen:z.rows.length≤9223372036854775807)
  (hrd:∀ n k:Int,L [z,.i n,x,y,.i k]=bif decide (k<z.rows.length) then nd (inRange k z.rows.length) (nd (fair n) (bif decide (left (size (z.rows.getD k.toNat [])) n<0) then oi (-1) else nx [z,.i (left (size (z.rows.getD k.toNat [])) n),x,y,.i (w64 (k+1))])) else ex 0 [z,.i n,x,y,.i k]) :
  ∀ (m k N:Nat) (n:Int),k+m=z.rows.length→m<N→0≤n→n≤1048576→iter L N [z,.i n,x,y,.i k]=some (if (total size (z.rows.drop k):Int)≤n then (2,[z,.i (n - total size (z.rows.drop k)),x,y,.i z.rows.length]) else (1,[.i (-1)])):=by
 intro m
 induction m with
 | zero =>
  intro k N n hk hN h0 h1
  obtain ⟨N,rfl⟩:∃ N',N=N'+1:=⟨N - 1,by omega⟩
  have hk:k=z.rows.length:=by omega
  subst hk
  rw [iter,hrd,show decide ((z.rows.length:Int)<z.rows.length)=false from by simp,cond_false]
  simp [total,h0]
 | succ m ih =>
  intro k N n hk hN h0 h1
  obtain ⟨N,rfl⟩:∃ N',N=N'+1:=⟨N - 1,by omega⟩
  have hlt:k<z.rows.length:=by omega
  have hd:z.rows.drop k=z.rows.getD k []::z.rows.drop (k+1):=by
   rw [List.drop_eq_getElem_cons hlt,List.getD_eq_getElem?_getD,List.getElem?_eq_getElem hlt]; rfl
  have ht:total size (z.rows.drop k)=size (z.rows.getD k [])+total size (z.rows.drop (k+1)):=by rw [hd]; simp [total]
  rw [iter,hrd,show decide ((k:Int)<z.rows.length)=true from by simpa using hlt,cond_true,inRange_nat hlt,show fair n=true from by simp [fair,h0,h1],show ((k:Int)).toNat=k from rfl,w64_id (by omega) (by omega)]
  by_cases hs:(size (z.rows.getD k []):Int)≤n
  ·have hl:left (size (z.rows.getD k [])) n=n - size (z.rows.getD k []):=if_pos hs
   rw [hl,show decide (n - (size (z.rows.getD k []):Int)<0)=false from decide_eq_false (by omega),cond_false]
   have:=ih (k+1) N (n - size (z.rows.getD k [])) (by omega) (by omega) (by omega) (by omega)
   simp only [nd,cond_true]
   rw [show ((k:Int)+1)=((k+1:Nat):Int) from by simp,this,ht]
   congr 1
   by_cases hq:((size (z.rows.getD k [])+total size (z.rows.drop (k+1)):Nat):Int)≤n
   ·rw [if_pos hq,if_pos (by push_cast at hq; omega),show n - (size (z.rows.getD k []):Int) - (total size (z.rows.drop (k+1)):Int)=n - ((size (z.rows.getD k [])+total size (z.rows.drop (k+1)):Nat):Int) from by push_cast; omega]
   ·rw [if_neg hq,if_neg (by push_cast at hq; omega)]
  ·have hl:left (size (z.rows.getD k [])) n = -1:=if_neg hs
   rw [hl,ht,if_neg (by push_cast; omega)]
   rfl
theorem all_loop {L:List D→Out} (st:Nat→List D) (n:Nat) (C:Nat→Bool) (v fin:List D) (j:Nat) (h1:∀ k,k<n→L (st k)=some (bif C k then (0,st (k+1)) else (1,v))) (h2:L (st n)=some (j+2,fin)) {N:Nat} (hN:n<N) :
  iter L N (st 0)=some (bif (List.range n).all C then (j+2,fin) else (1,v)):=by
 have:=iter_scan (step:=L) st (fun k=>if C k then none else some (1,v)) (j+2,fin) (n:=n) (fun k hk=>?_) (fun k o h=>?_) h2 (by simp) n 0 N (by omega) hN
 ·rw [this,scan_find (o:=(1,v)) (C:=C) (fun k=>rfl)]
  simp only [Nat.zero_add]
  have e:(fun j=>C j)=C:=rfl
  rw [e]
  cases (List.range n).all C <;> rfl
 ·rw [h1 k hk]
  cases C k <;> rfl
 ·split at h
  ·cases h
  ·injection h with h; rw [← h]; simp
def e3 (s s' s'':Sh) (F:List D→List D→List D→T × Bool):List T→Option (T × Bool)
 | [v,u,t]=>bif v.sh==s&&(u.sh==s'&&t.sh==s'') then some (F v.p u.p t.p) else none
 | _=>none
theorem e3_ok {P:Program} {f:FuncId} {s s' s'':Sh} {F:List D→List D→List D→T × Bool} (h:∀ p q r,(F p q r).2=true→SoundFn P f [⟨s,p⟩,⟨s',q⟩,⟨s'',r⟩] (F p q r).1):EntOk P (f,e3 s s' s'' F):=by
 intro args r hr
 match args,hr with
 | [],hr=>cases hr
 | [_],hr=>cases hr
 | [_,_],hr=>cases hr
 | [⟨sh,p⟩,⟨sh',q⟩,⟨sh'',o⟩],hr =>
  have hq:(bif sh==s&&(sh'==s'&&sh''==s'') then some (F p q o) else none)=some (r,true):=hr
  cases hb:(sh==s&&(sh'==s'&&sh''==s'')) with
  | false=>rw [hb] at hq; cases hq
  | true =>
   rw [hb] at hq
   simp only [cond_true,Option.some.injEq] at hq
   simp only [Bool.and_eq_true,beq_iff_eq] at hb
   obtain ⟨rfl,rfl,rfl⟩:=hb
   have:=h p q o
   rw [hq] at this
   exact this rfl
 | _::_::_::_::_,hr=>cases hr
end Go.Proofs.YtchceahcaaibcaaGreat
namespace Go.Proofs.YtchceahcaaibcaaGreat
set_option maxRecDepth 4096
theorem ne_step (c x:Bool):(bif !c then ob false else ob x)=ob (c&&x):=by cases c <;> rfl
theorem wt_sl {P:Program} {e:TypeId} {p:List D} (h:WT P ⟨sd (.sl e),p⟩):(gd p 0).rows.length≤9223372036854775807:=by
 have h:WD P (.sl e) (gd p 0):=h
 cases h with
 | sl _ _ row _ h _=>exact h
theorem left_left (a b:Nat) (n:Int):(if left a n<0 then -1 else left b (left a n))=left (a+b) n:=by
 unfold left
 repeat' split
 all_goals first | rfl | omega | (push_cast at *; omega)
theorem left_neg (a:Nat) (n:Int):(if left a n<0 then -1 else left a n)=left a n:=by
 unfold left
 repeat' split
 all_goals first | omega | rfl
theorem left_sub (a:Nat) (n:Int):(if n - (a:Int)<0 then -1 else n - (a:Int))=left a n:=by
 unfold left
 repeat' split
 all_goals first | rfl | omega
theorem fair_left {a:Nat} {n:Int} (h:fair n=true) (h':¬ left a n<0):fair (left a n)=true:=by
 simp only [fair,Bool.and_eq_true,decide_eq_true_eq,left] at *
 split at h' <;> simp_all <;> omega
theorem oi_if (c:Prop) [Decidable c] (x y:Int):(bif decide c then oi x else oi y)=oi (if c then x else y):=by
 by_cases h:c <;> simp [h]
def cpInt (r:List D):List D:= [gd r 0]
def okInt (_:List D):Bool:=true
def eqInt (p q:List D):Bool:=(gd p 0).int==(gd q 0).int
def cpIntS (z:D):D:=.l (z.rows.map fun r=>cpInt r)
def okIntS (z:D):Bool:=decide (z.rows.length≤4294967296)&&z.rows.all fun r=>okInt r
noncomputable def toIntSL (N:Nat) (p:List D):List D→Out:=loopOf Tryz.prog (find []) N [0,2,3,4,11] Tryz.f151 (sd (.sl 3)) [⟨sd (.sl 3),p⟩] 0
theorem toIntS_rd (p:List D) (N:Nat) (z x2:D) (rows:List (List D)) (k:Int):toIntSL N p [z,x2,.l rows,.i k]=bif decide (k<z.rows.length) then nd (inRange k z.rows.length) (nd (okInt (z.rows.getD k.toNat [])) (nd (inRange k rows.length) (nx [z,x2,.l (rows.set k.toNat (cpInt (z.rows.getD k.toNat []))),.i (w64 (k+1))]))) else ex 0 [z,x2,.l rows,.i k]:=by kernel_rfl
theorem toIntS_ev (p:List D) (N:Nat):evFn Tryz.prog (find []) N [0,2,3,4,11] Tryz.f151 (sd (.sl 3)) [⟨sd (.sl 3),p⟩]=some (bo,nd (decide (0≤((gd p 0).rows.length:Int))&&decide (((gd p 0).rows.length:Int)=((gd p 0).rows.length:Int))&&decide (((gd p 0).rows.length:Int)≤4294967296)&&true&&true)
  (let o:=iter (toIntSL N p) N [gd p 0,.l [],.l (List.replicate (gd p 0).rows.length [.i 0]),.i 0]
   nd o.isSome (nd (o.code==2) (some (1,[gd o.pay 2]))))):=by kernel_rfl
def toIntSE:Ent:=(151,e1 (sd (.sl 3)) fun p=>(⟨sd (.sl 3),[cpIntS (gd p 0)]⟩,okIntS (gd p 0)))
theorem toIntS_ok:EntOk Tryz.prog toIntSE:=e1_ok fun p h=>evFn_sound (N:=(gd p 0).rows.length+1) (ks:= [0,2,3,4,11]) (key:=bo) (find_ok (fN)) (enters Tryz.func151) Tryz.func151 fun hw=>by
 have h:okIntS (gd p 0)=true:=h
 simp only [okIntS,Bool.and_eq_true,decide_eq_true_eq,List.all_eq_true] at h
 rw [toIntS_ev,fill_loop (ok:=fun r=>okInt r) (f:=fun r=>cpInt r) [.i 0] (wt_sl (hw ⟨sd (.sl 3),p⟩ (by simp))) h.2 (toIntS_rd p _ _ _) (by omega)]
 rw [show decide (((gd p 0).rows.length:Int)≤4294967296)=true from decide_eq_true (by omega),show decide (0≤((gd p 0).rows.length:Int))=true from decide_eq_true (by omega),decide_eq_true (rfl:((gd p 0).rows.length:Int)=_)]
 rfl
def eqIntS:D→D→Bool:=alikeS (fun r s=>eqInt r s)
noncomputable def eqIntSL (N:Nat) (p q:List D):List D→Out:=loopOf Tryz.prog (find []) N [0,1,4,5,10,14,25] Tryz.f32 rb [⟨sd (.sl 3),p⟩,⟨sd (.sl 3),q⟩] 0
theorem eqIntS_rd (p q:List D) (N:Nat) (z u x y:D) (k:Int):eqIntSL N p q [z,u,x,y,.i k]=bif decide (k<z.rows.length) then nd (inRange k z.rows.length) (nd (inRange k u.rows.length) (bif !(eqInt (z.rows.getD k.toNat []) (u.rows.getD k.toNat [])) then ob false else nx [z,u,x,y,.i (w64 (k+1))])) else ex 0 [z,u,x,y,.i k]:=by kernel_rfl
theorem eqIntS_ev (p q:List D) (N:Nat):evFn Tryz.prog (find []) N [0,1,4,5,10,14,25] Tryz.f32 rb [⟨sd (.sl 3),p⟩,⟨sd (.sl 3),q⟩]=some (bo,bif !(((gd p 0).rows.length:Int)==(gd q 0).rows.length) then ob false else
  (let o:=iter (eqIntSL N p q) N [gd p 0,gd q 0,D0,.b (!(((gd p 0).rows.length:Int)==(gd q 0).rows.length)),.i 0]
   nd o.isSome (bif o.code==1 then some (1,o.pay) else nd (o.code==2) (ob true)))):=by kernel_rfl
def eqIntSE:Ent:=(32,e2 (sd (.sl 3)) (sd (.sl 3)) fun p q=>(⟨rb,[.b (eqIntS (gd p 0) (gd q 0))]⟩,true))
theorem eqIntS_ok:EntOk Tryz.prog eqIntSE:=e2_ok fun p q _=>evFn_sound (N:=(gd p 0).rows.length+1) (ks:= [0,1,4,5,10,14,25]) (key:=bo) (find_ok (fN)) (enters Tryz.func32) Tryz.func32 fun hw=>by
 rw [eqIntS_ev]
 by_cases hl:(gd p 0).rows.length=(gd q 0).rows.length
 ·rw [like_loop (E:=(fun r s=>eqInt r s)) (wt_sl (hw ⟨sd (.sl 3),p⟩ (by simp))) hl (eqIntS_rd p q _ _ _ _ _) (by omega)]
  rw [show ((((gd p 0).rows.length:Int))==(gd q 0).rows.length)=true from beq_iff_eq.2 (by omega)]
  show some (bo,_)=some (bo,some (1,[D.b (alikeS (fun r s=>eqInt r s) (gd p 0) (gd q 0))]))
  cases alikeS (fun r s=>eqInt r s) (gd p 0) (gd q 0) <;> rfl
 ·rw [show ((((gd p 0).rows.length:Int))==(gd q 0).rows.length)=false from beq_eq_false_iff_ne.2 (by omega)]
  show some (bo,_)=some (bo,some (1,[D.b (alikeS (fun r s=>eqInt r s) (gd p 0) (gd q 0))]))
  rw [show alikeS (fun r s=>eqInt r s) (gd p 0) (gd q 0)=false from by simp [alikeS,hl]]
  rfl
theorem eqIntS_refl (z:D):eqIntS z z=true:=alikeS_refl (fun r=>by simp [eqInt]) z
def sizeIntS (z:D):Nat:=z.rows.length
theorem szIntS_ev (p q:List D) (N:Nat):evFn Tryz.prog (find []) N [0,1,4,10] Tryz.f122 ri [⟨sd (.sl 3),p⟩,⟨ri,q⟩]=some (bo,bif decide (w64 ((gd q 0).int - (gd p 0).rows.length)<0) then oi (-1) else oi (w64 ((gd q 0).int - (gd p 0).rows.length))):=by kernel_rfl
def szIntSE:Ent:=(122,e2 (sd (.sl 3)) ri fun p q=>(⟨ri,[.i (left (sizeIntS (gd p 0)) (gd q 0).int)]⟩,fair (gd q 0).int))
theorem szIntS_ok:EntOk Tryz.prog szIntSE:=e2_ok fun p q h=>evFn_sound (N:=(gd p 0).rows.length+1) (ks:= [0,1,4,10]) (key:=bo) (find_ok (fN)) (enters Tryz.func122) Tryz.func122 fun hw=>by
 have h:fair (gd q 0).int=true:=h
 have hl:=wt_sl (hw ⟨sd (.sl 3),p⟩ (by simp))
 have h2:0≤(gd q 0).int∧(gd q 0).int≤1048576:=by simpa [fair] using h
 rw [szIntS_ev,w64_id (by omega) (by omega)]
 rw [oi_if,left_sub]
 rfl
def rLCell:List S:= [si,si]
def rICell:List S:= [si,si]
def cpCell (p:List D):List D:= [gd p 0,gd p 1]
def okCell (p:List D):Bool:=true
theorem toCell_ev (p:List D) (N:Nat):evFn Tryz.prog (find []) N [0,1,2,3] Tryz.f300 (ag rICell) [⟨ag rLCell,p⟩]=some (bo,some (1,cpCell p)):=by kernel_rfl
def toCellE:Ent:=(300,e1 (ag rLCell) fun p=>(⟨ag rICell,cpCell p⟩,okCell p))
theorem toCell_ok:EntOk Tryz.prog toCellE:=e1_ok fun p h=>evFn_sound (N:=0) (ks:= [0,1,2,3]) (key:=bo) (find_ok (fN)) (enters Tryz.func300) Tryz.func300 fun _=>by
 have h:okCell p=true:=h
 simp only [okCell,Bool.and_eq_true] at h
 rw [toCell_ev]
def eqCell (p q:List D):Bool:=((gd p 0).int==(gd q 0).int)&&(((gd p 1).int==(gd q 1).int)&&(true))
theorem eqCell_ev (p q:List D) (N:Nat):evFn Tryz.prog (find []) N [0,1,2,3,4,9,14] Tryz.f322 rb [⟨ag rICell,p⟩,⟨ag rICell,q⟩]=some (bo,bif !((gd p 0).int==(gd q 0).int) then ob false else bif !((gd p 1).int==(gd q 1).int) then ob false else ob true):=by kernel_rfl
def eqCellE:Ent:=(322,e2 (ag rICell) (ag rICell) fun p q=>(⟨rb,[.b (eqCell p q)]⟩,true))
theorem eqCell_ok:EntOk Tryz.prog eqCellE:=e2_ok fun p q _=>evFn_sound (N:=0) (ks:= [0,1,2,3,4,9,14]) (key:=bo) (find_ok (fN)) (enters Tryz.func322) Tryz.func322 fun _=>by
 rw [eqCell_ev]
 simp only [ne_step]
 rfl
theorem eqCell_refl (p:List D):eqCell p p=true:=by
 simp [eqCell]
def cpCellS (z:D):D:=.l (z.rows.map fun r=>cpCell (sub r 0 2))
def okCellS (z:D):Bool:=decide (z.rows.length≤4294967296)&&z.rows.all fun r=>okCell (sub r 0 2)
noncomputable def toCellSL (N:Nat) (p:List D):List D→Out:=loopOf Tryz.prog (find [toCellE]) N [0,2,3,4,11] Tryz.f245 (sd (.sl 176)) [⟨sd (.sl 308),p⟩] 0
theorem toCellS_rd (p:List D) (N:Nat) (z x2:D) (rows:List (List D)) (k:Int):toCellSL N p [z,x2,.l rows,.i k]=bif decide (k<z.rows.length) then nd (inRange k z.rows.length) (nd (okCell (sub (z.rows.getD k.toNat []) 0 2)) (nd (inRange k rows.length) (nx [z,x2,.l (rows.set k.toNat (cpCell (sub (z.rows.getD k.toNat []) 0 2))),.i (w64 (k+1))]))) else ex 0 [z,x2,.l rows,.i k]:=by kernel_rfl
theorem toCellS_ev (p:List D) (N:Nat):evFn Tryz.prog (find [toCellE]) N [0,2,3,4,11] Tryz.f245 (sd (.sl 176)) [⟨sd (.sl 308),p⟩]=some (bo,nd (decide (0≤((gd p 0).rows.length:Int))&&decide (((gd p 0).rows.length:Int)=((gd p 0).rows.length:Int))&&decide (((gd p 0).rows.length:Int)≤4294967296)&&true&&true)
  (let o:=iter (toCellSL N p) N [gd p 0,.l [],.l (List.replicate (gd p 0).rows.length [.i 0,.i 0]),.i 0]
   nd o.isSome (nd (o.code==2) (some (1,[gd o.pay 2]))))):=by kernel_rfl
def toCellSE:Ent:=(245,e1 (sd (.sl 308)) fun p=>(⟨sd (.sl 176),[cpCellS (gd p 0)]⟩,okCellS (gd p 0)))
theorem toCellS_ok:EntOk Tryz.prog toCellSE:=e1_ok fun p h=>evFn_sound (N:=(gd p 0).rows.length+1) (ks:= [0,2,3,4,11]) (key:=bo) (find_ok (fC ⟨toCell_ok,fN⟩)) (enters Tryz.func245) Tryz.func245 fun hw=>by
 have h:okCellS (gd p 0)=true:=h
 simp only [okCellS,Bool.and_eq_true,decide_eq_true_eq,List.all_eq_true] at h
 rw [toCellS_ev,fill_loop (ok:=fun r=>okCell (sub r 0 2)) (f:=fun r=>cpCell (sub r 0 2)) [.i 0,.i 0] (wt_sl (hw ⟨sd (.sl 308),p⟩ (by simp))) h.2 (toCellS_rd p _ _ _) (by omega)]
 rw [show decide (((gd p 0).rows.length:Int)≤4294967296)=true from decide_eq_true (by omega),show decide (0≤((gd p 0).rows.length:Int))=true from decide_eq_true (by omega),decide_eq_true (rfl:((gd p 0).rows.length:Int)=_)]
 rfl
def eqCellS:D→D→Bool:=alikeS (fun r s=>eqCell (sub r 0 2) (sub s 0 2))
noncomputable def eqCellSL (N:Nat) (p q:List D):List D→Out:=loopOf Tryz.prog (find [eqCellE]) N [0,1,4,5,10,14,26] Tryz.f278 rb [⟨sd (.sl 176),p⟩,⟨sd (.sl 176),q⟩] 0
theorem eqCellS_rd (p q:List D) (N:Nat) (z u x y:D) (k:Int):eqCellSL N p q [z,u,x,y,.i k]=bif decide (k<z.rows.length) then nd (inRange k z.rows.length) (nd (inRange k u.rows.length) (bif !(eqCell (sub (z.rows.getD k.toNat []) 0 2) (sub (u.rows.getD k.toNat []) 0 2)) then ob false else nx [z,u,x,y,.i (w64 (k+1))])) else ex 0 [z,u,x,y,.i k]:=by kernel_rfl
theorem eqCellS_ev (p q:List D) (N:Nat):evFn Tryz.prog (find [eqCellE]) N [0,1,4,5,10,14,26] Tryz.f278 rb [⟨sd (.sl 176),p⟩,⟨sd (.sl 176),q⟩]=some (bo,bif !(((gd p 0).rows.length:Int)==(gd q 0).rows.length) then ob false else
  (let o:=iter (eqCellSL N p q) N [gd p 0,gd q 0,D0,.b (!(((gd p 0).rows.length:Int)==(gd q 0).rows.length)),.i 0]
   nd o.isSome (bif o.code==1 then some (1,o.pay) else nd (o.code==2) (ob true)))):=by kernel_rfl
def eqCellSE:Ent:=(278,e2 (sd (.sl 176)) (sd (.sl 176)) fun p q=>(⟨rb,[.b (eqCellS (gd p 0) (gd q 0))]⟩,true))
theorem eqCellS_ok:EntOk Tryz.prog eqCellSE:=e2_ok fun p q _=>evFn_sound (N:=(gd p 0).rows.length+1) (ks:= [0,1,4,5,10,14,26]) (key:=bo) (find_ok (fC ⟨eqCell_ok,fN⟩)) (enters Tryz.func278) Tryz.func278 fun hw=>by
 rw [eqCellS_ev]
 by_cases hl:(gd p 0).rows.length=(gd q 0).rows.length
 ·rw [like_loop (E:=(fun r s=>eqCell (sub r 0 2) (sub s 0 2))) (wt_sl (hw ⟨sd (.sl 176),p⟩ (by simp))) hl (eqCellS_rd p q _ _ _ _ _) (by omega)]
  rw [show ((((gd p 0).rows.length:Int))==(gd q 0).rows.length)=true from beq_iff_eq.2 (by omega)]
  show some (bo,_)=some (bo,some (1,[D.b (alikeS (fun r s=>eqCell (sub r 0 2) (sub s 0 2)) (gd p 0) (gd q 0))]))
  cases alikeS (fun r s=>eqCell (sub r 0 2) (sub s 0 2)) (gd p 0) (gd q 0) <;> rfl
 ·rw [show ((((gd p 0).rows.length:Int))==(gd q 0).rows.length)=false from beq_eq_false_iff_ne.2 (by omega)]
  show some (bo,_)=some (bo,some (1,[D.b (alikeS (fun r s=>eqCell (sub r 0 2) (sub s 0 2)) (gd p 0) (gd q 0))]))
  rw [show alikeS (fun r s=>eqCell (sub r 0 2) (sub s 0 2)) (gd p 0) (gd q 0)=false from by simp [alikeS,hl]]
  rfl
theorem eqCellS_refl (z:D):eqCellS z z=true:=alikeS_refl (fun r=>by exact eqCell_refl _) z
def sizeCellS (z:D):Nat:=z.rows.length
theorem szCellS_ev (p q:List D) (N:Nat):evFn Tryz.prog (find []) N [0,1,4,10] Tryz.f230 ri [⟨sd (.sl 308),p⟩,⟨ri,q⟩]=some (bo,bif decide (w64 ((gd q 0).int - (gd p 0).rows.length)<0) then oi (-1) else oi (w64 ((gd q 0).int - (gd p 0).rows.length))):=by kernel_rfl
def szCellSE:Ent:=(230,e2 (sd (.sl 308)) ri fun p q=>(⟨ri,[.i (left (sizeCellS (gd p 0)) (gd q 0).int)]⟩,fair (gd q 0).int))
theorem szCellS_ok:EntOk Tryz.prog szCellSE:=e2_ok fun p q h=>evFn_sound (N:=(gd p 0).rows.length+1) (ks:= [0,1,4,10]) (key:=bo) (find_ok (fN)) (enters Tryz.func230) Tryz.func230 fun hw=>by
 have h:fair (gd q 0).int=true:=h
 have hl:=wt_sl (hw ⟨sd (.sl 308),p⟩ (by simp))
 have h2:0≤(gd q 0).int∧(gd q 0).int≤1048576:=by simpa [fair] using h
 rw [szCellS_ev,w64_id (by omega) (by omega)]
 rw [oi_if,left_sub]
 rfl
def rLRange:List S:= [si,si]
def rIRange:List S:= [si,si]
def cpRange (p:List D):List D:= [gd p 0,gd p 1]
def okRange (p:List D):Bool:=true
theorem toRange_ev (p:List D) (N:Nat):evFn Tryz.prog (find []) N [0,1,2,3] Tryz.f301 (ag rIRange) [⟨ag rLRange,p⟩]=some (bo,some (1,cpRange p)):=by kernel_rfl
def toRangeE:Ent:=(301,e1 (ag rLRange) fun p=>(⟨ag rIRange,cpRange p⟩,okRange p))
theorem toRange_ok:EntOk Tryz.prog toRangeE:=e1_ok fun p h=>evFn_sound (N:=0) (ks:= [0,1,2,3]) (key:=bo) (find_ok (fN)) (enters Tryz.func301) Tryz.func301 fun _=>by
 have h:okRange p=true:=h
 simp only [okRange,Bool.and_eq_true] at h
 rw [toRange_ev]
def eqRange (p q:List D):Bool:=((gd p 0).int==(gd q 0).int)&&(((gd p 1).int==(gd q 1).int)&&(true))
theorem eqRange_ev (p q:List D) (N:Nat):evFn Tryz.prog (find []) N [0,1,2,3,4,9,14] Tryz.f323 rb [⟨ag rIRange,p⟩,⟨ag rIRange,q⟩]=some (bo,bif !((gd p 0).int==(gd q 0).int) then ob false else bif !((gd p 1).int==(gd q 1).int) then ob false else ob true):=by kernel_rfl
def eqRangeE:Ent:=(323,e2 (ag rIRange) (ag rIRange) fun p q=>(⟨rb,[.b (eqRange p q)]⟩,true))
theorem eqRange_ok:EntOk Tryz.prog eqRangeE:=e2_ok fun p q _=>evFn_sound (N:=0) (ks:= [0,1,2,3,4,9,14]) (key:=bo) (find_ok (fN)) (enters Tryz.func323) Tryz.func323 fun _=>by
 rw [eqRange_ev]
 simp only [ne_step]
 rfl
theorem eqRange_refl (p:List D):eqRange p p=true:=by
 simp [eqRange]
def cpRangeS (z:D):D:=.l (z.rows.map fun r=>cpRange (sub r 0 2))
def okRangeS (z:D):Bool:=decide (z.rows.length≤4294967296)&&z.rows.all fun r=>okRange (sub r 0 2)
noncomputable def toRangeSL (N:Nat) (p:List D):List D→Out:=loopOf Tryz.prog (find [toRangeE]) N [0,2,3,4,11] Tryz.f246 (sd (.sl 122)) [⟨sd (.sl 310),p⟩] 0
theorem toRangeS_rd (p:List D) (N:Nat) (z x2:D) (rows:List (List D)) (k:Int):toRangeSL N p [z,x2,.l rows,.i k]=bif decide (k<z.rows.length) then nd (inRange k z.rows.length) (nd (okRange (sub (z.rows.getD k.toNat []) 0 2)) (nd (inRange k rows.length) (nx [z,x2,.l (rows.set k.toNat (cpRange (sub (z.rows.getD k.toNat []) 0 2))),.i (w64 (k+1))]))) else ex 0 [z,x2,.l rows,.i k]:=by kernel_rfl
theorem toRangeS_ev (p:List D) (N:Nat):evFn Tryz.prog (find [toRangeE]) N [0,2,3,4,11] Tryz.f246 (sd (.sl 122)) [⟨sd (.sl 310),p⟩]=some (bo,nd (decide (0≤((gd p 0).rows.length:Int))&&decide (((gd p 0).rows.length:Int)=((gd p 0).rows.length:Int))&&decide (((gd p 0).rows.length:Int)≤4294967296)&&true&&true)
  (let o:=iter (toRangeSL N p) N [gd p 0,.l [],.l (List.replicate (gd p 0).rows.length [.i 0,.i 0]),.i 0]
   nd o.isSome (nd (o.code==2) (some (1,[gd o.pay 2]))))):=by kernel_rfl
def toRangeSE:Ent:=(246,e1 (sd (.sl 310)) fun p=>(⟨sd (.sl 122),[cpRangeS (gd p 0)]⟩,okRangeS (gd p 0)))
theorem toRangeS_ok:EntOk Tryz.prog toRangeSE:=e1_ok fun p h=>evFn_sound (N:=(gd p 0).rows.length+1) (ks:= [0,2,3,4,11]) (key:=bo) (find_ok (fC ⟨toRange_ok,fN⟩)) (enters Tryz.func246) Tryz.func246 fun hw=>by
 have h:okRangeS (gd p 0)=true:=h
 simp only [okRangeS,Bool.and_eq_true,decide_eq_true_eq,List.all_eq_true] at h
 rw [toRangeS_ev,fill_loop (ok:=fun r=>okRange (sub r 0 2)) (f:=fun r=>cpRange (sub r 0 2)) [.i 0,.i 0] (wt_sl (hw ⟨sd (.sl 310),p⟩ (by simp))) h.2 (toRangeS_rd p _ _ _) (by omega)]
 rw [show decide (((gd p 0).rows.length:Int)≤4294967296)=true from decide_eq_true (by omega),show decide (0≤((gd p 0).rows.length:Int))=true from decide_eq_true (by omega),decide_eq_true (rfl:((gd p 0).rows.length:Int)=_)]
 rfl
def eqRangeS:D→D→Bool:=alikeS (fun r s=>eqRange (sub r 0 2) (sub s 0 2))
noncomputable def eqRangeSL (N:Nat) (p q:List D):List D→Out:=loopOf Tryz.prog (find [eqRangeE]) N [0,1,4,5,10,14,26] Tryz.f279 rb [⟨sd (.sl 122),p⟩,⟨sd (.sl 122),q⟩] 0
theorem eqRangeS_rd (p q:List D) (N:Nat) (z u x y:D) (k:Int):eqRangeSL N p q [z,u,x,y,.i k]=bif decide (k<z.rows.length) then nd (inRange k z.rows.length) (nd (inRange k u.rows.length) (bif !(eqRange (sub (z.rows.getD k.toNat []) 0 2) (sub (u.rows.getD k.toNat []) 0 2)) then ob false else nx [z,u,x,y,.i (w64 (k+1))])) else ex 0 [z,u,x,y,.i k]:=by kernel_rfl
theorem eqRangeS_ev (p q:List D) (N:Nat):evFn Tryz.prog (find [eqRangeE]) N [0,1,4,5,10,14,26] Tryz.f279 rb [⟨sd (.sl 122),p⟩,⟨sd (.sl 122),q⟩]=some (bo,bif !(((gd p 0).rows.length:Int)==(gd q 0).rows.length) then ob false else
  (let o:=iter (eqRangeSL N p q) N [gd p 0,gd q 0,D0,.b (!(((gd p 0).rows.length:Int)==(gd q 0).rows.length)),.i 0]
   nd o.isSome (bif o.code==1 then some (1,o.pay) else nd (o.code==2) (ob true)))):=by kernel_rfl
def eqRangeSE:Ent:=(279,e2 (sd (.sl 122)) (sd (.sl 122)) fun p q=>(⟨rb,[.b (eqRangeS (gd p 0) (gd q 0))]⟩,true))
theorem eqRangeS_ok:EntOk Tryz.prog eqRangeSE:=e2_ok fun p q _=>evFn_sound (N:=(gd p 0).rows.length+1) (ks:= [0,1,4,5,10,14,26]) (key:=bo) (find_ok (fC ⟨eqRange_ok,fN⟩)) (enters Tryz.func279) Tryz.func279 fun hw=>by
 rw [eqRangeS_ev]
 by_cases hl:(gd p 0).rows.length=(gd q 0).rows.length
 ·rw [like_loop (E:=(fun r s=>eqRange (sub r 0 2) (sub s 0 2))) (wt_sl (hw ⟨sd (.sl 122),p⟩ (by simp))) hl (eqRangeS_rd p q _ _ _ _ _) (by omega)]
  rw [show ((((gd p 0).rows.length:Int))==(gd q 0).rows.length)=true from beq_iff_eq.2 (by omega)]
  show some (bo,_)=some (bo,some (1,[D.b (alikeS (fun r s=>eqRange (sub r 0 2) (sub s 0 2)) (gd p 0) (gd q 0))]))
  cases alikeS (fun r s=>eqRange (sub r 0 2) (sub s 0 2)) (gd p 0) (gd q 0) <;> rfl
 ·rw [show ((((gd p 0).rows.length:Int))==(gd q 0).rows.length)=false from beq_eq_false_iff_ne.2 (by omega)]
  show some (bo,_)=some (bo,some (1,[D.b (alikeS (fun r s=>eqRange (sub r 0 2) (sub s 0 2)) (gd p 0) (gd q 0))]))
  rw [show alikeS (fun r s=>eqRange (sub r 0 2) (sub s 0 2)) (gd p 0) (gd q 0)=false from by simp [alikeS,hl]]
  rfl
theorem eqRangeS_refl (z:D):eqRangeS z z=true:=alikeS_refl (fun r=>by exact eqRange_refl _) z
def sizeRangeS (z:D):Nat:=z.rows.length
theorem szRangeS_ev (p q:List D) (N:Nat):evFn Tryz.prog (find []) N [0,1,4,10] Tryz.f231 ri [⟨sd (.sl 310),p⟩,⟨ri,q⟩]=some (bo,bif decide (w64 ((gd q 0).int - (gd p 0).rows.length)<0) then oi (-1) else oi (w64 ((gd q 0).int - (gd p 0).rows.length))):=by kernel_rfl
def szRangeSE:Ent:=(231,e2 (sd (.sl 310)) ri fun p q=>(⟨ri,[.i (left (sizeRangeS (gd p 0)) (gd q 0).int)]⟩,fair (gd q 0).int))
theorem szRangeS_ok:EntOk Tryz.prog szRangeSE:=e2_ok fun p q h=>evFn_sound (N:=(gd p 0).rows.length+1) (ks:= [0,1,4,10]) (key:=bo) (find_ok (fN)) (enters Tryz.func231) Tryz.func231 fun hw=>by
 have h:fair (gd q 0).int=true:=h
 have hl:=wt_sl (hw ⟨sd (.sl 310),p⟩ (by simp))
 have h2:0≤(gd q 0).int∧(gd q 0).int≤1048576:=by simpa [fair] using h
 rw [szRangeS_ev,w64_id (by omega) (by omega)]
 rw [oi_if,left_sub]
 rfl
def rLWrite:List S:= [si,si]
def rIWrite:List S:= [si,si]
def cpWrite (p:List D):List D:= [gd p 0,gd p 1]
def okWrite (p:List D):Bool:=true
theorem toWrite_ev (p:List D) (N:Nat):evFn Tryz.prog (find []) N [0,1,2,3] Tryz.f304 (ag rIWrite) [⟨ag rLWrite,p⟩]=some (bo,some (1,cpWrite p)):=by kernel_rfl
def toWriteE:Ent:=(304,e1 (ag rLWrite) fun p=>(⟨ag rIWrite,cpWrite p⟩,okWrite p))
theorem toWrite_ok:EntOk Tryz.prog toWriteE:=e1_ok fun p h=>evFn_sound (N:=0) (ks:= [0,1,2,3]) (key:=bo) (find_ok (fN)) (enters Tryz.func304) Tryz.func304 fun _=>by
 have h:okWrite p=true:=h
 simp only [okWrite,Bool.and_eq_true] at h
 rw [toWrite_ev]
def eqWrite (p q:List D):Bool:=((gd p 0).int==(gd q 0).int)&&(((gd p 1).int==(gd q 1).int)&&(true))
theorem eqWrite_ev (p q:List D) (N:Nat):evFn Tryz.prog (find []) N [0,1,2,3,4,9,14] Tryz.f326 rb [⟨ag rIWrite,p⟩,⟨ag rIWrite,q⟩]=some (bo,bif !((gd p 0).int==(gd q 0).int) then ob false else bif !((gd p 1).int==(gd q 1).int) then ob false else ob true):=by kernel_rfl
def eqWriteE:Ent:=(326,e2 (ag rIWrite) (ag rIWrite) fun p q=>(⟨rb,[.b (eqWrite p q)]⟩,true))
theorem eqWrite_ok:EntOk Tryz.prog eqWriteE:=e2_ok fun p q _=>evFn_sound (N:=0) (ks:= [0,1,2,3,4,9,14]) (key:=bo) (find_ok (fN)) (enters Tryz.func326) Tryz.func326 fun _=>by
 rw [eqWrite_ev]
 simp only [ne_step]
 rfl
theorem eqWrite_refl (p:List D):eqWrite p p=true:=by
 simp [eqWrite]
def cpWriteS (z:D):D:=.l (z.rows.map fun r=>cpWrite (sub r 0 2))
def okWriteS (z:D):Bool:=decide (z.rows.length≤4294967296)&&z.rows.all fun r=>okWrite (sub r 0 2)
noncomputable def toWriteSL (N:Nat) (p:List D):List D→Out:=loopOf Tryz.prog (find [toWriteE]) N [0,2,3,4,11] Tryz.f250 (sd (.sl 132)) [⟨sd (.sl 315),p⟩] 0
theorem toWriteS_rd (p:List D) (N:Nat) (z x2:D) (rows:List (List D)) (k:Int):toWriteSL N p [z,x2,.l rows,.i k]=bif decide (k<z.rows.length) then nd (inRange k z.rows.length) (nd (okWrite (sub (z.rows.getD k.toNat []) 0 2)) (nd (inRange k rows.length) (nx [z,x2,.l (rows.set k.toNat (cpWrite (sub (z.rows.getD k.toNat []) 0 2))),.i (w64 (k+1))]))) else ex 0 [z,x2,.l rows,.i k]:=by kernel_rfl
theorem toWriteS_ev (p:List D) (N:Nat):evFn Tryz.prog (find [toWriteE]) N [0,2,3,4,11] Tryz.f250 (sd (.sl 132)) [⟨sd (.sl 315),p⟩]=some (bo,nd (decide (0≤((gd p 0).rows.length:Int))&&decide (((gd p 0).rows.length:Int)=((gd p 0).rows.length:Int))&&decide (((gd p 0).rows.length:Int)≤4294967296)&&true&&true)
  (let o:=iter (toWriteSL N p) N [gd p 0,.l [],.l (List.replicate (gd p 0).rows.length [.i 0,.i 0]),.i 0]
   nd o.isSome (nd (o.code==2) (some (1,[gd o.pay 2]))))):=by kernel_rfl
def toWriteSE:Ent:=(250,e1 (sd (.sl 315)) fun p=>(⟨sd (.sl 132),[cpWriteS (gd p 0)]⟩,okWriteS (gd p 0)))
theorem toWriteS_ok:EntOk Tryz.prog toWriteSE:=e1_ok fun p h=>evFn_sound (N:=(gd p 0).rows.length+1) (ks:= [0,2,3,4,11]) (key:=bo) (find_ok (fC ⟨toWrite_ok,fN⟩)) (enters Tryz.func250) Tryz.func250 fun hw=>by
 have h:okWriteS (gd p 0)=true:=h
 simp only [okWriteS,Bool.and_eq_true,decide_eq_true_eq,List.all_eq_true] at h
 rw [toWriteS_ev,fill_loop (ok:=fun r=>okWrite (sub r 0 2)) (f:=fun r=>cpWrite (sub r 0 2)) [.i 0,.i 0] (wt_sl (hw ⟨sd (.sl 315),p⟩ (by simp))) h.2 (toWriteS_rd p _ _ _) (by omega)]
 rw [show decide (((gd p 0).rows.length:Int)≤4294967296)=true from decide_eq_true (by omega),show decide (0≤((gd p 0).rows.length:Int))=true from decide_eq_true (by omega),decide_eq_true (rfl:((gd p 0).rows.length:Int)=_)]
 rfl
def eqWriteS:D→D→Bool:=alikeS (fun r s=>eqWrite (sub r 0 2) (sub s 0 2))
noncomputable def eqWriteSL (N:Nat) (p q:List D):List D→Out:=loopOf Tryz.prog (find [eqWriteE]) N [0,1,4,5,10,14,26] Tryz.f283 rb [⟨sd (.sl 132),p⟩,⟨sd (.sl 132),q⟩] 0
theorem eqWriteS_rd (p q:List D) (N:Nat) (z u x y:D) (k:Int):eqWriteSL N p q [z,u,x,y,.i k]=bif decide (k<z.rows.length) then nd (inRange k z.rows.length) (nd (inRange k u.rows.length) (bif !(eqWrite (sub (z.rows.getD k.toNat []) 0 2) (sub (u.rows.getD k.toNat []) 0 2)) then ob false else nx [z,u,x,y,.i (w64 (k+1))])) else ex 0 [z,u,x,y,.i k]:=by kernel_rfl
theorem eqWriteS_ev (p q:List D) (N:Nat):evFn Tryz.prog (find [eqWriteE]) N [0,1,4,5,10,14,26] Tryz.f283 rb [⟨sd (.sl 132),p⟩,⟨sd (.sl 132),q⟩]=some (bo,bif !(((gd p 0).rows.length:Int)==(gd q 0).rows.length) then ob false else
  (let o:=iter (eqWriteSL N p q) N [gd p 0,gd q 0,D0,.b (!(((gd p 0).rows.length:Int)==(gd q 0).rows.length)),.i 0]
   nd o.isSome (bif o.code==1 then some (1,o.pay) else nd (o.code==2) (ob true)))):=by kernel_rfl
def eqWriteSE:Ent:=(283,e2 (sd (.sl 132)) (sd (.sl 132)) fun p q=>(⟨rb,[.b (eqWriteS (gd p 0) (gd q 0))]⟩,true))
theorem eqWriteS_ok:EntOk Tryz.prog eqWriteSE:=e2_ok fun p q _=>evFn_sound (N:=(gd p 0).rows.length+1) (ks:= [0,1,4,5,10,14,26]) (key:=bo) (find_ok (fC ⟨eqWrite_ok,fN⟩)) (enters Tryz.func283) Tryz.func283 fun hw=>by
 rw [eqWriteS_ev]
 by_cases hl:(gd p 0).rows.length=(gd q 0).rows.length
 ·rw [like_loop (E:=(fun r s=>eqWrite (sub r 0 2) (sub s 0 2))) (wt_sl (hw ⟨sd (.sl 132),p⟩ (by simp))) hl (eqWriteS_rd p q _ _ _ _ _) (by omega)]
  rw [show ((((gd p 0).rows.length:Int))==(gd q 0).rows.length)=true from beq_iff_eq.2 (by omega)]
  show some (bo,_)=some (bo,some (1,[D.b (alikeS (fun r s=>eqWrite (sub r 0 2) (sub s 0 2)) (gd p 0) (gd q 0))]))
  cases alikeS (fun r s=>eqWrite (sub r 0 2) (sub s 0 2)) (gd p 0) (gd q 0) <;> rfl
 ·rw [show ((((gd p 0).rows.length:Int))==(gd q 0).rows.length)=false from beq_eq_false_iff_ne.2 (by omega)]
  show some (bo,_)=some (bo,some (1,[D.b (alikeS (fun r s=>eqWrite (sub r 0 2) (sub s 0 2)) (gd p 0) (gd q 0))]))
  rw [show alikeS (fun r s=>eqWrite (sub r 0 2) (sub s 0 2)) (gd p 0) (gd q 0)=false from by simp [alikeS,hl]]
  rfl
theorem eqWriteS_refl (z:D):eqWriteS z z=true:=alikeS_refl (fun r=>by exact eqWrite_refl _) z
def sizeWriteS (z:D):Nat:=z.rows.length
theorem szWriteS_ev (p q:List D) (N:Nat):evFn Tryz.prog (find []) N [0,1,4,10] Tryz.f235 ri [⟨sd (.sl 315),p⟩,⟨ri,q⟩]=some (bo,bif decide (w64 ((gd q 0).int - (gd p 0).rows.length)<0) then oi (-1) else oi (w64 ((gd q 0).int - (gd p 0).rows.length))):=by kernel_rfl
def szWriteSE:Ent:=(235,e2 (sd (.sl 315)) ri fun p q=>(⟨ri,[.i (left (sizeWriteS (gd p 0)) (gd q 0).int)]⟩,fair (gd q 0).int))
theorem szWriteS_ok:EntOk Tryz.prog szWriteSE:=e2_ok fun p q h=>evFn_sound (N:=(gd p 0).rows.length+1) (ks:= [0,1,4,10]) (key:=bo) (find_ok (fN)) (enters Tryz.func235) Tryz.func235 fun hw=>by
 have h:fair (gd q 0).int=true:=h
 have hl:=wt_sl (hw ⟨sd (.sl 315),p⟩ (by simp))
 have h2:0≤(gd q 0).int∧(gd q 0).int≤1048576:=by simpa [fair] using h
 rw [szWriteS_ev,w64_id (by omega) (by omega)]
 rw [oi_if,left_sub]
 rfl
end Go.Proofs.YtchceahcaaibcaaGreat
namespace Go.Proofs.YtchceahcaaibcaaGreat
set_option maxRecDepth 4096
def rLShare:List S:= [si,.sl 310,.sl 315,si]
def rIShare:List S:= [si,.sl 122,.sl 132,si]
def cpShare (p:List D):List D:= [gd p 0,cpRangeS (gd p 1),cpWriteS (gd p 2),gd p 3]
def okShare (p:List D):Bool:=okRangeS (gd p 1)&&okWriteS (gd p 2)
theorem toShare_ev (p:List D) (N:Nat):evFn Tryz.prog (find [toRangeSE,toWriteSE]) N [0,1,2,3] Tryz.f306 (ag rIShare) [⟨ag rLShare,p⟩]=some (bo,nd (okRangeS (gd p 1)) (nd (okWriteS (gd p 2)) (some (1,cpShare p)))):=by kernel_rfl
def toShareE:Ent:=(306,e1 (ag rLShare) fun p=>(⟨ag rIShare,cpShare p⟩,okShare p))
theorem toShare_ok:EntOk Tryz.prog toShareE:=e1_ok fun p h=>evFn_sound (N:=0) (ks:= [0,1,2,3]) (key:=bo) (find_ok (fC ⟨toRangeS_ok,fC ⟨toWriteS_ok,fN⟩⟩)) (enters Tryz.func306) Tryz.func306 fun _=>by
 have h:okShare p=true:=h
 simp only [okShare,Bool.and_eq_true] at h
 rw [toShare_ev]
 simp only [nd,h.1,h.2,cond_true]
def eqShare (p q:List D):Bool:=((gd p 0).int==(gd q 0).int)&&((eqRangeS (gd p 1) (gd q 1))&&((eqWriteS (gd p 2) (gd q 2))&&(((gd p 3).int==(gd q 3).int)&&(true))))
theorem eqShare_ev (p q:List D) (N:Nat):evFn Tryz.prog (find [eqRangeSE,eqWriteSE]) N [0,1,2,3,4,9,15,21,26] Tryz.f328 rb [⟨ag rIShare,p⟩,⟨ag rIShare,q⟩]=some (bo,bif !((gd p 0).int==(gd q 0).int) then ob false else bif !(eqRangeS (gd p 1) (gd q 1)) then ob false else bif !(eqWriteS (gd p 2) (gd q 2)) then ob false else bif !((gd p 3).int==(gd q 3).int) then ob false else ob true):=by kernel_rfl
def eqShareE:Ent:=(328,e2 (ag rIShare) (ag rIShare) fun p q=>(⟨rb,[.b (eqShare p q)]⟩,true))
theorem eqShare_ok:EntOk Tryz.prog eqShareE:=e2_ok fun p q _=>evFn_sound (N:=0) (ks:= [0,1,2,3,4,9,15,21,26]) (key:=bo) (find_ok (fC ⟨eqRangeS_ok,fC ⟨eqWriteS_ok,fN⟩⟩)) (enters Tryz.func328) Tryz.func328 fun _=>by
 rw [eqShare_ev]
 simp only [ne_step]
 rfl
theorem eqShare_refl (p:List D):eqShare p p=true:=by
 simp [eqShare,eqRangeS_refl,eqWriteS_refl]
def sizeShare (p:List D):Nat:=sizeRangeS (gd p 1)+sizeWriteS (gd p 2)
theorem szShare_ev (p q:List D) (N:Nat):evFn Tryz.prog (find [szRangeSE,szWriteSE]) N [0,1,2,4,10,16] Tryz.f298 ri [⟨ag rLShare,p⟩,⟨ri,q⟩]=some (bo,nd (fair (gd q 0).int) (bif decide (left (sizeRangeS (gd p 1)) (gd q 0).int<0) then oi (-1) else nd (fair (left (sizeRangeS (gd p 1)) (gd q 0).int)) (bif decide (left (sizeWriteS (gd p 2)) (left (sizeRangeS (gd p 1)) (gd q 0).int)<0) then oi (-1) else oi (left (sizeWriteS (gd p 2)) (left (sizeRangeS (gd p 1)) (gd q 0).int))))):=by kernel_rfl
def szShareE:Ent:=(298,e2 (ag rLShare) ri fun p q=>(⟨ri,[.i (left (sizeShare p) (gd q 0).int)]⟩,fair (gd q 0).int))
theorem szShare_ok:EntOk Tryz.prog szShareE:=e2_ok fun p q h=>evFn_sound (N:=0) (ks:= [0,1,2,4,10,16]) (key:=bo) (find_ok (fC ⟨szRangeS_ok,fC ⟨szWriteS_ok,fN⟩⟩)) (enters Tryz.func298) Tryz.func298 fun _=>by
 have h:fair (gd q 0).int=true:=h
 rw [szShare_ev]
 by_cases h2:left (sizeRangeS (gd p 1)) (gd q 0).int<0
 ·have e:=left_left (sizeRangeS (gd p 1)) (sizeWriteS (gd p 2)) (gd q 0).int
  rw [if_pos h2] at e
  simp only [nd,h,cond_true,h2,decide_true,sizeShare,← e]
 ·have e:=left_left (sizeRangeS (gd p 1)) (sizeWriteS (gd p 2)) (gd q 0).int
  rw [if_neg h2] at e
  simp only [nd,h,cond_true,cond_false,h2,decide_false,fair_left h h2,oi_if,left_neg,sizeShare,← e]
def cpShareS (z:D):D:=.l (z.rows.map fun r=>cpShare (sub r 0 4))
def okShareS (z:D):Bool:=decide (z.rows.length≤4294967296)&&z.rows.all fun r=>okShare (sub r 0 4)
noncomputable def toShareSL (N:Nat) (p:List D):List D→Out:=loopOf Tryz.prog (find [toShareE]) N [0,2,3,4,11] Tryz.f252 (sd (.sl 118)) [⟨sd (.sl 306),p⟩] 0
theorem toShareS_rd (p:List D) (N:Nat) (z x2:D) (rows:List (List D)) (k:Int):toShareSL N p [z,x2,.l rows,.i k]=bif decide (k<z.rows.length) then nd (inRange k z.rows.length) (nd (okShare (sub (z.rows.getD k.toNat []) 0 4)) (nd (inRange k rows.length) (nx [z,x2,.l (rows.set k.toNat (cpShare (sub (z.rows.getD k.toNat []) 0 4))),.i (w64 (k+1))]))) else ex 0 [z,x2,.l rows,.i k]:=by kernel_rfl
theorem toShareS_ev (p:List D) (N:Nat):evFn Tryz.prog (find [toShareE]) N [0,2,3,4,11] Tryz.f252 (sd (.sl 118)) [⟨sd (.sl 306),p⟩]=some (bo,nd (decide (0≤((gd p 0).rows.length:Int))&&decide (((gd p 0).rows.length:Int)=((gd p 0).rows.length:Int))&&decide (((gd p 0).rows.length:Int)≤4294967296)&&true&&true)
  (let o:=iter (toShareSL N p) N [gd p 0,.l [],.l (List.replicate (gd p 0).rows.length [.i 0,.l [],.l [],.i 0]),.i 0]
   nd o.isSome (nd (o.code==2) (some (1,[gd o.pay 2]))))):=by kernel_rfl
def toShareSE:Ent:=(252,e1 (sd (.sl 306)) fun p=>(⟨sd (.sl 118),[cpShareS (gd p 0)]⟩,okShareS (gd p 0)))
theorem toShareS_ok:EntOk Tryz.prog toShareSE:=e1_ok fun p h=>evFn_sound (N:=(gd p 0).rows.length+1) (ks:= [0,2,3,4,11]) (key:=bo) (find_ok (fC ⟨toShare_ok,fN⟩)) (enters Tryz.func252) Tryz.func252 fun hw=>by
 have h:okShareS (gd p 0)=true:=h
 simp only [okShareS,Bool.and_eq_true,decide_eq_true_eq,List.all_eq_true] at h
 rw [toShareS_ev,fill_loop (ok:=fun r=>okShare (sub r 0 4)) (f:=fun r=>cpShare (sub r 0 4)) [.i 0,.l [],.l [],.i 0] (wt_sl (hw ⟨sd (.sl 306),p⟩ (by simp))) h.2 (toShareS_rd p _ _ _) (by omega)]
 rw [show decide (((gd p 0).rows.length:Int)≤4294967296)=true from decide_eq_true (by omega),show decide (0≤((gd p 0).rows.length:Int))=true from decide_eq_true (by omega),decide_eq_true (rfl:((gd p 0).rows.length:Int)=_)]
 rfl
def eqShareS:D→D→Bool:=alikeS (fun r s=>eqShare (sub r 0 4) (sub s 0 4))
noncomputable def eqShareSL (N:Nat) (p q:List D):List D→Out:=loopOf Tryz.prog (find [eqShareE]) N [0,1,4,5,10,14,26] Tryz.f285 rb [⟨sd (.sl 118),p⟩,⟨sd (.sl 118),q⟩] 0
theorem eqShareS_rd (p q:List D) (N:Nat) (z u x y:D) (k:Int):eqShareSL N p q [z,u,x,y,.i k]=bif decide (k<z.rows.length) then nd (inRange k z.rows.length) (nd (inRange k u.rows.length) (bif !(eqShare (sub (z.rows.getD k.toNat []) 0 4) (sub (u.rows.getD k.toNat []) 0 4)) then ob false else nx [z,u,x,y,.i (w64 (k+1))])) else ex 0 [z,u,x,y,.i k]:=by kernel_rfl
theorem eqShareS_ev (p q:List D) (N:Nat):evFn Tryz.prog (find [eqShareE]) N [0,1,4,5,10,14,26] Tryz.f285 rb [⟨sd (.sl 118),p⟩,⟨sd (.sl 118),q⟩]=some (bo,bif !(((gd p 0).rows.length:Int)==(gd q 0).rows.length) then ob false else
  (let o:=iter (eqShareSL N p q) N [gd p 0,gd q 0,D0,.b (!(((gd p 0).rows.length:Int)==(gd q 0).rows.length)),.i 0]
   nd o.isSome (bif o.code==1 then some (1,o.pay) else nd (o.code==2) (ob true)))):=by kernel_rfl
def eqShareSE:Ent:=(285,e2 (sd (.sl 118)) (sd (.sl 118)) fun p q=>(⟨rb,[.b (eqShareS (gd p 0) (gd q 0))]⟩,true))
theorem eqShareS_ok:EntOk Tryz.prog eqShareSE:=e2_ok fun p q _=>evFn_sound (N:=(gd p 0).rows.length+1) (ks:= [0,1,4,5,10,14,26]) (key:=bo) (find_ok (fC ⟨eqShare_ok,fN⟩)) (enters Tryz.func285) Tryz.func285 fun hw=>by
 rw [eqShareS_ev]
 by_cases hl:(gd p 0).rows.length=(gd q 0).rows.length
 ·rw [like_loop (E:=(fun r s=>eqShare (sub r 0 4) (sub s 0 4))) (wt_sl (hw ⟨sd (.sl 118),p⟩ (by simp))) hl (eqShareS_rd p q _ _ _ _ _) (by omega)]
  rw [show ((((gd p 0).rows.length:Int))==(gd q 0).rows.length)=true from beq_iff_eq.2 (by omega)]
  show some (bo,_)=some (bo,some (1,[D.b (alikeS (fun r s=>eqShare (sub r 0 4) (sub s 0 4)) (gd p 0) (gd q 0))]))
  cases alikeS (fun r s=>eqShare (sub r 0 4) (sub s 0 4)) (gd p 0) (gd q 0) <;> rfl
 ·rw [show ((((gd p 0).rows.length:Int))==(gd q 0).rows.length)=false from beq_eq_false_iff_ne.2 (by omega)]
  show some (bo,_)=some (bo,some (1,[D.b (alikeS (fun r s=>eqShare (sub r 0 4) (sub s 0 4)) (gd p 0) (gd q 0))]))
  rw [show alikeS (fun r s=>eqShare (sub r 0 4) (sub s 0 4)) (gd p 0) (gd q 0)=false from by simp [alikeS,hl]]
  rfl
theorem eqShareS_refl (z:D):eqShareS z z=true:=alikeS_refl (fun r=>by exact eqShare_refl _) z
def sizeShareS (z:D):Nat:=z.rows.length+total (fun r=>sizeShare (sub r 0 4)) z.rows
noncomputable def szShareSL (N:Nat) (p q:List D):List D→Out:=loopOf Tryz.prog (find [szShareE]) N [0,1,4,5,11,15,25] Tryz.f237 ri [⟨sd (.sl 306),p⟩,⟨ri,q⟩] 0
theorem szShareS_rd (p q:List D) (N:Nat) (z x y:D) (n k:Int):szShareSL N p q [z,.i n,x,y,.i k]=bif decide (k<z.rows.length) then nd (inRange k z.rows.length) (nd (fair n) (bif decide (left (sizeShare (sub (z.rows.getD k.toNat []) 0 4)) n<0) then oi (-1) else nx [z,.i (left (sizeShare (sub (z.rows.getD k.toNat []) 0 4)) n),x,y,.i (w64 (k+1))])) else ex 0 [z,.i n,x,y,.i k]:=by kernel_rfl
theorem szShareS_ev (p q:List D) (N:Nat):evFn Tryz.prog (find [szShareE]) N [0,1,4,5,11,15,25] Tryz.f237 ri [⟨sd (.sl 306),p⟩,⟨ri,q⟩]=some (bo,bif decide (w64 ((gd q 0).int - (gd p 0).rows.length)<0) then oi (-1) else
  (let o:=iter (szShareSL N p q) N [gd p 0,.i (w64 ((gd q 0).int - (gd p 0).rows.length)),.i 0,.b (decide (w64 ((gd q 0).int - (gd p 0).rows.length)<0)),.i 0]
   nd o.isSome (bif o.code==1 then some (1,o.pay) else nd (o.code==2) (some (1,[gd o.pay 1]))))):=by kernel_rfl
def szShareSE:Ent:=(237,e2 (sd (.sl 306)) ri fun p q=>(⟨ri,[.i (left (sizeShareS (gd p 0)) (gd q 0).int)]⟩,fair (gd q 0).int))
theorem szShareS_ok:EntOk Tryz.prog szShareSE:=e2_ok fun p q h=>evFn_sound (N:=(gd p 0).rows.length+1) (ks:= [0,1,4,5,11,15,25]) (key:=bo) (find_ok (fC ⟨szShare_ok,fN⟩)) (enters Tryz.func237) Tryz.func237 fun hw=>by
 have h:fair (gd q 0).int=true:=h
 have hl:=wt_sl (hw ⟨sd (.sl 306),p⟩ (by simp))
 have h2:0≤(gd q 0).int∧(gd q 0).int≤1048576:=by simpa [fair] using h
 rw [szShareS_ev,w64_id (by omega) (by omega)]
 by_cases hn:(gd q 0).int - ((gd p 0).rows.length:Int)<0
 ·rw [decide_eq_true hn,cond_true]
  have e:left (sizeShareS (gd p 0)) (gd q 0).int = -1:=if_neg (by simp only [sizeShareS]; push_cast; omega)
  rw [e]
 ·rw [decide_eq_false hn,cond_false]
  have:=size_loop (size:=fun r=>sizeShare (sub r 0 4)) hl (szShareS_rd p q ((gd p 0).rows.length+1) (gd p 0) (.i 0) (.b false)) (gd p 0).rows.length 0 ((gd p 0).rows.length+1) ((gd q 0).int - ((gd p 0).rows.length:Int)) (by omega) (by omega) (by omega) (by omega)
  simp only [Int.natCast_zero,List.drop_zero] at this
  rw [this]
  by_cases hq:(total (fun r=>sizeShare (sub r 0 4)) (gd p 0).rows:Int)≤(gd q 0).int - ((gd p 0).rows.length:Int)
  ·have e:left (sizeShareS (gd p 0)) (gd q 0).int=(gd q 0).int - ((gd p 0).rows.length:Int) - (total (fun r=>sizeShare (sub r 0 4)) (gd p 0).rows:Int):=by
    rw [left,if_pos (by simp only [sizeShareS]; push_cast; omega)]
    simp only [sizeShareS]; push_cast; omega
   rw [if_pos hq,e]
   rfl
  ·have e:left (sizeShareS (gd p 0)) (gd q 0).int = -1:=if_neg (by simp only [sizeShareS]; push_cast; omega)
   rw [if_neg hq,e]
   rfl
def rLRec:List S:= [si,si,si,si,.sl 306]
def rIRec:List S:= [si,si,si,si,.sl 118]
def cpRec (p:List D):List D:= [gd p 0,gd p 1,gd p 2,gd p 3,cpShareS (gd p 4)]
def okRec (p:List D):Bool:=okShareS (gd p 4)
theorem toRec_ev (p:List D) (N:Nat):evFn Tryz.prog (find [toShareSE]) N [0,1,2,3] Tryz.f249 (ag rIRec) [⟨ag rLRec,p⟩]=some (bo,nd (okShareS (gd p 4)) (some (1,cpRec p))):=by kernel_rfl
def toRecE:Ent:=(249,e1 (ag rLRec) fun p=>(⟨ag rIRec,cpRec p⟩,okRec p))
theorem toRec_ok:EntOk Tryz.prog toRecE:=e1_ok fun p h=>evFn_sound (N:=0) (ks:= [0,1,2,3]) (key:=bo) (find_ok (fC ⟨toShareS_ok,fN⟩)) (enters Tryz.func249) Tryz.func249 fun _=>by
 have h:okRec p=true:=h
 simp only [okRec,Bool.and_eq_true] at h
 rw [toRec_ev]
 simp only [nd,h,cond_true]
def eqRec (p q:List D):Bool:=((gd p 0).int==(gd q 0).int)&&(((gd p 1).int==(gd q 1).int)&&(((gd p 2).int==(gd q 2).int)&&(((gd p 3).int==(gd q 3).int)&&((eqShareS (gd p 4) (gd q 4))&&(true)))))
theorem eqRec_ev (p q:List D) (N:Nat):evFn Tryz.prog (find [eqShareSE]) N [0,1,2,3,4,9,14,19,24,30] Tryz.f282 rb [⟨ag rIRec,p⟩,⟨ag rIRec,q⟩]=some (bo,bif !((gd p 0).int==(gd q 0).int) then ob false else bif !((gd p 1).int==(gd q 1).int) then ob false else bif !((gd p 2).int==(gd q 2).int) then ob false else bif !((gd p 3).int==(gd q 3).int) then ob false else bif !(eqShareS (gd p 4) (gd q 4)) then ob false else ob true):=by kernel_rfl
def eqRecE:Ent:=(282,e2 (ag rIRec) (ag rIRec) fun p q=>(⟨rb,[.b (eqRec p q)]⟩,true))
theorem eqRec_ok:EntOk Tryz.prog eqRecE:=e2_ok fun p q _=>evFn_sound (N:=0) (ks:= [0,1,2,3,4,9,14,19,24,30]) (key:=bo) (find_ok (fC ⟨eqShareS_ok,fN⟩)) (enters Tryz.func282) Tryz.func282 fun _=>by
 rw [eqRec_ev]
 simp only [ne_step]
 rfl
theorem eqRec_refl (p:List D):eqRec p p=true:=by
 simp [eqRec,eqShareS_refl]
def sizeRec (p:List D):Nat:=sizeShareS (gd p 4)
theorem szRec_ev (p q:List D) (N:Nat):evFn Tryz.prog (find [szShareSE]) N [0,1,2,4,10] Tryz.f234 ri [⟨ag rLRec,p⟩,⟨ri,q⟩]=some (bo,nd (fair (gd q 0).int) (bif decide (left (sizeShareS (gd p 4)) (gd q 0).int<0) then oi (-1) else oi (left (sizeShareS (gd p 4)) (gd q 0).int))):=by kernel_rfl
def szRecE:Ent:=(234,e2 (ag rLRec) ri fun p q=>(⟨ri,[.i (left (sizeRec p) (gd q 0).int)]⟩,fair (gd q 0).int))
theorem szRec_ok:EntOk Tryz.prog szRecE:=e2_ok fun p q h=>evFn_sound (N:=0) (ks:= [0,1,2,4,10]) (key:=bo) (find_ok (fC ⟨szShareS_ok,fN⟩)) (enters Tryz.func234) Tryz.func234 fun _=>by
 have h:fair (gd q 0).int=true:=h
 rw [szRec_ev]
 simp only [nd,h,cond_true,oi_if,left_neg]
 rfl
def cpRecS (z:D):D:=.l (z.rows.map fun r=>cpRec (sub r 0 5))
def okRecS (z:D):Bool:=decide (z.rows.length≤4294967296)&&z.rows.all fun r=>okRec (sub r 0 5)
noncomputable def toRecSL (N:Nat) (p:List D):List D→Out:=loopOf Tryz.prog (find [toRecE]) N [0,2,3,4,11] Tryz.f150 (sd (.sl 116)) [⟨sd (.sl 241),p⟩] 0
theorem toRecS_rd (p:List D) (N:Nat) (z x2:D) (rows:List (List D)) (k:Int):toRecSL N p [z,x2,.l rows,.i k]=bif decide (k<z.rows.length) then nd (inRange k z.rows.length) (nd (okRec (sub (z.rows.getD k.toNat []) 0 5)) (nd (inRange k rows.length) (nx [z,x2,.l (rows.set k.toNat (cpRec (sub (z.rows.getD k.toNat []) 0 5))),.i (w64 (k+1))]))) else ex 0 [z,x2,.l rows,.i k]:=by kernel_rfl
theorem toRecS_ev (p:List D) (N:Nat):evFn Tryz.prog (find [toRecE]) N [0,2,3,4,11] Tryz.f150 (sd (.sl 116)) [⟨sd (.sl 241),p⟩]=some (bo,nd (decide (0≤((gd p 0).rows.length:Int))&&decide (((gd p 0).rows.length:Int)=((gd p 0).rows.length:Int))&&decide (((gd p 0).rows.length:Int)≤4294967296)&&true&&true)
  (let o:=iter (toRecSL N p) N [gd p 0,.l [],.l (List.replicate (gd p 0).rows.length [.i 0,.i 0,.i 0,.i 0,.l []]),.i 0]
   nd o.isSome (nd (o.code==2) (some (1,[gd o.pay 2]))))):=by kernel_rfl
def toRecSE:Ent:=(150,e1 (sd (.sl 241)) fun p=>(⟨sd (.sl 116),[cpRecS (gd p 0)]⟩,okRecS (gd p 0)))
theorem toRecS_ok:EntOk Tryz.prog toRecSE:=e1_ok fun p h=>evFn_sound (N:=(gd p 0).rows.length+1) (ks:= [0,2,3,4,11]) (key:=bo) (find_ok (fC ⟨toRec_ok,fN⟩)) (enters Tryz.func150) Tryz.func150 fun hw=>by
 have h:okRecS (gd p 0)=true:=h
 simp only [okRecS,Bool.and_eq_true,decide_eq_true_eq,List.all_eq_true] at h
 rw [toRecS_ev,fill_loop (ok:=fun r=>okRec (sub r 0 5)) (f:=fun r=>cpRec (sub r 0 5)) [.i 0,.i 0,.i 0,.i 0,.l []] (wt_sl (hw ⟨sd (.sl 241),p⟩ (by simp))) h.2 (toRecS_rd p _ _ _) (by omega)]
 rw [show decide (((gd p 0).rows.length:Int)≤4294967296)=true from decide_eq_true (by omega),show decide (0≤((gd p 0).rows.length:Int))=true from decide_eq_true (by omega),decide_eq_true (rfl:((gd p 0).rows.length:Int)=_)]
 rfl
def eqRecS:D→D→Bool:=alikeS (fun r s=>eqRec (sub r 0 5) (sub s 0 5))
noncomputable def eqRecSL (N:Nat) (p q:List D):List D→Out:=loopOf Tryz.prog (find [eqRecE]) N [0,1,4,5,10,14,26] Tryz.f198 rb [⟨sd (.sl 116),p⟩,⟨sd (.sl 116),q⟩] 0
theorem eqRecS_rd (p q:List D) (N:Nat) (z u x y:D) (k:Int):eqRecSL N p q [z,u,x,y,.i k]=bif decide (k<z.rows.length) then nd (inRange k z.rows.length) (nd (inRange k u.rows.length) (bif !(eqRec (sub (z.rows.getD k.toNat []) 0 5) (sub (u.rows.getD k.toNat []) 0 5)) then ob false else nx [z,u,x,y,.i (w64 (k+1))])) else ex 0 [z,u,x,y,.i k]:=by kernel_rfl
theorem eqRecS_ev (p q:List D) (N:Nat):evFn Tryz.prog (find [eqRecE]) N [0,1,4,5,10,14,26] Tryz.f198 rb [⟨sd (.sl 116),p⟩,⟨sd (.sl 116),q⟩]=some (bo,bif !(((gd p 0).rows.length:Int)==(gd q 0).rows.length) then ob false else
  (let o:=iter (eqRecSL N p q) N [gd p 0,gd q 0,D0,.b (!(((gd p 0).rows.length:Int)==(gd q 0).rows.length)),.i 0]
   nd o.isSome (bif o.code==1 then some (1,o.pay) else nd (o.code==2) (ob true)))):=by kernel_rfl
def eqRecSE:Ent:=(198,e2 (sd (.sl 116)) (sd (.sl 116)) fun p q=>(⟨rb,[.b (eqRecS (gd p 0) (gd q 0))]⟩,true))
theorem eqRecS_ok:EntOk Tryz.prog eqRecSE:=e2_ok fun p q _=>evFn_sound (N:=(gd p 0).rows.length+1) (ks:= [0,1,4,5,10,14,26]) (key:=bo) (find_ok (fC ⟨eqRec_ok,fN⟩)) (enters Tryz.func198) Tryz.func198 fun hw=>by
 rw [eqRecS_ev]
 by_cases hl:(gd p 0).rows.length=(gd q 0).rows.length
 ·rw [like_loop (E:=(fun r s=>eqRec (sub r 0 5) (sub s 0 5))) (wt_sl (hw ⟨sd (.sl 116),p⟩ (by simp))) hl (eqRecS_rd p q _ _ _ _ _) (by omega)]
  rw [show ((((gd p 0).rows.length:Int))==(gd q 0).rows.length)=true from beq_iff_eq.2 (by omega)]
  show some (bo,_)=some (bo,some (1,[D.b (alikeS (fun r s=>eqRec (sub r 0 5) (sub s 0 5)) (gd p 0) (gd q 0))]))
  cases alikeS (fun r s=>eqRec (sub r 0 5) (sub s 0 5)) (gd p 0) (gd q 0) <;> rfl
 ·rw [show ((((gd p 0).rows.length:Int))==(gd q 0).rows.length)=false from beq_eq_false_iff_ne.2 (by omega)]
  show some (bo,_)=some (bo,some (1,[D.b (alikeS (fun r s=>eqRec (sub r 0 5) (sub s 0 5)) (gd p 0) (gd q 0))]))
  rw [show alikeS (fun r s=>eqRec (sub r 0 5) (sub s 0 5)) (gd p 0) (gd q 0)=false from by simp [alikeS,hl]]
  rfl
theorem eqRecS_refl (z:D):eqRecS z z=true:=alikeS_refl (fun r=>by exact eqRec_refl _) z
def sizeRecS (z:D):Nat:=z.rows.length+total (fun r=>sizeRec (sub r 0 5)) z.rows
noncomputable def szRecSL (N:Nat) (p q:List D):List D→Out:=loopOf Tryz.prog (find [szRecE]) N [0,1,4,5,11,15,25] Tryz.f121 ri [⟨sd (.sl 241),p⟩,⟨ri,q⟩] 0
theorem szRecS_rd (p q:List D) (N:Nat) (z x y:D) (n k:Int):szRecSL N p q [z,.i n,x,y,.i k]=bif decide (k<z.rows.length) then nd (inRange k z.rows.length) (nd (fair n) (bif decide (left (sizeRec (sub (z.rows.getD k.toNat []) 0 5)) n<0) then oi (-1) else nx [z,.i (left (sizeRec (sub (z.rows.getD k.toNat []) 0 5)) n),x,y,.i (w64 (k+1))])) else ex 0 [z,.i n,x,y,.i k]:=by kernel_rfl
theorem szRecS_ev (p q:List D) (N:Nat):evFn Tryz.prog (find [szRecE]) N [0,1,4,5,11,15,25] Tryz.f121 ri [⟨sd (.sl 241),p⟩,⟨ri,q⟩]=some (bo,bif decide (w64 ((gd q 0).int - (gd p 0).rows.length)<0) then oi (-1) else
  (let o:=iter (szRecSL N p q) N [gd p 0,.i (w64 ((gd q 0).int - (gd p 0).rows.length)),.i 0,.b (decide (w64 ((gd q 0).int - (gd p 0).rows.length)<0)),.i 0]
   nd o.isSome (bif o.code==1 then some (1,o.pay) else nd (o.code==2) (some (1,[gd o.pay 1]))))):=by kernel_rfl
def szRecSE:Ent:=(121,e2 (sd (.sl 241)) ri fun p q=>(⟨ri,[.i (left (sizeRecS (gd p 0)) (gd q 0).int)]⟩,fair (gd q 0).int))
theorem szRecS_ok:EntOk Tryz.prog szRecSE:=e2_ok fun p q h=>evFn_sound (N:=(gd p 0).rows.length+1) (ks:= [0,1,4,5,11,15,25]) (key:=bo) (find_ok (fC ⟨szRec_ok,fN⟩)) (enters Tryz.func121) Tryz.func121 fun hw=>by
 have h:fair (gd q 0).int=true:=h
 have hl:=wt_sl (hw ⟨sd (.sl 241),p⟩ (by simp))
 have h2:0≤(gd q 0).int∧(gd q 0).int≤1048576:=by simpa [fair] using h
 rw [szRecS_ev,w64_id (by omega) (by omega)]
 by_cases hn:(gd q 0).int - ((gd p 0).rows.length:Int)<0
 ·rw [decide_eq_true hn,cond_true]
  have e:left (sizeRecS (gd p 0)) (gd q 0).int = -1:=if_neg (by simp only [sizeRecS]; push_cast; omega)
  rw [e]
 ·rw [decide_eq_false hn,cond_false]
  have:=size_loop (size:=fun r=>sizeRec (sub r 0 5)) hl (szRecS_rd p q ((gd p 0).rows.length+1) (gd p 0) (.i 0) (.b false)) (gd p 0).rows.length 0 ((gd p 0).rows.length+1) ((gd q 0).int - ((gd p 0).rows.length:Int)) (by omega) (by omega) (by omega) (by omega)
  simp only [Int.natCast_zero,List.drop_zero] at this
  rw [this]
  by_cases hq:(total (fun r=>sizeRec (sub r 0 5)) (gd p 0).rows:Int)≤(gd q 0).int - ((gd p 0).rows.length:Int)
  ·have e:left (sizeRecS (gd p 0)) (gd q 0).int=(gd q 0).int - ((gd p 0).rows.length:Int) - (total (fun r=>sizeRec (sub r 0 5)) (gd p 0).rows:Int):=by
    rw [left,if_pos (by simp only [sizeRecS]; push_cast; omega)]
    simp only [sizeRecS]; push_cast; omega
   rw [if_pos hq,e]
   rfl
  ·have e:left (sizeRecS (gd p 0)) (gd q 0).int = -1:=if_neg (by simp only [sizeRecS]; push_cast; omega)
   rw [if_neg hq,e]
   rfl
end Go.Proofs.YtchceahcaaibcaaGreat
namespace Go.Proofs.YtchceahcaaibcaaGreat
set_option maxRecDepth 4096
def rLCoord:List S:= [.sl 241,.sl 3]
def rICoord:List S:= [.sl 116,.sl 3]
def cpCoord (p:List D):List D:= [cpRecS (gd p 0),cpIntS (gd p 1)]
def okCoord (p:List D):Bool:=okRecS (gd p 0)&&okIntS (gd p 1)
theorem toCoord_ev (p:List D) (N:Nat):evFn Tryz.prog (find [toRecSE,toIntSE]) N [0,1,2,3] Tryz.f56 (ag rICoord) [⟨ag rLCoord,p⟩]=some (bo,nd (okRecS (gd p 0)) (nd (okIntS (gd p 1)) (some (1,cpCoord p)))):=by kernel_rfl
def toCoordE:Ent:=(56,e1 (ag rLCoord) fun p=>(⟨ag rICoord,cpCoord p⟩,okCoord p))
theorem toCoord_ok:EntOk Tryz.prog toCoordE:=e1_ok fun p h=>evFn_sound (N:=0) (ks:= [0,1,2,3]) (key:=bo) (find_ok (fC ⟨toRecS_ok,fC ⟨toIntS_ok,fN⟩⟩)) (enters Tryz.func56) Tryz.func56 fun _=>by
 have h:okCoord p=true:=h
 simp only [okCoord,Bool.and_eq_true] at h
 rw [toCoord_ev]
 simp only [nd,h.1,h.2,cond_true]
def eqCoord (p q:List D):Bool:=(eqRecS (gd p 0) (gd q 0))&&((eqIntS (gd p 1) (gd q 1))&&(true))
theorem eqCoord_ev (p q:List D) (N:Nat):evFn Tryz.prog (find [eqRecSE,eqIntSE]) N [0,1,2,3,4,10,16] Tryz.f77 rb [⟨ag rICoord,p⟩,⟨ag rICoord,q⟩]=some (bo,bif !(eqRecS (gd p 0) (gd q 0)) then ob false else bif !(eqIntS (gd p 1) (gd q 1)) then ob false else ob true):=by kernel_rfl
def eqCoordE:Ent:=(77,e2 (ag rICoord) (ag rICoord) fun p q=>(⟨rb,[.b (eqCoord p q)]⟩,true))
theorem eqCoord_ok:EntOk Tryz.prog eqCoordE:=e2_ok fun p q _=>evFn_sound (N:=0) (ks:= [0,1,2,3,4,10,16]) (key:=bo) (find_ok (fC ⟨eqRecS_ok,fC ⟨eqIntS_ok,fN⟩⟩)) (enters Tryz.func77) Tryz.func77 fun _=>by
 rw [eqCoord_ev]
 simp only [ne_step]
 rfl
theorem eqCoord_refl (p:List D):eqCoord p p=true:=by
 simp [eqCoord,eqRecS_refl,eqIntS_refl]
def sizeCoord (p:List D):Nat:=sizeRecS (gd p 0)+sizeIntS (gd p 1)
theorem szCoord_ev (p q:List D) (N:Nat):evFn Tryz.prog (find [szRecSE,szIntSE]) N [0,1,2,4,10,16] Tryz.f42 ri [⟨ag rLCoord,p⟩,⟨ri,q⟩]=some (bo,nd (fair (gd q 0).int) (bif decide (left (sizeRecS (gd p 0)) (gd q 0).int<0) then oi (-1) else nd (fair (left (sizeRecS (gd p 0)) (gd q 0).int)) (bif decide (left (sizeIntS (gd p 1)) (left (sizeRecS (gd p 0)) (gd q 0).int)<0) then oi (-1) else oi (left (sizeIntS (gd p 1)) (left (sizeRecS (gd p 0)) (gd q 0).int))))):=by kernel_rfl
def szCoordE:Ent:=(42,e2 (ag rLCoord) ri fun p q=>(⟨ri,[.i (left (sizeCoord p) (gd q 0).int)]⟩,fair (gd q 0).int))
theorem szCoord_ok:EntOk Tryz.prog szCoordE:=e2_ok fun p q h=>evFn_sound (N:=0) (ks:= [0,1,2,4,10,16]) (key:=bo) (find_ok (fC ⟨szRecS_ok,fC ⟨szIntS_ok,fN⟩⟩)) (enters Tryz.func42) Tryz.func42 fun _=>by
 have h:fair (gd q 0).int=true:=h
 rw [szCoord_ev]
 by_cases h2:left (sizeRecS (gd p 0)) (gd q 0).int<0
 ·have e:=left_left (sizeRecS (gd p 0)) (sizeIntS (gd p 1)) (gd q 0).int
  rw [if_pos h2] at e
  simp only [nd,h,cond_true,h2,decide_true,sizeCoord,← e]
 ·have e:=left_left (sizeRecS (gd p 0)) (sizeIntS (gd p 1)) (gd q 0).int
  rw [if_neg h2] at e
  simp only [nd,h,cond_true,cond_false,h2,decide_false,fair_left h h2,oi_if,left_neg,sizeCoord,← e]
end Go.Proofs.YtchceahcaaibcaaGreat
namespace Go.Proofs.YtchceahcaaibcaaGreat
set_option maxRecDepth 4096
def rLEvent:List S:= [si,si,si,si,si,.sl 308,.bool]
def rIEvent:List S:= [si,si,si,si,si,.sl 176,.bool]
def cpEvent (p:List D):List D:= [gd p 0,gd p 1,gd p 2,gd p 3,gd p 4,cpCellS (gd p 5),gd p 6]
def okEvent (p:List D):Bool:=okCellS (gd p 5)
theorem toEvent_ev (p:List D) (N:Nat):evFn Tryz.prog (find [toCellSE]) N [0,1,2,3] Tryz.f154 (ag rIEvent) [⟨ag rLEvent,p⟩]=some (bo,nd (okCellS (gd p 5)) (some (1,cpEvent p))):=by kernel_rfl
def toEventE:Ent:=(154,e1 (ag rLEvent) fun p=>(⟨ag rIEvent,cpEvent p⟩,okEvent p))
theorem toEvent_ok:EntOk Tryz.prog toEventE:=e1_ok fun p h=>evFn_sound (N:=0) (ks:= [0,1,2,3]) (key:=bo) (find_ok (fC ⟨toCellS_ok,fN⟩)) (enters Tryz.func154) Tryz.func154 fun _=>by
 have h:okEvent p=true:=h
 simp only [okEvent,Bool.and_eq_true] at h
 rw [toEvent_ev]
 simp only [nd,h,cond_true]
def eqEvent (p q:List D):Bool:=((gd p 0).int==(gd q 0).int)&&(((gd p 1).int==(gd q 1).int)&&(((gd p 2).int==(gd q 2).int)&&(((gd p 3).int==(gd q 3).int)&&(((gd p 4).int==(gd q 4).int)&&((eqCellS (gd p 5) (gd q 5))&&(((gd p 6).bool==(gd q 6).bool)&&(true)))))))
theorem eqEvent_ev (p q:List D) (N:Nat):evFn Tryz.prog (find [eqCellSE]) N [0,1,2,3,4,9,14,19,24,29,35,40] Tryz.f201 rb [⟨ag rIEvent,p⟩,⟨ag rIEvent,q⟩]=some (bo,bif !((gd p 0).int==(gd q 0).int) then ob false else bif !((gd p 1).int==(gd q 1).int) then ob false else bif !((gd p 2).int==(gd q 2).int) then ob false else bif !((gd p 3).int==(gd q 3).int) then ob false else bif !((gd p 4).int==(gd q 4).int) then ob false else bif !(eqCellS (gd p 5) (gd q 5)) then ob false else bif !((gd p 6).bool==(gd q 6).bool) then ob false else ob true):=by kernel_rfl
def eqEventE:Ent:=(201,e2 (ag rIEvent) (ag rIEvent) fun p q=>(⟨rb,[.b (eqEvent p q)]⟩,true))
theorem eqEvent_ok:EntOk Tryz.prog eqEventE:=e2_ok fun p q _=>evFn_sound (N:=0) (ks:= [0,1,2,3,4,9,14,19,24,29,35,40]) (key:=bo) (find_ok (fC ⟨eqCellS_ok,fN⟩)) (enters Tryz.func201) Tryz.func201 fun _=>by
 rw [eqEvent_ev]
 simp only [ne_step]
 rfl
theorem eqEvent_refl (p:List D):eqEvent p p=true:=by
 simp [eqEvent,eqCellS_refl]
def sizeEvent (p:List D):Nat:=sizeCellS (gd p 5)
theorem szEvent_ev (p q:List D) (N:Nat):evFn Tryz.prog (find [szCellSE]) N [0,1,2,4,10] Tryz.f125 ri [⟨ag rLEvent,p⟩,⟨ri,q⟩]=some (bo,nd (fair (gd q 0).int) (bif decide (left (sizeCellS (gd p 5)) (gd q 0).int<0) then oi (-1) else oi (left (sizeCellS (gd p 5)) (gd q 0).int))):=by kernel_rfl
def szEventE:Ent:=(125,e2 (ag rLEvent) ri fun p q=>(⟨ri,[.i (left (sizeEvent p) (gd q 0).int)]⟩,fair (gd q 0).int))
theorem szEvent_ok:EntOk Tryz.prog szEventE:=e2_ok fun p q h=>evFn_sound (N:=0) (ks:= [0,1,2,4,10]) (key:=bo) (find_ok (fC ⟨szCellS_ok,fN⟩)) (enters Tryz.func125) Tryz.func125 fun _=>by
 have h:fair (gd q 0).int=true:=h
 rw [szEvent_ev]
 simp only [nd,h,cond_true,oi_if,left_neg]
 rfl
def cpEventS (z:D):D:=.l (z.rows.map fun r=>cpEvent (sub r 0 7))
def okEventS (z:D):Bool:=decide (z.rows.length≤4294967296)&&z.rows.all fun r=>okEvent (sub r 0 7)
noncomputable def toEventSL (N:Nat) (p:List D):List D→Out:=loopOf Tryz.prog (find [toEventE]) N [0,2,3,4,11] Tryz.f59 (sd (.sl 88)) [⟨sd (.sl 167),p⟩] 0
theorem toEventS_rd (p:List D) (N:Nat) (z x2:D) (rows:List (List D)) (k:Int):toEventSL N p [z,x2,.l rows,.i k]=bif decide (k<z.rows.length) then nd (inRange k z.rows.length) (nd (okEvent (sub (z.rows.getD k.toNat []) 0 7)) (nd (inRange k rows.length) (nx [z,x2,.l (rows.set k.toNat (cpEvent (sub (z.rows.getD k.toNat []) 0 7))),.i (w64 (k+1))]))) else ex 0 [z,x2,.l rows,.i k]:=by kernel_rfl
theorem toEventS_ev (p:List D) (N:Nat):evFn Tryz.prog (find [toEventE]) N [0,2,3,4,11] Tryz.f59 (sd (.sl 88)) [⟨sd (.sl 167),p⟩]=some (bo,nd (decide (0≤((gd p 0).rows.length:Int))&&decide (((gd p 0).rows.length:Int)=((gd p 0).rows.length:Int))&&decide (((gd p 0).rows.length:Int)≤4294967296)&&true&&true)
  (let o:=iter (toEventSL N p) N [gd p 0,.l [],.l (List.replicate (gd p 0).rows.length [.i 0,.i 0,.i 0,.i 0,.i 0,.l [],.b false]),.i 0]
   nd o.isSome (nd (o.code==2) (some (1,[gd o.pay 2]))))):=by kernel_rfl
def toEventSE:Ent:=(59,e1 (sd (.sl 167)) fun p=>(⟨sd (.sl 88),[cpEventS (gd p 0)]⟩,okEventS (gd p 0)))
theorem toEventS_ok:EntOk Tryz.prog toEventSE:=e1_ok fun p h=>evFn_sound (N:=(gd p 0).rows.length+1) (ks:= [0,2,3,4,11]) (key:=bo) (find_ok (fC ⟨toEvent_ok,fN⟩)) (enters Tryz.func59) Tryz.func59 fun hw=>by
 have h:okEventS (gd p 0)=true:=h
 simp only [okEventS,Bool.and_eq_true,decide_eq_true_eq,List.all_eq_true] at h
 rw [toEventS_ev,fill_loop (ok:=fun r=>okEvent (sub r 0 7)) (f:=fun r=>cpEvent (sub r 0 7)) [.i 0,.i 0,.i 0,.i 0,.i 0,.l [],.b false] (wt_sl (hw ⟨sd (.sl 167),p⟩ (by simp))) h.2 (toEventS_rd p _ _ _) (by omega)]
 rw [show decide (((gd p 0).rows.length:Int)≤4294967296)=true from decide_eq_true (by omega),show decide (0≤((gd p 0).rows.length:Int))=true from decide_eq_true (by omega),decide_eq_true (rfl:((gd p 0).rows.length:Int)=_)]
 rfl
def eqEventS:D→D→Bool:=alikeS (fun r s=>eqEvent (sub r 0 7) (sub s 0 7))
noncomputable def eqEventSL (N:Nat) (p q:List D):List D→Out:=loopOf Tryz.prog (find [eqEventE]) N [0,1,4,5,10,14,26] Tryz.f80 rb [⟨sd (.sl 88),p⟩,⟨sd (.sl 88),q⟩] 0
theorem eqEventS_rd (p q:List D) (N:Nat) (z u x y:D) (k:Int):eqEventSL N p q [z,u,x,y,.i k]=bif decide (k<z.rows.length) then nd (inRange k z.rows.length) (nd (inRange k u.rows.length) (bif !(eqEvent (sub (z.rows.getD k.toNat []) 0 7) (sub (u.rows.getD k.toNat []) 0 7)) then ob false else nx [z,u,x,y,.i (w64 (k+1))])) else ex 0 [z,u,x,y,.i k]:=by kernel_rfl
theorem eqEventS_ev (p q:List D) (N:Nat):evFn Tryz.prog (find [eqEventE]) N [0,1,4,5,10,14,26] Tryz.f80 rb [⟨sd (.sl 88),p⟩,⟨sd (.sl 88),q⟩]=some (bo,bif !(((gd p 0).rows.length:Int)==(gd q 0).rows.length) then ob false else
  (let o:=iter (eqEventSL N p q) N [gd p 0,gd q 0,D0,.b (!(((gd p 0).rows.length:Int)==(gd q 0).rows.length)),.i 0]
   nd o.isSome (bif o.code==1 then some (1,o.pay) else nd (o.code==2) (ob true)))):=by kernel_rfl
def eqEventSE:Ent:=(80,e2 (sd (.sl 88)) (sd (.sl 88)) fun p q=>(⟨rb,[.b (eqEventS (gd p 0) (gd q 0))]⟩,true))
theorem eqEventS_ok:EntOk Tryz.prog eqEventSE:=e2_ok fun p q _=>evFn_sound (N:=(gd p 0).rows.length+1) (ks:= [0,1,4,5,10,14,26]) (key:=bo) (find_ok (fC ⟨eqEvent_ok,fN⟩)) (enters Tryz.func80) Tryz.func80 fun hw=>by
 rw [eqEventS_ev]
 by_cases hl:(gd p 0).rows.length=(gd q 0).rows.length
 ·rw [like_loop (E:=(fun r s=>eqEvent (sub r 0 7) (sub s 0 7))) (wt_sl (hw ⟨sd (.sl 88),p⟩ (by simp))) hl (eqEventS_rd p q _ _ _ _ _) (by omega)]
  rw [show ((((gd p 0).rows.length:Int))==(gd q 0).rows.length)=true from beq_iff_eq.2 (by omega)]
  show some (bo,_)=some (bo,some (1,[D.b (alikeS (fun r s=>eqEvent (sub r 0 7) (sub s 0 7)) (gd p 0) (gd q 0))]))
  cases alikeS (fun r s=>eqEvent (sub r 0 7) (sub s 0 7)) (gd p 0) (gd q 0) <;> rfl
 ·rw [show ((((gd p 0).rows.length:Int))==(gd q 0).rows.length)=false from beq_eq_false_iff_ne.2 (by omega)]
  show some (bo,_)=some (bo,some (1,[D.b (alikeS (fun r s=>eqEvent (sub r 0 7) (sub s 0 7)) (gd p 0) (gd q 0))]))
  rw [show alikeS (fun r s=>eqEvent (sub r 0 7) (sub s 0 7)) (gd p 0) (gd q 0)=false from by simp [alikeS,hl]]
  rfl
theorem eqEventS_refl (z:D):eqEventS z z=true:=alikeS_refl (fun r=>by exact eqEvent_refl _) z
def sizeEventS (z:D):Nat:=z.rows.length+total (fun r=>sizeEvent (sub r 0 7)) z.rows
noncomputable def szEventSL (N:Nat) (p q:List D):List D→Out:=loopOf Tryz.prog (find [szEventE]) N [0,1,4,5,11,15,25] Tryz.f45 ri [⟨sd (.sl 167),p⟩,⟨ri,q⟩] 0
theorem szEventS_rd (p q:List D) (N:Nat) (z x y:D) (n k:Int):szEventSL N p q [z,.i n,x,y,.i k]=bif decide (k<z.rows.length) then nd (inRange k z.rows.length) (nd (fair n) (bif decide (left (sizeEvent (sub (z.rows.getD k.toNat []) 0 7)) n<0) then oi (-1) else nx [z,.i (left (sizeEvent (sub (z.rows.getD k.toNat []) 0 7)) n),x,y,.i (w64 (k+1))])) else ex 0 [z,.i n,x,y,.i k]:=by kernel_rfl
theorem szEventS_ev (p q:List D) (N:Nat):evFn Tryz.prog (find [szEventE]) N [0,1,4,5,11,15,25] Tryz.f45 ri [⟨sd (.sl 167),p⟩,⟨ri,q⟩]=some (bo,bif decide (w64 ((gd q 0).int - (gd p 0).rows.length)<0) then oi (-1) else
  (let o:=iter (szEventSL N p q) N [gd p 0,.i (w64 ((gd q 0).int - (gd p 0).rows.length)),.i 0,.b (decide (w64 ((gd q 0).int - (gd p 0).rows.length)<0)),.i 0]
   nd o.isSome (bif o.code==1 then some (1,o.pay) else nd (o.code==2) (some (1,[gd o.pay 1]))))):=by kernel_rfl
def szEventSE:Ent:=(45,e2 (sd (.sl 167)) ri fun p q=>(⟨ri,[.i (left (sizeEventS (gd p 0)) (gd q 0).int)]⟩,fair (gd q 0).int))
theorem szEventS_ok:EntOk Tryz.prog szEventSE:=e2_ok fun p q h=>evFn_sound (N:=(gd p 0).rows.length+1) (ks:= [0,1,4,5,11,15,25]) (key:=bo) (find_ok (fC ⟨szEvent_ok,fN⟩)) (enters Tryz.func45) Tryz.func45 fun hw=>by
 have h:fair (gd q 0).int=true:=h
 have hl:=wt_sl (hw ⟨sd (.sl 167),p⟩ (by simp))
 have h2:0≤(gd q 0).int∧(gd q 0).int≤1048576:=by simpa [fair] using h
 rw [szEventS_ev,w64_id (by omega) (by omega)]
 by_cases hn:(gd q 0).int - ((gd p 0).rows.length:Int)<0
 ·rw [decide_eq_true hn,cond_true]
  have e:left (sizeEventS (gd p 0)) (gd q 0).int = -1:=if_neg (by simp only [sizeEventS]; push_cast; omega)
  rw [e]
 ·rw [decide_eq_false hn,cond_false]
  have:=size_loop (size:=fun r=>sizeEvent (sub r 0 7)) hl (szEventS_rd p q ((gd p 0).rows.length+1) (gd p 0) (.i 0) (.b false)) (gd p 0).rows.length 0 ((gd p 0).rows.length+1) ((gd q 0).int - ((gd p 0).rows.length:Int)) (by omega) (by omega) (by omega) (by omega)
  simp only [Int.natCast_zero,List.drop_zero] at this
  rw [this]
  by_cases hq:(total (fun r=>sizeEvent (sub r 0 7)) (gd p 0).rows:Int)≤(gd q 0).int - ((gd p 0).rows.length:Int)
  ·have e:left (sizeEventS (gd p 0)) (gd q 0).int=(gd q 0).int - ((gd p 0).rows.length:Int) - (total (fun r=>sizeEvent (sub r 0 7)) (gd p 0).rows:Int):=by
    rw [left,if_pos (by simp only [sizeEventS]; push_cast; omega)]
    simp only [sizeEventS]; push_cast; omega
   rw [if_pos hq,e]
   rfl
  ·have e:left (sizeEventS (gd p 0)) (gd q 0).int = -1:=if_neg (by simp only [sizeEventS]; push_cast; omega)
   rw [if_neg hq,e]
   rfl
end Go.Proofs.YtchceahcaaibcaaGreat
namespace Go.Proofs.YtchceahcaaibcaaGreat
set_option maxRecDepth 4096
theorem and_ob (c x:Bool):(bif c then ob x else ob false)=ob (c&&x):=by cases c <;> rfl
def inB (n a b:Int):Bool:=decide (n≥a)&&decide (n≤b)
theorem i_from_ev (p q r:List D) (N:Nat):evFn Tryz.prog (find []) N [0,1,2,6] Tryz.f61 (rb) [⟨ri,p⟩,⟨ri,q⟩,⟨ri,r⟩]=some (bo,bif decide ((gd p 0).int≥(gd q 0).int) then ob (decide ((gd p 0).int≤(gd r 0).int)) else ob false):=by kernel_rfl
def i_fromE:Ent:=(61,e3 (ri) (ri) (ri) fun p q r=>(⟨rb,[.b (inB (gd p 0).int (gd q 0).int (gd r 0).int)]⟩,true))
theorem i_from_ok:EntOk Tryz.prog i_fromE:=e3_ok fun p q r h=>evFn_sound (N:=0) (ks:= [0,1,2,6]) (key:=bo) (find_ok (fN)) (enters Tryz.func61) Tryz.func61 fun _=>by
 rw [i_from_ev]
 rw [and_ob]; rfl
theorem s_l1In_ev (p q r:List D) (N:Nat):evFn Tryz.prog (find []) N [0,1,2,6] Tryz.f47 (rb) [⟨ri,p⟩,⟨ri,q⟩,⟨ri,r⟩]=some (bo,bif decide ((gd p 0).int≥(gd q 0).int) then ob (decide ((gd p 0).int≤(gd r 0).int)) else ob false):=by kernel_rfl
def s_l1InE:Ent:=(47,e3 (ri) (ri) (ri) fun p q r=>(⟨rb,[.b (inB (gd p 0).int (gd q 0).int (gd r 0).int)]⟩,true))
theorem s_l1In_ok:EntOk Tryz.prog s_l1InE:=e3_ok fun p q r h=>evFn_sound (N:=0) (ks:= [0,1,2,6]) (key:=bo) (find_ok (fN)) (enters Tryz.func47) Tryz.func47 fun _=>by
 rw [s_l1In_ev]
 rw [and_ob]; rfl
theorem i_isWhole_ev (p:List D) (N:Nat):evFn Tryz.prog (find [i_fromE]) N [0,2] Tryz.f255 (rb) [⟨ri,p⟩]=some (bo,ob (inB (gd p 0).int (0) (1000000000))):=by kernel_rfl
def i_isWholeE:Ent:=(255,e1 (ri) fun p=>(⟨rb,[.b (inB (gd p 0).int (0) (1000000000))]⟩,true))
theorem i_isWhole_ok:EntOk Tryz.prog i_isWholeE:=e1_ok fun p h=>evFn_sound (N:=0) (ks:= [0,2]) (key:=bo) (find_ok (fC ⟨i_from_ok,fN⟩)) (enters Tryz.func255) Tryz.func255 fun _=>by
 rw [i_isWhole_ev]
 skip
theorem i_isReq_ev (p:List D) (N:Nat):evFn Tryz.prog (find [i_fromE]) N [0,2] Tryz.f256 (rb) [⟨ri,p⟩]=some (bo,ob (inB (gd p 0).int (1) (1000000000))):=by kernel_rfl
def i_isReqE:Ent:=(256,e1 (ri) fun p=>(⟨rb,[.b (inB (gd p 0).int (1) (1000000000))]⟩,true))
theorem i_isReq_ok:EntOk Tryz.prog i_isReqE:=e1_ok fun p h=>evFn_sound (N:=0) (ks:= [0,2]) (key:=bo) (find_ok (fC ⟨i_from_ok,fN⟩)) (enters Tryz.func256) Tryz.func256 fun _=>by
 rw [i_isReq_ev]
 skip
theorem i_isAnswer_ev (p:List D) (N:Nat):evFn Tryz.prog (find [i_fromE]) N [0,2] Tryz.f274 (rb) [⟨ri,p⟩]=some (bo,ob (inB (gd p 0).int (-1) (1000000000))):=by kernel_rfl
def i_isAnswerE:Ent:=(274,e1 (ri) fun p=>(⟨rb,[.b (inB (gd p 0).int (-1) (1000000000))]⟩,true))
theorem i_isAnswer_ok:EntOk Tryz.prog i_isAnswerE:=e1_ok fun p h=>evFn_sound (N:=0) (ks:= [0,2]) (key:=bo) (find_ok (fC ⟨i_from_ok,fN⟩)) (enters Tryz.func274) Tryz.func274 fun _=>by
 rw [i_isAnswer_ev]
 skip
theorem i_isKey_ev (p:List D) (N:Nat):evFn Tryz.prog (find [i_fromE]) N [0,2] Tryz.f96 (rb) [⟨ri,p⟩]=some (bo,ob (inB (gd p 0).int (0) (999))):=by kernel_rfl
def i_isKeyE:Ent:=(96,e1 (ri) fun p=>(⟨rb,[.b (inB (gd p 0).int (0) (999))]⟩,true))
theorem i_isKey_ok:EntOk Tryz.prog i_isKeyE:=e1_ok fun p h=>evFn_sound (N:=0) (ks:= [0,2]) (key:=bo) (find_ok (fC ⟨i_from_ok,fN⟩)) (enters Tryz.func96) Tryz.func96 fun _=>by
 rw [i_isKey_ev]
 skip
theorem i_isGroup_ev (p:List D) (N:Nat):evFn Tryz.prog (find [i_fromE]) N [0,2] Tryz.f160 (rb) [⟨ri,p⟩]=some (bo,ob (inB (gd p 0).int (0) (3))):=by kernel_rfl
def i_isGroupE:Ent:=(160,e1 (ri) fun p=>(⟨rb,[.b (inB (gd p 0).int (0) (3))]⟩,true))
theorem i_isGroup_ok:EntOk Tryz.prog i_isGroupE:=e1_ok fun p h=>evFn_sound (N:=0) (ks:= [0,2]) (key:=bo) (find_ok (fC ⟨i_from_ok,fN⟩)) (enters Tryz.func160) Tryz.func160 fun _=>by
 rw [i_isGroup_ev]
 skip
theorem s_l1Whole_ev (p:List D) (N:Nat):evFn Tryz.prog (find [s_l1InE]) N [0,2] Tryz.f238 (rb) [⟨ri,p⟩]=some (bo,ob (inB (gd p 0).int (0) (1000000000))):=by kernel_rfl
def s_l1WholeE:Ent:=(238,e1 (ri) fun p=>(⟨rb,[.b (inB (gd p 0).int (0) (1000000000))]⟩,true))
theorem s_l1Whole_ok:EntOk Tryz.prog s_l1WholeE:=e1_ok fun p h=>evFn_sound (N:=0) (ks:= [0,2]) (key:=bo) (find_ok (fC ⟨s_l1In_ok,fN⟩)) (enters Tryz.func238) Tryz.func238 fun _=>by
 rw [s_l1Whole_ev]
 skip
theorem s_l10Key_ev (p:List D) (N:Nat):evFn Tryz.prog (find [s_l1InE]) N [0,2] Tryz.f94 (rb) [⟨ri,p⟩]=some (bo,ob (inB (gd p 0).int (0) (999))):=by kernel_rfl
def s_l10KeyE:Ent:=(94,e1 (ri) fun p=>(⟨rb,[.b (inB (gd p 0).int (0) (999))]⟩,true))
theorem s_l10Key_ok:EntOk Tryz.prog s_l10KeyE:=e1_ok fun p h=>evFn_sound (N:=0) (ks:= [0,2]) (key:=bo) (find_ok (fC ⟨s_l1In_ok,fN⟩)) (enters Tryz.func94) Tryz.func94 fun _=>by
 rw [s_l10Key_ev]
 skip
def rangeOk (p:List D):Bool:=decide ((gd p 0).int≥0)&&(decide ((gd p 0).int<(gd p 1).int)&&decide ((gd p 1).int≤1000))
theorem i_RangeOk_ev (p:List D) (N:Nat):evFn Tryz.prog (find []) N [0,1,2] Tryz.f188 (rb) [⟨ag rIRange,p⟩]=some (bo,bif decide ((gd p 0).int≥0) then bif decide ((gd p 0).int<(gd p 1).int) then ob (decide ((gd p 1).int≤1000)) else ob false else ob false):=by kernel_rfl
def i_RangeOkE:Ent:=(188,e1 (ag rIRange) fun p=>(⟨rb,[.b (rangeOk p)]⟩,true))
theorem i_RangeOk_ok:EntOk Tryz.prog i_RangeOkE:=e1_ok fun p h=>evFn_sound (N:=0) (ks:= [0,1,2]) (key:=bo) (find_ok (fN)) (enters Tryz.func188) Tryz.func188 fun _=>by
 rw [i_RangeOk_ev]
 simp only [and_ob]; rfl
theorem s_RangeOk_ev (p:List D) (N:Nat):evFn Tryz.prog (find []) N [0,1,2] Tryz.f128 (rb) [⟨ag rIRange,p⟩]=some (bo,bif decide ((gd p 0).int≥0) then bif decide ((gd p 0).int<(gd p 1).int) then ob (decide ((gd p 1).int≤1000)) else ob false else ob false):=by kernel_rfl
def s_RangeOkE:Ent:=(128,e1 (ag rIRange) fun p=>(⟨rb,[.b (rangeOk p)]⟩,true))
theorem s_RangeOk_ok:EntOk Tryz.prog s_RangeOkE:=e1_ok fun p h=>evFn_sound (N:=0) (ks:= [0,1,2]) (key:=bo) (find_ok (fN)) (enters Tryz.func128) Tryz.func128 fun _=>by
 rw [s_RangeOk_ev]
 simp only [and_ob]; rfl
end Go.Proofs.YtchceahcaaibcaaGreat
namespace Go.Proofs.YtchceahcaaibcaaGreat
set_option maxRecDepth 4096
def writeAt (z:D) (k:Nat):Bool:=inB (gd (z.rows.getD k []) 0).int 0 999&&(inB (gd (z.rows.getD k []) 1).int (-1) 1000000000&&(k==0 || !decide ((gd (z.rows.getD (k - 1) []) 0).int≥(gd (z.rows.getD k []) 0).int)))
def writesOk (z:D):Bool:=decide ((z.rows.length:Int)≤60)&&(List.range z.rows.length).all (writeAt z)
theorem pre_nat {k:Nat} (h:k≠0) (h':k≤9223372036854775807):w64 ((k:Int) - 1)=((k - 1:Nat):Int):=by
 rw [w64_id (by omega) (by omega)]; omega
noncomputable def swL (N:Nat) (p:List D):List D→Out:=loopOf Tryz.prog (find [s_l1InE,s_l10KeyE]) N [0,2,3,6,10,46] Tryz.f143 rb [⟨sd (.sl 132),p⟩] 0
theorem sw_rd (p:List D) (N:Nat) (z x2 y:D) (k:Int):swL N p [z,x2,y,.i k] =
 bif decide (k<z.rows.length) then nd (inRange k z.rows.length) (bif !(inB (gd (z.rows.getD k.toNat []) 0).int 0 999) then ob false else nd (inRange k z.rows.length) (bif !(inB (gd (z.rows.getD k.toNat []) 1).int (-1) 1000000000) then ob false else
  bif decide (k > 0) then nd (inRange (w64 (k - 1)) z.rows.length) (nd (inRange k z.rows.length) (bif decide ((gd (z.rows.getD (w64 (k - 1)).toNat []) 0).int≥(gd (z.rows.getD k.toNat []) 0).int) then ob false else nx [z,x2,y,.i (w64 (k+1))])) else nx [z,x2,y,.i (w64 (k+1))])) else ex 0 [z,x2,y,.i k]:=by kernel_rfl
theorem sw_ev (p:List D) (N:Nat):evFn Tryz.prog (find [s_l1InE,s_l10KeyE]) N [0,2,3,6,10,46] Tryz.f143 rb [⟨sd (.sl 132),p⟩]=some (bo,bif decide (((gd p 0).rows.length:Int) > 60) then ob false else
  (let o:=iter (swL N p) N [gd p 0,D0,.b (decide (((gd p 0).rows.length:Int) > 60)),.i 0]
  nd o.isSome (bif o.code==1 then some (1,o.pay) else nd (o.code==2) (ob true)))):=by kernel_rfl
noncomputable def iwL (N:Nat) (p:List D):List D→Out:=loopOf Tryz.prog (find [i_isKeyE,i_isAnswerE]) N [0,2,3,4,5,6,7,8,36] Tryz.f190 rb [⟨sd (.sl 132),p⟩] 0
theorem iw_rd (p:List D) (N:Nat) (z x2 z5:D) (n k:Int):iwL N p [z,x2,z5,.i n,.i k] =
  bif decide (k<n) then nd (inRange k z5.rows.length)
   (bif !(inB (gd (z5.rows.getD k.toNat []) 0).int 0 999) then ob false else bif !(inB (gd (z5.rows.getD k.toNat []) 1).int (-1) 1000000000) then ob false else
   bif decide (k > 0) then nd (inRange (w64 (k - 1)) z.rows.length) (bif decide ((gd (z.rows.getD (w64 (k - 1)).toNat []) 0).int≥(gd (z5.rows.getD k.toNat []) 0).int) then ob false else nx [z,x2,z5,.i n,.i (w64 (k+1))]) else nx [z,x2,z5,.i n,.i (w64 (k+1))])
  else ex 0 [z,x2,z5,.i n,.i k]:=by kernel_rfl
theorem iw_ev (p:List D) (N:Nat):evFn Tryz.prog (find [i_isKeyE,i_isAnswerE]) N [0,2,3,4,5,6,7,8,36] Tryz.f190 rb [⟨sd (.sl 132),p⟩]=some (bo,
  (let o:=iter (iwL N p) N [gd p 0,D0,gd p 0,.i (gd p 0).rows.length,.i 0]
  nd o.isSome (bif o.code==1 then some (1,o.pay) else nd (o.code==2) (ob (decide (((gd o.pay 0).rows.length:Int)≤60)))))):=by kernel_rfl
def s_WritesOkE:Ent:=(143,e1 (sd (.sl 132)) fun p=>(⟨rb,[.b (writesOk (gd p 0))]⟩,true))
def i_WritesOkE:Ent:=(190,e1 (sd (.sl 132)) fun p=>(⟨rb,[.b (writesOk (gd p 0))]⟩,true))
theorem s_WritesOk_ok:EntOk Tryz.prog s_WritesOkE:=e1_ok fun p _=>evFn_sound (N:=(gd p 0).rows.length+1) (ks:= [0,2,3,6,10,46]) (key:=bo) (find_ok (fC ⟨s_l1In_ok,fC ⟨s_l10Key_ok,fN⟩⟩)) (enters Tryz.func143) Tryz.func143 fun hw=>by
 have hl:=wt_sl (hw ⟨sd (.sl 132),p⟩ (by simp))
 rw [sw_ev]
 by_cases h60:((gd p 0).rows.length:Int)≤60
 ·have e:=all_loop (L:=swL ((gd p 0).rows.length+1) p) (fun k => [gd p 0,D0,.b (decide (((gd p 0).rows.length:Int) > 60)),.i (k:Int)]) (gd p 0).rows.length (writeAt (gd p 0)) [.b false] [gd p 0,D0,.b (decide (((gd p 0).rows.length:Int) > 60)),.i (gd p 0).rows.length] 0 (fun k hk=>?_) ?_ (Nat.lt_succ_self _)
  ·simp only [Int.natCast_zero] at e
   rw [e,show decide (((gd p 0).rows.length:Int) > 60)=false from decide_eq_false (by omega)]
   simp only [writesOk,h60,decide_true,Bool.true_and]
   cases (List.range (gd p 0).rows.length).all (writeAt (gd p 0)) <;> rfl
  ·show swL _ p [gd p 0,D0,_,.i (k:Int)]=_
   rw [sw_rd,decide_eq_true (show (k:Int)<(gd p 0).rows.length from by omega),inRange_nat hk]
   simp only [cond_true,nd,Int.toNat_natCast,writeAt]
   cases inB (gd ((gd p 0).rows.getD k []) 0).int 0 999 <;> simp only [Bool.not_true,Bool.not_false,cond_true,cond_false,Bool.false_and,Bool.true_and] <;> first | rfl | skip
   cases inB (gd ((gd p 0).rows.getD k []) 1).int (-1) 1000000000 <;> simp only [Bool.not_true,Bool.not_false,cond_true,cond_false,Bool.false_and,Bool.true_and] <;> first | rfl | skip
   rw [w64_id (x:=(k:Int)+1) (by omega) (by omega)]
   by_cases h0:k=0
   ·subst h0; rfl
   ·rw [decide_eq_true (show (k:Int) > 0 from by omega),pre_nat h0 (by omega),inRange_nat (show k - 1<(gd p 0).rows.length from by omega),show (k==0)=false from by simpa using h0]
    simp only [cond_true,Int.toNat_natCast,Bool.false_or]
    cases decide ((gd ((gd p 0).rows.getD (k - 1) []) 0).int≥(gd ((gd p 0).rows.getD k []) 0).int) <;> rfl
  ·show swL _ p [gd p 0,D0,_,.i ((gd p 0).rows.length:Int)]=_
   rw [sw_rd,decide_eq_false (show ¬ ((gd p 0).rows.length:Int)<(gd p 0).rows.length from by omega)]
   rfl
 ·rw [decide_eq_true (show ((gd p 0).rows.length:Int) > 60 from by omega)]
  simp only [writesOk,h60,decide_false,Bool.false_and]
  rfl
theorem i_WritesOk_ok:EntOk Tryz.prog i_WritesOkE:=e1_ok fun p _=>evFn_sound (N:=(gd p 0).rows.length+1) (ks:= [0,2,3,4,5,6,7,8,36]) (key:=bo) (find_ok (fC ⟨i_isKey_ok,fC ⟨i_isAnswer_ok,fN⟩⟩)) (enters Tryz.func190) Tryz.func190 fun hw=>by
 have hl:=wt_sl (hw ⟨sd (.sl 132),p⟩ (by simp))
 have e:=all_loop (L:=iwL ((gd p 0).rows.length+1) p) (fun k => [gd p 0,D0,gd p 0,.i (gd p 0).rows.length,.i (k:Int)]) (gd p 0).rows.length (writeAt (gd p 0)) [.b false] [gd p 0,D0,gd p 0,.i (gd p 0).rows.length,.i (gd p 0).rows.length] 0 (fun k hk=>?_) ?_ (Nat.lt_succ_self _)
 ·simp only [Int.natCast_zero] at e
  rw [iw_ev,e]
  cases hq:(List.range (gd p 0).rows.length).all (writeAt (gd p 0))
  ·simp only [writesOk,hq,Bool.and_false]; rfl
  ·simp only [writesOk,hq,Bool.and_true]; rfl
 ·show iwL _ p [gd p 0,D0,gd p 0,.i _,.i (k:Int)]=_
  rw [iw_rd,decide_eq_true (show (k:Int)<(gd p 0).rows.length from by omega),inRange_nat hk]
  simp only [cond_true,nd,Int.toNat_natCast,writeAt]
  cases inB (gd ((gd p 0).rows.getD k []) 0).int 0 999 <;> simp only [Bool.not_true,Bool.not_false,cond_true,cond_false,Bool.false_and,Bool.true_and] <;> first | rfl | skip
  cases inB (gd ((gd p 0).rows.getD k []) 1).int (-1) 1000000000 <;> simp only [Bool.not_true,Bool.not_false,cond_true,cond_false,Bool.false_and,Bool.true_and] <;> first | rfl | skip
  rw [w64_id (x:=(k:Int)+1) (by omega) (by omega)]
  by_cases h0:k=0
  ·subst h0; rfl
  ·rw [decide_eq_true (show (k:Int) > 0 from by omega),pre_nat h0 (by omega),inRange_nat (show k - 1<(gd p 0).rows.length from by omega),show (k==0)=false from by simpa using h0]
   simp only [cond_true,Int.toNat_natCast,Bool.false_or]
   cases decide ((gd ((gd p 0).rows.getD (k - 1) []) 0).int≥(gd ((gd p 0).rows.getD k []) 0).int) <;> rfl
 ·show iwL _ p [gd p 0,D0,gd p 0,.i _,.i ((gd p 0).rows.length:Int)]=_
  rw [iw_rd,decide_eq_false (show ¬ ((gd p 0).rows.length:Int)<(gd p 0).rows.length from by omega)]
  rfl
end Go.Proofs.YtchceahcaaibcaaGreat
namespace Go.Proofs.YtchceahcaaibcaaGreat
set_option maxRecDepth 4096
def ixF (C:Nat→Bool):Nat→Nat→Int
 | _,0 => -1
 | k,m+1=>bif C k then k else ixF C (k+1) m
theorem ixF_any (C:Nat→Bool):∀ (m k:Nat),decide (ixF C k m≥0)=(List.range m).any fun j=>C (k+j)
 | 0,k=>rfl
 | m+1,k=>by
  rw [ixF,List.range_succ_eq_map,List.any_cons,List.any_map]
  cases hc:C k with
  | true=>simp [hc]
  | false =>
   simp only [cond_false,Nat.add_zero,hc,Bool.false_or]
   rw [ixF_any C m (k+1)]
   congr 1
   funext j
   simp only [Function.comp]
   congr 1; omega
theorem ix_loop {L:List D→Out} (st:Nat→List D) (n:Nat) (C:Nat→Bool) (fin:List D) (h1:∀ k,k<n→L (st k)=some (bif C k then (1,[.i (k:Int)]) else (0,st (k+1)))) (h2:L (st n)=some (2,fin)) :
  ∀ (m k N:Nat),k+m=n→m<N→iter L N (st k)=some (bif decide (ixF C k m≥0) then (1,[.i (ixF C k m)]) else (2,fin)):=by
 intro m
 induction m with
 | zero =>
  intro k N hk hN
  obtain ⟨N,rfl⟩:∃ N',N=N'+1:=⟨N - 1,by omega⟩
  obtain rfl:k=n:=by omega
  rw [iter,h2]; rfl
 | succ m ih =>
  intro k N hk hN
  obtain ⟨N,rfl⟩:∃ N',N=N'+1:=⟨N - 1,by omega⟩
  rw [iter,h1 k (by omega),ixF]
  cases hc:C k with
  | true=>simp only [cond_true]; rw [decide_eq_true (show (k:Int)≥0 from by omega)]; rfl
  | false=>simp only [cond_false]; exact ih (k+1) N (by omega) (by omega)
def anyS (C:List D→Bool) (z:D):Bool:=(List.range z.rows.length).any fun k=>C (z.rows.getD k [])
theorem ixF_neg (C:Nat→Bool):∀ (m k:Nat),decide (ixF C k m≥0)=false→ixF C k m = -1
 | 0,k,_=>rfl
 | m+1,k,h=>by
  rw [ixF] at h ⊢
  cases hc:C k with
  | true=>rw [hc,cond_true,decide_eq_true (show (k:Int)≥0 from by omega)] at h; cases h
  | false=>rw [hc,cond_false] at h; rw [cond_false]; exact ixF_neg C m (k+1) h
theorem i_readsOk_1_ev (p:List D) (N:Nat):evFn Tryz.prog (find [i_RangeOkE]) N [0,1,2] Tryz.f273 (rb) [⟨ag rIRange,p⟩]=some (bo,ob (!rangeOk p)):=by kernel_rfl
def i_readsOk_1E:Ent:=(273,e1 (ag rIRange) fun p=>(⟨rb,[.b (!rangeOk p)]⟩,true))
theorem i_readsOk_1_ok:EntOk Tryz.prog i_readsOk_1E:=e1_ok fun p h=>evFn_sound (N:=0) (ks:= [0,1,2]) (key:=bo) (find_ok (fC ⟨i_RangeOk_ok,fN⟩)) (enters Tryz.func273) Tryz.func273 fun _=>by
 rw [i_readsOk_1_ev]
 skip
theorem i_votes_1_ev (p q:List D) (N:Nat):evFn Tryz.prog (find []) N [0,1,2,3] Tryz.f276 (rb) [⟨ag rIShare,p⟩,⟨.one (.c (.cptr [si] 0)),q⟩]=some (bo,ob ((gd p 3).int==(gd ((gd q 0).rows.getD 0 []) 0).int)):=by kernel_rfl
def i_votes_1E:Ent:=(276,e2 (ag rIShare) (.one (.c (.cptr [si] 0))) fun p q=>(⟨rb,[.b ((gd p 3).int==(gd ((gd q 0).rows.getD 0 []) 0).int)]⟩,true))
theorem i_votes_1_ok:EntOk Tryz.prog i_votes_1E:=e2_ok fun p q h=>evFn_sound (N:=0) (ks:= [0,1,2,3]) (key:=bo) (find_ok (fN)) (enters Tryz.func276) Tryz.func276 fun _=>by
 rw [i_votes_1_ev]
 skip
theorem i_CoordOk_1_ev (p q:List D) (N:Nat):evFn Tryz.prog (find []) N [0,1,2,3] Tryz.f159 (rb) [⟨ag rIRec,p⟩,⟨.one (.c (.cptr rIRec 0)),q⟩]=some (bo,bif ((gd p 1).int==(gd ((gd q 0).rows.getD 0 []) 1).int) then ob ((gd p 2).int==(gd ((gd q 0).rows.getD 0 []) 2).int) else ob false):=by kernel_rfl
def i_CoordOk_1E:Ent:=(159,e2 (ag rIRec) (.one (.c (.cptr rIRec 0))) fun p q=>(⟨rb,[.b (((gd p 1).int==(gd ((gd q 0).rows.getD 0 []) 1).int)&&((gd p 2).int==(gd ((gd q 0).rows.getD 0 []) 2).int))]⟩,true))
theorem i_CoordOk_1_ok:EntOk Tryz.prog i_CoordOk_1E:=e2_ok fun p q h=>evFn_sound (N:=0) (ks:= [0,1,2,3]) (key:=bo) (find_ok (fN)) (enters Tryz.func159) Tryz.func159 fun _=>by
 rw [i_CoordOk_1_ev]
 rw [and_ob]
def ixfRC (c:D) (r:List D):Bool:= !rangeOk r
noncomputable def ixfRL (N:Nat) (p q:List D):List D→Out:=loopOf Tryz.prog (find [i_readsOk_1E]) N [0,1,4,5,7,8,9,16] Tryz.f264 ri [⟨sd (.sl 122),p⟩,⟨.one (.c (.fn 273 [])),q⟩] 0
theorem ixfR_rd (p q:List D) (N:Nat) (z c x:D) (n k:Int):ixfRL N p q [z,c,x,.i n,.i k]=bif decide (k<n) then nd (inRange k z.rows.length) (bif ixfRC c (sub (z.rows.getD k.toNat []) 0 2) then oi k else nx [z,c,x,.i n,.i (w64 (k+1))]) else ex 0 [z,c,x,.i n,.i k]:=by kernel_rfl
theorem ixfR_ev (p q:List D) (N:Nat):evFn Tryz.prog (find [i_readsOk_1E]) N [0,1,4,5,7,8,9,16] Tryz.f264 ri [⟨sd (.sl 122),p⟩,⟨.one (.c (.fn 273 [])),q⟩]=some (bo,(let o:=iter (ixfRL N p q) N [gd p 0,gd q 0,.i 0,.i (gd p 0).rows.length,.i 0]
  nd o.isSome (bif o.code==1 then some (1,o.pay) else nd (o.code==2) (oi (-1))))):=by kernel_rfl
def ixfRE:Ent:=(264,e2 (sd (.sl 122)) (.one (.c (.fn 273 []))) fun p q=>(⟨ri,[.i (ixF (fun k=>ixfRC (gd q 0) (sub ((gd p 0).rows.getD k []) 0 2)) 0 (gd p 0).rows.length)]⟩,true))
theorem ixfR_ok:EntOk Tryz.prog ixfRE:=e2_ok fun p q _=>evFn_sound (N:=(gd p 0).rows.length+1) (ks:= [0,1,4,5,7,8,9,16]) (key:=bo) (find_ok (fC ⟨i_readsOk_1_ok,fN⟩)) (enters Tryz.func264) Tryz.func264 fun hw=>by
 have hl:=wt_sl (hw ⟨sd (.sl 122),p⟩ (by simp))
 have e:=ix_loop (L:=ixfRL ((gd p 0).rows.length+1) p q) (fun k => [gd p 0,gd q 0,.i 0,.i (gd p 0).rows.length,.i (k:Int)]) (gd p 0).rows.length (fun k=>ixfRC (gd q 0) (sub ((gd p 0).rows.getD k []) 0 2)) [gd p 0,gd q 0,.i 0,.i (gd p 0).rows.length,.i (gd p 0).rows.length] (fun k hk=>?_) ?_ (gd p 0).rows.length 0 ((gd p 0).rows.length+1) (by omega) (by omega)
 ·simp only [Int.natCast_zero] at e
  rw [ixfR_ev,e]
  have hno:∀ m k,decide (ixF (fun k=>ixfRC (gd q 0) (sub ((gd p 0).rows.getD k []) 0 2)) k m≥0)=false→ixF (fun k=>ixfRC (gd q 0) (sub ((gd p 0).rows.getD k []) 0 2)) k m = -1:=ixF_neg _
  cases hd:decide (ixF (fun k=>ixfRC (gd q 0) (sub ((gd p 0).rows.getD k []) 0 2)) 0 (gd p 0).rows.length≥0)
  ·rw [hno _ _ hd]; rfl
  ·rfl
 ·show ixfRL _ p q [gd p 0,gd q 0,.i 0,.i _,.i (k:Int)]=_
  rw [ixfR_rd,decide_eq_true (show (k:Int)<(gd p 0).rows.length from by omega),inRange_nat hk,w64_id (by omega) (by omega),Int.toNat_natCast]
  cases hcc:ixfRC (gd q 0) (sub ((gd p 0).rows.getD k []) 0 2) <;> rfl
 ·show ixfRL _ p q [gd p 0,gd q 0,.i 0,.i _,.i ((gd p 0).rows.length:Int)]=_
  rw [ixfR_rd,decide_eq_false (show ¬ ((gd p 0).rows.length:Int)<(gd p 0).rows.length from by omega)]
  rfl
theorem cofR_ev (p q:List D) (N:Nat):evFn Tryz.prog (find [ixfRE]) N [0,1,4] Tryz.f166 rb [⟨sd (.sl 122),p⟩,⟨.one (.c (.fn 273 [])),q⟩]=some (bo,ob (decide (ixF (fun k=>ixfRC (gd q 0) (sub ((gd p 0).rows.getD k []) 0 2)) 0 (gd p 0).rows.length≥0))):=by kernel_rfl
def cofRE:Ent:=(166,e2 (sd (.sl 122)) (.one (.c (.fn 273 []))) fun p q=>(⟨rb,[.b (anyS (fun r=>ixfRC (gd q 0) (sub r 0 2)) (gd p 0))]⟩,true))
theorem cofR_ok:EntOk Tryz.prog cofRE:=e2_ok fun p q _=>evFn_sound (N:=0) (ks:= [0,1,4]) (key:=bo) (find_ok (fC ⟨ixfR_ok,fN⟩)) (enters Tryz.func166) Tryz.func166 fun _=>by
 rw [cofR_ev,ixF_any]
 simp only [Nat.zero_add]
 rfl
def ixfVC (c:D) (r:List D):Bool:=((gd r 3).int==(gd ((gd (c.rows.getD 0 []) 0).rows.getD 0 []) 0).int)
noncomputable def ixfVL (N:Nat) (p q:List D):List D→Out:=loopOf Tryz.prog (find [i_votes_1E]) N [0,1,4,5,7,8,9,16] Tryz.f321 ri [⟨sd (.sl 118),p⟩,⟨.one (.c (.fn 276 [.cptr [si] 0])),q⟩] 0
theorem ixfV_rd (p q:List D) (N:Nat) (z c x:D) (n k:Int):ixfVL N p q [z,c,x,.i n,.i k]=bif decide (k<n) then nd (inRange k z.rows.length) (bif ixfVC c (sub (z.rows.getD k.toNat []) 0 4) then oi k else nx [z,c,x,.i n,.i (w64 (k+1))]) else ex 0 [z,c,x,.i n,.i k]:=by kernel_rfl
theorem ixfV_ev (p q:List D) (N:Nat):evFn Tryz.prog (find [i_votes_1E]) N [0,1,4,5,7,8,9,16] Tryz.f321 ri [⟨sd (.sl 118),p⟩,⟨.one (.c (.fn 276 [.cptr [si] 0])),q⟩]=some (bo,(let o:=iter (ixfVL N p q) N [gd p 0,gd q 0,.i 0,.i (gd p 0).rows.length,.i 0]
  nd o.isSome (bif o.code==1 then some (1,o.pay) else nd (o.code==2) (oi (-1))))):=by kernel_rfl
def ixfVE:Ent:=(321,e2 (sd (.sl 118)) (.one (.c (.fn 276 [.cptr [si] 0]))) fun p q=>(⟨ri,[.i (ixF (fun k=>ixfVC (gd q 0) (sub ((gd p 0).rows.getD k []) 0 4)) 0 (gd p 0).rows.length)]⟩,true))
theorem ixfV_ok:EntOk Tryz.prog ixfVE:=e2_ok fun p q _=>evFn_sound (N:=(gd p 0).rows.length+1) (ks:= [0,1,4,5,7,8,9,16]) (key:=bo) (find_ok (fC ⟨i_votes_1_ok,fN⟩)) (enters Tryz.func321) Tryz.func321 fun hw=>by
 have hl:=wt_sl (hw ⟨sd (.sl 118),p⟩ (by simp))
 have e:=ix_loop (L:=ixfVL ((gd p 0).rows.length+1) p q) (fun k => [gd p 0,gd q 0,.i 0,.i (gd p 0).rows.length,.i (k:Int)]) (gd p 0).rows.length (fun k=>ixfVC (gd q 0) (sub ((gd p 0).rows.getD k []) 0 4)) [gd p 0,gd q 0,.i 0,.i (gd p 0).rows.length,.i (gd p 0).rows.length] (fun k hk=>?_) ?_ (gd p 0).rows.length 0 ((gd p 0).rows.length+1) (by omega) (by omega)
 ·simp only [Int.natCast_zero] at e
  rw [ixfV_ev,e]
  have hno:∀ m k,decide (ixF (fun k=>ixfVC (gd q 0) (sub ((gd p 0).rows.getD k []) 0 4)) k m≥0)=false→ixF (fun k=>ixfVC (gd q 0) (sub ((gd p 0).rows.getD k []) 0 4)) k m = -1:=ixF_neg _
  cases hd:decide (ixF (fun k=>ixfVC (gd q 0) (sub ((gd p 0).rows.getD k []) 0 4)) 0 (gd p 0).rows.length≥0)
  ·rw [hno _ _ hd]; rfl
  ·rfl
 ·show ixfVL _ p q [gd p 0,gd q 0,.i 0,.i _,.i (k:Int)]=_
  rw [ixfV_rd,decide_eq_true (show (k:Int)<(gd p 0).rows.length from by omega),inRange_nat hk,w64_id (by omega) (by omega),Int.toNat_natCast]
  cases hcc:ixfVC (gd q 0) (sub ((gd p 0).rows.getD k []) 0 4) <;> rfl
 ·show ixfVL _ p q [gd p 0,gd q 0,.i 0,.i _,.i ((gd p 0).rows.length:Int)]=_
  rw [ixfV_rd,decide_eq_false (show ¬ ((gd p 0).rows.length:Int)<(gd p 0).rows.length from by omega)]
  rfl
theorem cofV_ev (p q:List D) (N:Nat):evFn Tryz.prog (find [ixfVE]) N [0,1,4] Tryz.f275 rb [⟨sd (.sl 118),p⟩,⟨.one (.c (.fn 276 [.cptr [si] 0])),q⟩]=some (bo,ob (decide (ixF (fun k=>ixfVC (gd q 0) (sub ((gd p 0).rows.getD k []) 0 4)) 0 (gd p 0).rows.length≥0))):=by kernel_rfl
def cofVE:Ent:=(275,e2 (sd (.sl 118)) (.one (.c (.fn 276 [.cptr [si] 0]))) fun p q=>(⟨rb,[.b (anyS (fun r=>ixfVC (gd q 0) (sub r 0 4)) (gd p 0))]⟩,true))
theorem cofV_ok:EntOk Tryz.prog cofVE:=e2_ok fun p q _=>evFn_sound (N:=0) (ks:= [0,1,4]) (key:=bo) (find_ok (fC ⟨ixfV_ok,fN⟩)) (enters Tryz.func275) Tryz.func275 fun _=>by
 rw [cofV_ev,ixF_any]
 simp only [Nat.zero_add]
 rfl
def ixfKC (c:D) (r:List D):Bool:=((gd r 1).int==(gd ((gd (c.rows.getD 0 []) 0).rows.getD 0 []) 1).int)&&((gd r 2).int==(gd ((gd (c.rows.getD 0 []) 0).rows.getD 0 []) 2).int)
noncomputable def ixfKL (N:Nat) (p q:List D):List D→Out:=loopOf Tryz.prog (find [i_CoordOk_1E]) N [0,1,4,5,7,8,9,16] Tryz.f257 ri [⟨sd (.sl 116),p⟩,⟨.one (.c (.fn 159 [.cptr rIRec 0])),q⟩] 0
theorem ixfK_rd (p q:List D) (N:Nat) (z c x:D) (n k:Int):ixfKL N p q [z,c,x,.i n,.i k]=bif decide (k<n) then nd (inRange k z.rows.length) (bif ixfKC c (sub (z.rows.getD k.toNat []) 0 5) then oi k else nx [z,c,x,.i n,.i (w64 (k+1))]) else ex 0 [z,c,x,.i n,.i k]:=by kernel_rfl
theorem ixfK_ev (p q:List D) (N:Nat):evFn Tryz.prog (find [i_CoordOk_1E]) N [0,1,4,5,7,8,9,16] Tryz.f257 ri [⟨sd (.sl 116),p⟩,⟨.one (.c (.fn 159 [.cptr rIRec 0])),q⟩]=some (bo,(let o:=iter (ixfKL N p q) N [gd p 0,gd q 0,.i 0,.i (gd p 0).rows.length,.i 0]
  nd o.isSome (bif o.code==1 then some (1,o.pay) else nd (o.code==2) (oi (-1))))):=by kernel_rfl
def ixfKE:Ent:=(257,e2 (sd (.sl 116)) (.one (.c (.fn 159 [.cptr rIRec 0]))) fun p q=>(⟨ri,[.i (ixF (fun k=>ixfKC (gd q 0) (sub ((gd p 0).rows.getD k []) 0 5)) 0 (gd p 0).rows.length)]⟩,true))
theorem ixfK_ok:EntOk Tryz.prog ixfKE:=e2_ok fun p q _=>evFn_sound (N:=(gd p 0).rows.length+1) (ks:= [0,1,4,5,7,8,9,16]) (key:=bo) (find_ok (fC ⟨i_CoordOk_1_ok,fN⟩)) (enters Tryz.func257) Tryz.func257 fun hw=>by
 have hl:=wt_sl (hw ⟨sd (.sl 116),p⟩ (by simp))
 have e:=ix_loop (L:=ixfKL ((gd p 0).rows.length+1) p q) (fun k => [gd p 0,gd q 0,.i 0,.i (gd p 0).rows.length,.i (k:Int)]) (gd p 0).rows.length (fun k=>ixfKC (gd q 0) (sub ((gd p 0).rows.getD k []) 0 5)) [gd p 0,gd q 0,.i 0,.i (gd p 0).rows.length,.i (gd p 0).rows.length] (fun k hk=>?_) ?_ (gd p 0).rows.length 0 ((gd p 0).rows.length+1) (by omega) (by omega)
 ·simp only [Int.natCast_zero] at e
  rw [ixfK_ev,e]
  have hno:∀ m k,decide (ixF (fun k=>ixfKC (gd q 0) (sub ((gd p 0).rows.getD k []) 0 5)) k m≥0)=false→ixF (fun k=>ixfKC (gd q 0) (sub ((gd p 0).rows.getD k []) 0 5)) k m = -1:=ixF_neg _
  cases hd:decide (ixF (fun k=>ixfKC (gd q 0) (sub ((gd p 0).rows.getD k []) 0 5)) 0 (gd p 0).rows.length≥0)
  ·rw [hno _ _ hd]; rfl
  ·rfl
 ·show ixfKL _ p q [gd p 0,gd q 0,.i 0,.i _,.i (k:Int)]=_
  rw [ixfK_rd,decide_eq_true (show (k:Int)<(gd p 0).rows.length from by omega),inRange_nat hk,w64_id (by omega) (by omega),Int.toNat_natCast]
  cases hcc:ixfKC (gd q 0) (sub ((gd p 0).rows.getD k []) 0 5) <;> rfl
 ·show ixfKL _ p q [gd p 0,gd q 0,.i 0,.i _,.i ((gd p 0).rows.length:Int)]=_
  rw [ixfK_rd,decide_eq_false (show ¬ ((gd p 0).rows.length:Int)<(gd p 0).rows.length from by omega)]
  rfl
theorem cofK_ev (p q:List D) (N:Nat):evFn Tryz.prog (find [ixfKE]) N [0,1,4] Tryz.f158 rb [⟨sd (.sl 116),p⟩,⟨.one (.c (.fn 159 [.cptr rIRec 0])),q⟩]=some (bo,ob (decide (ixF (fun k=>ixfKC (gd q 0) (sub ((gd p 0).rows.getD k []) 0 5)) 0 (gd p 0).rows.length≥0))):=by kernel_rfl
def cofKE:Ent:=(158,e2 (sd (.sl 116)) (.one (.c (.fn 159 [.cptr rIRec 0]))) fun p q=>(⟨rb,[.b (anyS (fun r=>ixfKC (gd q 0) (sub r 0 5)) (gd p 0))]⟩,true))
theorem cofK_ok:EntOk Tryz.prog cofKE:=e2_ok fun p q _=>evFn_sound (N:=0) (ks:= [0,1,4]) (key:=bo) (find_ok (fC ⟨ixfK_ok,fN⟩)) (enters Tryz.func158) Tryz.func158 fun _=>by
 rw [cofK_ev,ixF_any]
 simp only [Nat.zero_add]
 rfl
end Go.Proofs.YtchceahcaaibcaaGreat
namespace Go.Proofs.YtchceahcaaibcaaGreat
set_option maxRecDepth 4096
def readsOk (z:D):Bool:=decide ((z.rows.length:Int)≤16) && !anyS (fun r => !rangeOk (sub r 0 2)) z
def votesAny (z:D) (v:Int):Bool:=anyS (fun r=>(gd (sub r 0 4) 3).int==v) z
def hasInt (z:D) (x:Int):Bool:=anyS (fun r=>x==(gd r 0).int) z
def cnt (C:Nat→Bool):Nat→Nat→Nat
 | _,0=>0
 | k,m+1=>(bif C k then 1 else 0)+cnt C (k+1) m
theorem cnt_le (C:Nat→Bool):∀ m k,cnt C k m≤m
 | 0,k=>Nat.le_refl _
 | m+1,k=>by
  have:=cnt_le C m (k+1)
  rw [cnt]
  cases C k <;> simp only [cond_true,cond_false] <;> omega
def votesN (z:D) (v:Int):Nat:=cnt (fun k=>(gd (sub (z.rows.getD k []) 0 4) 3).int==v) 0 z.rows.length
theorem not_all {n:Nat} {C:Nat→Bool}:(!(List.range n).all fun k => !C k)=(List.range n).any C:=by simp [List.all_eq_not_any_not]
theorem i_readsOk_ev (p:List D) (N:Nat):evFn Tryz.prog (find [cofRE]) N [0,2] Tryz.f189 (rb) [⟨sd (.sl 122),p⟩]=some (bo,bif decide (((gd p 0).rows.length:Int)≤16) then ob (!anyS (fun r => !rangeOk (sub r 0 2)) (gd p 0)) else ob false):=by kernel_rfl
def i_readsOkE:Ent:=(189,e1 (sd (.sl 122)) fun p=>(⟨rb,[.b (readsOk (gd p 0))]⟩,true))
theorem i_readsOk_ok:EntOk Tryz.prog i_readsOkE:=e1_ok fun p h=>evFn_sound (N:=0) (ks:= [0,2]) (key:=bo) (find_ok (fC ⟨cofR_ok,fN⟩)) (enters Tryz.func189) Tryz.func189 fun _=>by
 rw [i_readsOk_ev]
 rw [and_ob]; rfl
theorem i_votes_ev (p q:List D) (N:Nat):evFn Tryz.prog (find [cofVE]) N [0,1,3,4] Tryz.f192 (rb) [⟨sd (.sl 118),p⟩,⟨ri,q⟩]=some (bo,ob (votesAny (gd p 0) (gd q 0).int)):=by kernel_rfl
def i_votesE:Ent:=(192,e2 (sd (.sl 118)) (ri) fun p q=>(⟨rb,[.b (votesAny (gd p 0) (gd q 0).int)]⟩,true))
theorem i_votes_ok:EntOk Tryz.prog i_votesE:=e2_ok fun p q h=>evFn_sound (N:=0) (ks:= [0,1,3,4]) (key:=bo) (find_ok (fC ⟨cofV_ok,fN⟩)) (enters Tryz.func192) Tryz.func192 fun _=>by
 rw [i_votes_ev]
 skip
theorem i_isRec_ev (p q:List D) (N:Nat):evFn Tryz.prog (find [i_fromE]) N [0,1,2,4] Tryz.f296 (rb) [⟨ag rICoord,p⟩,⟨ri,q⟩]=some (bo,ob (inB (gd q 0).int 1 (gd p 0).rows.length)):=by kernel_rfl
def i_isRecE:Ent:=(296,e2 (ag rICoord) (ri) fun p q=>(⟨rb,[.b (inB (gd q 0).int 1 (gd p 0).rows.length)]⟩,true))
theorem i_isRec_ok:EntOk Tryz.prog i_isRecE:=e2_ok fun p q h=>evFn_sound (N:=0) (ks:= [0,1,2,4]) (key:=bo) (find_ok (fC ⟨i_from_ok,fN⟩)) (enters Tryz.func296) Tryz.func296 fun _=>by
 rw [i_isRec_ev]
 skip
noncomputable def s_l12HasL (N:Nat) (p q:List D):List D→Out:=loopOf Tryz.prog (find []) N [0,1,4,5,9,17] Tryz.f81 rb [⟨sd (.sl 3),p⟩,⟨ri,q⟩] 0
theorem s_l12Has_rd (p q:List D) (N:Nat) (z x y:D) (k:Int):s_l12HasL N p q [z,x,y,.i k]=bif decide (k<z.rows.length) then nd (inRange k z.rows.length) (bif ((gd (z.rows.getD k.toNat []) 0).int==x.int) then ob true else nx [z,x,y,.i (w64 (k+1))]) else ex 0 [z,x,y,.i k]:=by kernel_rfl
theorem s_l12Has_ev (p q:List D) (N:Nat):evFn Tryz.prog (find []) N [0,1,4,5,9,17] Tryz.f81 rb [⟨sd (.sl 3),p⟩,⟨ri,q⟩]=some (bo,(let o:=iter (s_l12HasL N p q) N [gd p 0,gd q 0,D0,.i 0]
  nd o.isSome (bif o.code==1 then some (1,o.pay) else nd (o.code==2) (ob false)))):=by kernel_rfl
def s_l12HasE:Ent:=(81,e2 (sd (.sl 3)) ri fun p q=>(⟨rb,[.b (hasInt (gd p 0) (gd q 0).int)]⟩,true))
theorem s_l12Has_ok:EntOk Tryz.prog s_l12HasE:=e2_ok fun p q _=>evFn_sound (N:=(gd p 0).rows.length+1) (ks:= [0,1,4,5,9,17]) (key:=bo) (find_ok (fN)) (enters Tryz.func81) Tryz.func81 fun hw=>by
 have hl:=wt_sl (hw ⟨sd (.sl 3),p⟩ (by simp))
 have e:=all_loop (L:=s_l12HasL ((gd p 0).rows.length+1) p q) (fun k => [gd p 0,gd q 0,D0,.i (k:Int)]) (gd p 0).rows.length (fun k => !((gd q 0).int==(gd ((gd p 0).rows.getD k []) 0).int)) [.b true] [gd p 0,gd q 0,D0,.i (gd p 0).rows.length] 0 (fun k hk=>?_) ?_ (Nat.lt_succ_self _)
 ·simp only [Int.natCast_zero] at e
  rw [s_l12Has_ev,e]
  have hn:hasInt (gd p 0) (gd q 0).int = !(List.range (gd p 0).rows.length).all fun k => !((gd q 0).int==(gd ((gd p 0).rows.getD k []) 0).int):=not_all.symm
  rw [hn]
  cases (List.range (gd p 0).rows.length).all fun k => !((gd q 0).int==(gd ((gd p 0).rows.getD k []) 0).int) <;> rfl
 ·show s_l12HasL _ p q [gd p 0,gd q 0,D0,.i (k:Int)]=_
  rw [s_l12Has_rd,decide_eq_true (show (k:Int)<(gd p 0).rows.length from by omega),inRange_nat hk,w64_id (by omega) (by omega),Int.toNat_natCast,Bool.beq_comm]
  cases hcc:((gd q 0).int==(gd ((gd p 0).rows.getD k []) 0).int) <;> rfl
 ·show s_l12HasL _ p q [gd p 0,gd q 0,D0,.i ((gd p 0).rows.length:Int)]=_
  rw [s_l12Has_rd,decide_eq_false (show ¬ ((gd p 0).rows.length:Int)<(gd p 0).rows.length from by omega)]
  rfl
noncomputable def ixIL (N:Nat) (p q:List D):List D→Out:=loopOf Tryz.prog (find []) N [0,1,4,5,7,8,9,16] Tryz.f202 ri [⟨sd (.sl 3),p⟩,⟨ri,q⟩] 0
theorem ixI_rd (p q:List D) (N:Nat) (z c x:D) (n k:Int):ixIL N p q [z,c,x,.i n,.i k]=bif decide (k<n) then nd (inRange k z.rows.length) (bif (c.int==(gd (z.rows.getD k.toNat []) 0).int) then oi k else nx [z,c,x,.i n,.i (w64 (k+1))]) else ex 0 [z,c,x,.i n,.i k]:=by kernel_rfl
theorem ixI_ev (p q:List D) (N:Nat):evFn Tryz.prog (find []) N [0,1,4,5,7,8,9,16] Tryz.f202 ri [⟨sd (.sl 3),p⟩,⟨ri,q⟩]=some (bo,(let o:=iter (ixIL N p q) N [gd p 0,gd q 0,.i 0,.i (gd p 0).rows.length,.i 0]
  nd o.isSome (bif o.code==1 then some (1,o.pay) else nd (o.code==2) (oi (-1))))):=by kernel_rfl
def ixIE:Ent:=(202,e2 (sd (.sl 3)) ri fun p q=>(⟨ri,[.i (ixF (fun k=>(gd q 0).int==(gd ((gd p 0).rows.getD k []) 0).int) 0 (gd p 0).rows.length)]⟩,true))
theorem ixI_ok:EntOk Tryz.prog ixIE:=e2_ok fun p q _=>evFn_sound (N:=(gd p 0).rows.length+1) (ks:= [0,1,4,5,7,8,9,16]) (key:=bo) (find_ok (fN)) (enters Tryz.func202) Tryz.func202 fun hw=>by
 have hl:=wt_sl (hw ⟨sd (.sl 3),p⟩ (by simp))
 have e:=ix_loop (L:=ixIL ((gd p 0).rows.length+1) p q) (fun k => [gd p 0,gd q 0,.i 0,.i (gd p 0).rows.length,.i (k:Int)]) (gd p 0).rows.length (fun k=>(gd q 0).int==(gd ((gd p 0).rows.getD k []) 0).int) [gd p 0,gd q 0,.i 0,.i (gd p 0).rows.length,.i (gd p 0).rows.length] (fun k hk=>?_) ?_ (gd p 0).rows.length 0 ((gd p 0).rows.length+1) (by omega) (by omega)
 ·simp only [Int.natCast_zero] at e
  rw [ixI_ev,e]
  cases hd:decide (ixF (fun k=>(gd q 0).int==(gd ((gd p 0).rows.getD k []) 0).int) 0 (gd p 0).rows.length≥0)
  ·rw [ixF_neg _ _ _ hd]; rfl
  ·rfl
 ·show ixIL _ p q [gd p 0,gd q 0,.i 0,.i _,.i (k:Int)]=_
  rw [ixI_rd,decide_eq_true (show (k:Int)<(gd p 0).rows.length from by omega),inRange_nat hk,w64_id (by omega) (by omega),Int.toNat_natCast]
  cases hcc:((gd q 0).int==(gd ((gd p 0).rows.getD k []) 0).int) <;> rfl
 ·show ixIL _ p q [gd p 0,gd q 0,.i 0,.i _,.i ((gd p 0).rows.length:Int)]=_
  rw [ixI_rd,decide_eq_false (show ¬ ((gd p 0).rows.length:Int)<(gd p 0).rows.length from by omega)]
  rfl
theorem coI_ev (p q:List D) (N:Nat):evFn Tryz.prog (find [ixIE]) N [0,1,4] Tryz.f82 rb [⟨sd (.sl 3),p⟩,⟨ri,q⟩]=some (bo,ob (decide (ixF (fun k=>(gd q 0).int==(gd ((gd p 0).rows.getD k []) 0).int) 0 (gd p 0).rows.length≥0))):=by kernel_rfl
def coIE:Ent:=(82,e2 (sd (.sl 3)) ri fun p q=>(⟨rb,[.b (hasInt (gd p 0) (gd q 0).int)]⟩,true))
theorem coI_ok:EntOk Tryz.prog coIE:=e2_ok fun p q _=>evFn_sound (N:=0) (ks:= [0,1,4]) (key:=bo) (find_ok (fC ⟨ixI_ok,fN⟩)) (enters Tryz.func82) Tryz.func82 fun _=>by
 rw [coI_ev,ixF_any]
 simp only [Nat.zero_add]
 rfl
noncomputable def s_l14VotesL (N:Nat) (p q:List D):List D→Out:=loopOf Tryz.prog (find []) N [0,1,4,5,6,10,19] Tryz.f145 ri [⟨sd (.sl 118),p⟩,⟨ri,q⟩] 0
theorem s_l14Votes_rd (p q:List D) (N:Nat) (z x y:D) (n k:Int):s_l14VotesL N p q [z,x,y,.i n,.i k]=bif decide (k<z.rows.length) then nd (inRange k z.rows.length) (bif ((gd (sub (z.rows.getD k.toNat []) 0 4) 3).int==x.int) then nx [z,x,y,.i (w64 (n+1)),.i (w64 (k+1))] else nx [z,x,y,.i n,.i (w64 (k+1))]) else ex 0 [z,x,y,.i n,.i k]:=by kernel_rfl
theorem s_l14Votes_ev (p q:List D) (N:Nat):evFn Tryz.prog (find []) N [0,1,4,5,6,10,19] Tryz.f145 ri [⟨sd (.sl 118),p⟩,⟨ri,q⟩]=some (bo,(let o:=iter (s_l14VotesL N p q) N [gd p 0,gd q 0,.i 0,.i 0,.i 0]
  nd o.isSome (nd (o.code==2) (some (1,[gd o.pay 3]))))):=by kernel_rfl
def s_l14VotesE:Ent:=(145,e2 (sd (.sl 118)) ri fun p q=>(⟨ri,[.i (votesN (gd p 0) (gd q 0).int)]⟩,true))
theorem s_l14Votes_ok:EntOk Tryz.prog s_l14VotesE:=e2_ok fun p q _=>evFn_sound (N:=(gd p 0).rows.length+1) (ks:= [0,1,4,5,6,10,19]) (key:=bo) (find_ok (fN)) (enters Tryz.func145) Tryz.func145 fun hw=>by
 have hl:=wt_sl (hw ⟨sd (.sl 118),p⟩ (by simp))
 have H:∀ (m k N:Nat) (n:Int),k+m=(gd p 0).rows.length→m<N→0≤n→n+m≤9223372036854775807→iter (s_l14VotesL ((gd p 0).rows.length+1) p q) N [gd p 0,gd q 0,.i 0,.i n,.i (k:Int)]=some (2,[gd p 0,gd q 0,.i 0,.i (n+cnt (fun k=>(gd (sub ((gd p 0).rows.getD k []) 0 4) 3).int==(gd q 0).int) k m),.i (gd p 0).rows.length]):=by
  intro m
  induction m with
  | zero =>
   intro k N n hk hN h0 h1
   obtain ⟨N,rfl⟩:∃ N',N=N'+1:=⟨N - 1,by omega⟩
   have hk:k=(gd p 0).rows.length:=by omega
   subst hk
   rw [iter,s_l14Votes_rd,decide_eq_false (show ¬ ((gd p 0).rows.length:Int)<(gd p 0).rows.length from by omega)]
   simp [cnt]
  | succ m ih =>
   intro k N n hk hN h0 h1
   obtain ⟨N,rfl⟩:∃ N',N=N'+1:=⟨N - 1,by omega⟩
   have hlt:k<(gd p 0).rows.length:=by omega
   rw [iter,s_l14Votes_rd,decide_eq_true (show (k:Int)<(gd p 0).rows.length from by omega),inRange_nat hlt,w64_id (x:=(k:Int)+1) (by omega) (by omega),w64_id (x:=n+1) (by omega) (by omega),Int.toNat_natCast,cnt]
   cases hcc:((gd (sub ((gd p 0).rows.getD k []) 0 4) 3).int==(gd q 0).int) with
   | true =>
    simp only [cond_true,nd]
    rw [show ((k:Int)+1)=((k+1:Nat):Int) from by simp,ih (k+1) N (n+1) (by omega) (by omega) (by omega) (by omega)]
    have e2:∀ c:Nat,n+1+(c:Int)=n+((1+c:Nat):Int):=fun c=>by omega
    rw [e2]
   | false =>
    simp only [cond_true,cond_false,nd,Nat.zero_add]
    rw [show ((k:Int)+1)=((k+1:Nat):Int) from by simp,ih (k+1) N n (by omega) (by omega) (by omega) (by omega)]
 have e:=H (gd p 0).rows.length 0 ((gd p 0).rows.length+1) 0 (by omega) (by omega) (by omega) (by omega)
 simp only [Int.natCast_zero,Int.zero_add] at e
 rw [s_l14Votes_ev,e]
 rfl
end Go.Proofs.YtchceahcaaibcaaGreat
namespace Go.Proofs.YtchceahcaaibcaaGreat
set_option maxRecDepth 4096
def shareAt (z:D) (k:Nat):Bool:=
 inB (gd (z.rows.getD k []) 0).int 0 3&&((k==0 || !decide ((gd (z.rows.getD (k - 1) []) 0).int≥(gd (z.rows.getD k []) 0).int))&&(readsOk (gd (z.rows.getD k []) 1)&&(writesOk (gd (z.rows.getD k []) 2)&&inB (gd (z.rows.getD k []) 3).int 0 2)))
def sharesOk (z:D):Bool:=decide ((z.rows.length:Int)≤4)&&(List.range z.rows.length).all (shareAt z)
abbrev tbIS:FuncId→List T→Option (T × Bool):=find [i_fromE,i_isGroupE,i_readsOkE,i_WritesOkE]
theorem tbIS_ok:CallOk Tryz.prog tbIS:=find_ok (fC ⟨i_from_ok,fC ⟨i_isGroup_ok,fC ⟨i_readsOk_ok,fC ⟨i_WritesOk_ok,fN⟩⟩⟩⟩)
abbrev aSh (p:List D):List T:= [⟨sd (.sl 118),p⟩]
noncomputable def isL (N:Nat) (p:List D):List D→Out:=loopOf Tryz.prog tbIS N [0,2,3,4,5,6,7,8,48] Tryz.f191 rb (aSh p) 0
def isT (row:List D) (nxt:Out):Out:=bif !readsOk (gd row 1) then ob false else bif !writesOk (gd row 2) then ob false else bif !inB (gd row 3).int 0 2 then ob false else nxt
theorem is_rd (p:List D) (N:Nat) (z x2 z5:D) (n k:Int):isL N p [z,x2,z5,.i n,.i k] =
  bif decide (k<n) then nd (inRange k z5.rows.length)
   (bif !(inB (gd (z5.rows.getD k.toNat []) 0).int 0 3) then ob false else
   bif decide (k > 0) then nd (inRange (w64 (k - 1)) z.rows.length) (bif decide ((gd (z.rows.getD (w64 (k - 1)).toNat []) 0).int≥(gd (z5.rows.getD k.toNat []) 0).int) then ob false else isT (z5.rows.getD k.toNat []) (nx [z,x2,z5,.i n,.i (w64 (k+1))])) else isT (z5.rows.getD k.toNat []) (nx [z,x2,z5,.i n,.i (w64 (k+1))]))
  else ex 0 [z,x2,z5,.i n,.i k]:=by kernel_rfl
theorem is_ev (p:List D) (N:Nat):evFn Tryz.prog tbIS N [0,2,3,4,5,6,7,8,48] Tryz.f191 rb (aSh p)=some (bo,
  (let o:=iter (isL N p) N [gd p 0,D0,gd p 0,.i (gd p 0).rows.length,.i 0]
  nd o.isSome (bif o.code==1 then some (1,o.pay) else nd (o.code==2) (ob (decide (((gd o.pay 0).rows.length:Int)≤4)))))):=by kernel_rfl
def i_SharesOkE:Ent:=(191,e1 (sd (.sl 118)) fun p=>(⟨rb,[.b (sharesOk (gd p 0))]⟩,true))
theorem isT_ok (row:List D) (nxt:Out):isT row nxt=bif readsOk (gd row 1)&&(writesOk (gd row 2)&&inB (gd row 3).int 0 2) then nxt else ob false:=by
 unfold isT
 cases readsOk (gd row 1) <;> cases writesOk (gd row 2) <;> cases inB (gd row 3).int 0 2 <;> rfl
theorem i_SharesOk_ok:EntOk Tryz.prog i_SharesOkE:=e1_ok fun p _=>evFn_sound (N:=(gd p 0).rows.length+1) (ks:= [0,2,3,4,5,6,7,8,48]) (key:=bo) tbIS_ok (enters Tryz.func191) Tryz.func191 fun hw=>by
 have hl:=wt_sl (hw ⟨sd (.sl 118),p⟩ (by simp))
 have e:=all_loop (L:=isL ((gd p 0).rows.length+1) p) (fun k => [gd p 0,D0,gd p 0,.i (gd p 0).rows.length,.i (k:Int)]) (gd p 0).rows.length (shareAt (gd p 0)) [.b false] [gd p 0,D0,gd p 0,.i (gd p 0).rows.length,.i (gd p 0).rows.length] 0 (fun k hk=>?_) ?_ (Nat.lt_succ_self _)
 ·simp only [Int.natCast_zero] at e
  rw [is_ev,e]
  cases hq:(List.range (gd p 0).rows.length).all (shareAt (gd p 0))
  ·simp only [sharesOk,hq,Bool.and_false]; rfl
  ·simp only [sharesOk,hq,Bool.and_true]; rfl
 ·show isL _ p [gd p 0,D0,gd p 0,.i _,.i (k:Int)]=_
  rw [is_rd,decide_eq_true (show (k:Int)<(gd p 0).rows.length from by omega),inRange_nat hk]
  simp only [cond_true,nd,Int.toNat_natCast,shareAt,isT_ok]
  cases inB (gd ((gd p 0).rows.getD k []) 0).int 0 3 <;> simp only [Bool.not_true,Bool.not_false,cond_true,cond_false,Bool.false_and,Bool.true_and] <;> first | rfl | skip
  rw [w64_id (x:=(k:Int)+1) (by omega) (by omega)]
  by_cases h0:k=0
  ·subst h0
   cases readsOk (gd ((gd p 0).rows.getD 0 []) 1)&&(writesOk (gd ((gd p 0).rows.getD 0 []) 2)&&inB (gd ((gd p 0).rows.getD 0 []) 3).int 0 2) <;> rfl
  ·rw [decide_eq_true (show (k:Int) > 0 from by omega),pre_nat h0 (by omega),inRange_nat (show k - 1<(gd p 0).rows.length from by omega),show (k==0)=false from by simpa using h0]
   simp only [cond_true,Int.toNat_natCast,Bool.false_or]
   cases decide ((gd ((gd p 0).rows.getD (k - 1) []) 0).int≥(gd ((gd p 0).rows.getD k []) 0).int) <;> cases readsOk (gd ((gd p 0).rows.getD k []) 1)&&(writesOk (gd ((gd p 0).rows.getD k []) 2)&&inB (gd ((gd p 0).rows.getD k []) 3).int 0 2) <;> rfl
 ·show isL _ p [gd p 0,D0,gd p 0,.i _,.i ((gd p 0).rows.length:Int)]=_
  rw [is_rd,decide_eq_false (show ¬ ((gd p 0).rows.length:Int)<(gd p 0).rows.length from by omega)]
  rfl
end Go.Proofs.YtchceahcaaibcaaGreat
namespace Go.Proofs.YtchceahcaaibcaaGreat
set_option maxRecDepth 4096
abbrev tbSS:FuncId→List T→Option (T × Bool):=find [s_l1InE,s_RangeOkE,s_WritesOkE]
theorem tbSS_ok:CallOk Tryz.prog tbSS:=find_ok (fC ⟨s_l1In_ok,fC ⟨s_RangeOk_ok,fC ⟨s_WritesOk_ok,fN⟩⟩⟩)
noncomputable def ssL (N:Nat) (p:List D):List D→Out:=loopOf Tryz.prog tbSS N [0,2,3,4,5,8,12,55,60,69] Tryz.f144 rb (aSh p) 0
noncomputable def ssM (N:Nat) (p:List D):List D→Out:=loopOf Tryz.prog tbSS N [0,2,3,4,5,8,12,55,60,69] Tryz.f144 rb (aSh p) 2
theorem ss_rd2 (p:List D) (N:Nat) (z x2 y8 i y12 y4 y55 b0 b1 b2 b3:D) (m:Int):ssM N p [z,x2,y8,i,y12,y4,y55,.i m,b0,b1,b2,b3] =
  bif decide (m<b1.rows.length) then nd (inRange m b1.rows.length) (bif !(rangeOk (sub (b1.rows.getD m.toNat []) 0 2)) then ob false else nx [z,x2,y8,i,y12,y4,y55,.i (w64 (m+1)),b0,b1,b2,b3])
  else ex 2 [z,x2,y8,i,y12,y4,y55,.i m,b0,b1,b2,b3]:=by kernel_rfl
def ssU (z x2 y8:D) (k:Int) (row:List D) (M:List D→Out) (N:Nat) (nxt:List D→Out):Out:=
 bif decide (((gd row 1).rows.length:Int) > 16) then ob false else bif !(writesOk (gd row 2)) then ob false else bif !(inB (gd row 3).int 0 2) then ob false else
  (let o:=iter M N [z,x2,y8,.i k,.b (decide (k<z.rows.length)),D0,.b (!(inB (gd row 3).int 0 2)),.i 0,gd row 0,gd row 1,gd row 2,gd row 3]
   nd o.isSome (bif o.code==1 then some (1,o.pay) else nd (o.code==4) (nxt o.pay)))
theorem ss_rd (p:List D) (N:Nat) (z x2 y8:D) (k:Int):ssL N p [z,x2,y8,.i k] =
  bif decide (k<z.rows.length) then nd (inRange k z.rows.length)
   (bif !(inB (gd (z.rows.getD k.toNat []) 0).int 0 3) then ob false else
   bif decide (k > 0) then nd (inRange (w64 (k - 1)) z.rows.length) (bif decide ((gd (z.rows.getD (w64 (k - 1)).toNat []) 0).int≥(gd (z.rows.getD k.toNat []) 0).int) then ob false else ssU z x2 y8 k (z.rows.getD k.toNat []) (ssM N p) N (fun q=>nx [gd q 0,gd q 1,gd q 2,.i (w64 ((gd q 3).int+1))])) else ssU z x2 y8 k (z.rows.getD k.toNat []) (ssM N p) N (fun q=>nx [gd q 0,gd q 1,gd q 2,.i (w64 ((gd q 3).int+1))]))
  else ex 0 [z,x2,y8,.i k]:=by kernel_rfl
theorem ss_ev (p:List D) (N:Nat):evFn Tryz.prog tbSS N [0,2,3,4,5,8,12,55,60,69] Tryz.f144 rb (aSh p)=some (bo,bif decide (((gd p 0).rows.length:Int) > 4) then ob false else
  (let o:=iter (ssL N p) N [gd p 0,D0,.b (decide (((gd p 0).rows.length:Int) > 4)),.i 0]
  nd o.isSome (bif o.code==1 then some (1,o.pay) else nd (o.code==2) (ob true)))):=by kernel_rfl
end Go.Proofs.YtchceahcaaibcaaGreat
namespace Go.Proofs.YtchceahcaaibcaaGreat
set_option maxRecDepth 4096
theorem reads_all (z:D):(!anyS (fun r => !rangeOk (sub r 0 2)) z)=(List.range z.rows.length).all fun m=>rangeOk (sub (z.rows.getD m []) 0 2):=by
 unfold anyS
 rw [List.all_eq_not_any_not]
theorem ssU_ok (p:List D) (N:Nat) (z x2 y8:D) (k:Int) (row:List D) (hN:17≤N):ssU z x2 y8 k row (ssM N p) N (fun q=>nx [gd q 0,gd q 1,gd q 2,.i (w64 ((gd q 3).int+1))]) =
  bif readsOk (gd row 1)&&(writesOk (gd row 2)&&inB (gd row 3).int 0 2) then nx [z,x2,y8,.i (w64 (k+1))] else ob false:=by
 unfold ssU readsOk
 by_cases h16:((gd row 1).rows.length:Int)≤16
 ·rw [decide_eq_false (show ¬ ((gd row 1).rows.length:Int) > 16 from by omega),decide_eq_true h16,reads_all]
  simp only [cond_false,Bool.true_and]
  cases writesOk (gd row 2)
  ·simp only [Bool.not_false,cond_true,Bool.false_and,Bool.and_false,cond_false]
  ·cases hv:inB (gd row 3).int 0 2
   ·simp only [Bool.not_false,Bool.not_true,cond_true,cond_false,Bool.true_and,Bool.and_false]
   ·have e:=all_loop (L:=ssM N p) (fun m => [z,x2,y8,.i k,.b (decide (k<z.rows.length)),D0,.b (!true),.i (m:Int),gd row 0,gd row 1,gd row 2,gd row 3]) (gd row 1).rows.length (fun m=>rangeOk (sub ((gd row 1).rows.getD m []) 0 2)) [.b false] [z,x2,y8,.i k,.b (decide (k<z.rows.length)),D0,.b (!true),.i (gd row 1).rows.length,gd row 0,gd row 1,gd row 2,gd row 3] 2 (fun m hm=>?_) ?_ (N:=N) (by omega)
    ·simp only [Int.natCast_zero] at e
     simp only [Bool.not_true,cond_false,Bool.and_true,Bool.true_and] at e ⊢
     rw [e]
     cases (List.range (gd row 1).rows.length).all fun m=>rangeOk (sub ((gd row 1).rows.getD m []) 0 2) <;> rfl
    ·show ssM N p [z,x2,y8,.i k,_,D0,_,.i (m:Int),_,_,_,_]=_
     rw [ss_rd2,decide_eq_true (show (m:Int)<(gd row 1).rows.length from by omega),inRange_nat hm,w64_id (by omega) (by omega),Int.toNat_natCast]
     cases rangeOk (sub ((gd row 1).rows.getD m []) 0 2) <;> rfl
    ·show ssM N p [z,x2,y8,.i k,_,D0,_,.i ((gd row 1).rows.length:Int),_,_,_,_]=_
     rw [ss_rd2,decide_eq_false (show ¬ ((gd row 1).rows.length:Int)<(gd row 1).rows.length from by omega)]
     rfl
 ·rw [decide_eq_true (show ((gd row 1).rows.length:Int) > 16 from by omega),decide_eq_false h16]
  simp only [cond_true,Bool.false_and,cond_false]
def s_SharesOkE:Ent:=(144,e1 (sd (.sl 118)) fun p=>(⟨rb,[.b (sharesOk (gd p 0))]⟩,true))
theorem s_SharesOk_ok:EntOk Tryz.prog s_SharesOkE:=e1_ok fun p _=>evFn_sound (N:=(gd p 0).rows.length+17) (ks:= [0,2,3,4,5,8,12,55,60,69]) (key:=bo) tbSS_ok (enters Tryz.func144) Tryz.func144 fun hw=>by
 have hl:=wt_sl (hw ⟨sd (.sl 118),p⟩ (by simp))
 rw [ss_ev]
 by_cases h4:((gd p 0).rows.length:Int)≤4
 ·have e:=all_loop (L:=ssL ((gd p 0).rows.length+17) p) (fun k => [gd p 0,D0,.b (decide (((gd p 0).rows.length:Int) > 4)),.i (k:Int)]) (gd p 0).rows.length (shareAt (gd p 0)) [.b false] [gd p 0,D0,.b (decide (((gd p 0).rows.length:Int) > 4)),.i (gd p 0).rows.length] 0 (fun k hk=>?_) ?_ (N:=(gd p 0).rows.length+17) (by omega)
  ·simp only [Int.natCast_zero] at e
   rw [e,show decide (((gd p 0).rows.length:Int) > 4)=false from decide_eq_false (by omega)]
   simp only [sharesOk,h4,decide_true,Bool.true_and]
   cases (List.range (gd p 0).rows.length).all (shareAt (gd p 0)) <;> rfl
  ·show ssL _ p [gd p 0,D0,_,.i (k:Int)]=_
   rw [ss_rd,decide_eq_true (show (k:Int)<(gd p 0).rows.length from by omega),inRange_nat hk]
   simp only [cond_true,nd,Int.toNat_natCast,shareAt,ssU_ok p _ _ _ _ _ _ (show 17≤(gd p 0).rows.length+17 from by omega)]
   cases inB (gd ((gd p 0).rows.getD k []) 0).int 0 3 <;> simp only [Bool.not_true,Bool.not_false,cond_true,cond_false,Bool.false_and,Bool.true_and] <;> first | rfl | skip
   rw [w64_id (x:=(k:Int)+1) (by omega) (by omega)]
   by_cases h0:k=0
   ·subst h0
    cases readsOk (gd ((gd p 0).rows.getD 0 []) 1)&&(writesOk (gd ((gd p 0).rows.getD 0 []) 2)&&inB (gd ((gd p 0).rows.getD 0 []) 3).int 0 2) <;> rfl
   ·rw [decide_eq_true (show (k:Int) > 0 from by omega),pre_nat h0 (by omega),inRange_nat (show k - 1<(gd p 0).rows.length from by omega),show (k==0)=false from by simpa using h0]
    simp only [cond_true,Int.toNat_natCast,Bool.false_or]
    cases decide ((gd ((gd p 0).rows.getD (k - 1) []) 0).int≥(gd ((gd p 0).rows.getD k []) 0).int) <;> cases readsOk (gd ((gd p 0).rows.getD k []) 1)&&(writesOk (gd ((gd p 0).rows.getD k []) 2)&&inB (gd ((gd p 0).rows.getD k []) 3).int 0 2) <;> rfl
  ·show ssL _ p [gd p 0,D0,_,.i ((gd p 0).rows.length:Int)]=_
   rw [ss_rd,decide_eq_false (show ¬ ((gd p 0).rows.length:Int)<(gd p 0).rows.length from by omega)]
   rfl
 ·rw [decide_eq_true (show ((gd p 0).rows.length:Int) > 4 from by omega)]
  simp only [sharesOk,h4,decide_false,Bool.false_and]
  rfl
end Go.Proofs.YtchceahcaaibcaaGreat
namespace Go.Proofs.YtchceahcaaibcaaGreat
set_option maxRecDepth 4096
def stateOk (p:List D):Bool:=
 bif (gd p 3).int==1 then ((gd p 4).rows.length:Int)==0 else bif (gd p 3).int==2 then votesAny (gd p 4) 0 && !votesAny (gd p 4) 2 else bif (gd p 3).int==3 then !votesAny (gd p 4) 0 && !votesAny (gd p 4) 2 else (gd p 3).int==4
def recOk (p:List D):Bool:=inB (gd p 1).int 0 1000000000&&(inB (gd p 2).int 1 1000000000&&(sharesOk (gd p 4)&&stateOk p))
abbrev tbIR:FuncId→List T→Option (T × Bool):=find [i_isWholeE,i_isReqE,i_SharesOkE,i_votesE]
theorem tbIR_ok:CallOk Tryz.prog tbIR:=find_ok (fC ⟨i_isWhole_ok,fC ⟨i_isReq_ok,fC ⟨i_SharesOk_ok,fC ⟨i_votes_ok,fN⟩⟩⟩⟩)
theorem ir_ev (p:List D) (N:Nat):evFn Tryz.prog tbIR N [0,1,2,18,20,21,27,38] Tryz.f157 rb [⟨ag rIRec,p⟩]=some (bo,
  bif !inB (gd p 1).int 0 1000000000 then ob false else bif !inB (gd p 2).int 1 1000000000 then ob false else bif !sharesOk (gd p 4) then ob false else
  bif (gd p 3).int==1 then ob (((gd p 4).rows.length:Int)==0) else bif (gd p 3).int==2 then (bif votesAny (gd p 4) 0 then ob (!votesAny (gd p 4) 2) else ob false) else
  bif (gd p 3).int==3 then (bif !votesAny (gd p 4) 0 then ob (!votesAny (gd p 4) 2) else ob false) else ob ((gd p 3).int==4)):=by kernel_rfl
def i_recOkE:Ent:=(157,e1 (ag rIRec) fun p=>(⟨rb,[.b (recOk p)]⟩,true))
theorem cond_ob (c x y:Bool):(bif c then ob x else ob y)=ob (bif c then x else y):=by cases c <;> rfl
theorem i_recOk_ok:EntOk Tryz.prog i_recOkE:=e1_ok fun p _=>evFn_sound (N:=0) (ks:= [0,1,2,18,20,21,27,38]) (key:=bo) tbIR_ok (enters Tryz.func157) Tryz.func157 fun _=>by
 rw [ir_ev]
 show _=some (bo,some (1,[D.b (recOk p)]))
 unfold recOk stateOk
 cases inB (gd p 1).int 0 1000000000 <;> first | rfl | skip
 cases inB (gd p 2).int 1 1000000000 <;> first | rfl | skip
 cases sharesOk (gd p 4) <;> first | rfl | skip
 cases (gd p 3).int==1 <;> first | rfl | skip
 cases (gd p 3).int==2 <;> cases (gd p 3).int==3 <;> cases votesAny (gd p 4) 0 <;> first | rfl | (cases votesAny (gd p 4) 2 <;> rfl)
abbrev tbSR:FuncId→List T→Option (T × Bool):=find [s_l1WholeE,s_l1InE,s_SharesOkE,s_l14VotesE]
theorem tbSR_ok:CallOk Tryz.prog tbSR:=find_ok (fC ⟨s_l1Whole_ok,fC ⟨s_l1In_ok,fC ⟨s_SharesOk_ok,fC ⟨s_l14Votes_ok,fN⟩⟩⟩⟩)
theorem sr_ev (p:List D) (N:Nat):evFn Tryz.prog tbSR N [0,1,2,18,20,21,27,39] Tryz.f131 rb [⟨ag rIRec,p⟩]=some (bo,
  bif !inB (gd p 1).int 0 1000000000 then ob false else bif !inB (gd p 2).int 1 1000000000 then ob false else bif !sharesOk (gd p 4) then ob false else
  bif (gd p 3).int==1 then ob (((gd p 4).rows.length:Int)==0) else bif (gd p 3).int==2 then (bif decide ((votesN (gd p 4) 0:Int) > 0) then ob ((votesN (gd p 4) 2:Int)==0) else ob false) else
  bif (gd p 3).int==3 then ob ((votesN (gd p 4) 1:Int)==(gd p 4).rows.length) else ob ((gd p 3).int==4)):=by kernel_rfl
theorem cnt_any (C:Nat→Bool):∀ m k,decide (0<cnt C k m)=(List.range m).any fun j=>C (k+j)
 | 0,k=>rfl
 | m+1,k=>by
  rw [cnt,List.range_succ_eq_map,List.any_cons,List.any_map]
  cases hc:C k with
  | true=>simp [hc]; omega
  | false =>
   simp only [cond_false,Nat.add_zero,hc,Bool.false_or,Nat.zero_add]
   rw [cnt_any C m (k+1)]
   congr 1; funext j; simp only [Function.comp]; congr 1; omega
theorem cnt_all (C:Nat→Bool):∀ m k,decide (cnt C k m=m)=(List.range m).all fun j=>C (k+j)
 | 0,k=>rfl
 | m+1,k=>by
  have hle:=cnt_le C m (k+1)
  rw [cnt,List.range_succ_eq_map,List.all_cons,List.all_map]
  cases hc:C k with
  | true =>
   simp only [cond_true,Nat.add_zero,hc,Bool.true_and]
   have:=cnt_all C m (k+1)
   have e:decide (1+cnt C (k+1) m=m+1)=decide (cnt C (k+1) m=m):=decide_eq_decide.2 (by omega)
   rw [e,this]
   congr 1; funext j; simp only [Function.comp]; congr 1; omega
  | false=>simp only [cond_false,Nat.zero_add,Nat.add_zero,hc,Bool.false_and,decide_eq_false_iff_not]; omega
theorem votesN_pos (z:D) (v:Int):decide ((votesN z v:Int) > 0)=votesAny z v:=by
 have:=cnt_any (fun k=>(gd (sub (z.rows.getD k []) 0 4) 3).int==v) z.rows.length 0
 simp only [Nat.zero_add] at this
 rw [show decide ((votesN z v:Int) > 0)=decide (0<votesN z v) from decide_eq_decide.2 (by omega)]
 exact this
theorem votesN_zero (z:D) (v:Int):((votesN z v:Int)==0) = !votesAny z v:=by
 rw [← votesN_pos]
 by_cases h:votesN z v=0
 ·simp [h]
 ·rw [decide_eq_true (show (votesN z v:Int) > 0 from by omega)]
  exact beq_eq_false_iff_ne.2 (by omega)
theorem votesN_all {z:D} (h:sharesOk z=true):((votesN z 1:Int)==z.rows.length)=(!votesAny z 0 && !votesAny z 2):=by
 have:=cnt_all (fun k=>(gd (sub (z.rows.getD k []) 0 4) 3).int==1) z.rows.length 0
 simp only [Nat.zero_add] at this
 rw [show ((votesN z 1:Int)==z.rows.length)=decide (votesN z 1=z.rows.length) from by
  by_cases e:votesN z 1=z.rows.length
  ·rw [decide_eq_true e]; exact beq_iff_eq.2 (by omega)
  ·rw [decide_eq_false e]; exact beq_eq_false_iff_ne.2 (by omega)]
 rw [show decide (votesN z 1=z.rows.length)=_ from this]
 have hs:∀ k,k<z.rows.length→inB (gd (sub (z.rows.getD k []) 0 4) 3).int 0 2=true:=fun k hk=>by
  simp only [sharesOk,Bool.and_eq_true,List.all_eq_true] at h
  have:=h.2 k (List.mem_range.2 hk)
  simp only [shareAt,Bool.and_eq_true] at this
  exact this.2.2.2.2
 rw [Bool.eq_iff_iff]
 simp only [votesAny,anyS,Bool.and_eq_true,Bool.not_eq_true',List.all_eq_true,List.any_eq_false,List.mem_range,beq_iff_eq]
 constructor
 ·intro h1
  exact ⟨fun k hk e=>absurd (e.symm.trans (h1 k hk)) (by decide),fun k hk e=>absurd (e.symm.trans (h1 k hk)) (by decide)⟩
 ·rintro ⟨h1,h2⟩ k hk
  have:=hs k hk
  simp only [inB,Bool.and_eq_true,decide_eq_true_eq] at this
  have n0:=h1 k hk
  have n2:=h2 k hk
  omega
def s_l14RecOkE:Ent:=(131,e1 (ag rIRec) fun p=>(⟨rb,[.b (recOk p)]⟩,true))
theorem s_l14RecOk_ok:EntOk Tryz.prog s_l14RecOkE:=e1_ok fun p _=>evFn_sound (N:=0) (ks:= [0,1,2,18,20,21,27,39]) (key:=bo) tbSR_ok (enters Tryz.func131) Tryz.func131 fun _=>by
 rw [sr_ev,votesN_pos,votesN_zero]
 show _=some (bo,some (1,[D.b (recOk p)]))
 unfold recOk stateOk
 cases inB (gd p 1).int 0 1000000000 <;> first | rfl | skip
 cases inB (gd p 2).int 1 1000000000 <;> first | rfl | skip
 cases hs:sharesOk (gd p 4) <;> first | rfl | skip
 rw [votesN_all hs]
 cases (gd p 3).int==1 <;> first | rfl | skip
 cases (gd p 3).int==2 <;> cases (gd p 3).int==3 <;> cases votesAny (gd p 4) 0 <;> first | rfl | (cases votesAny (gd p 4) 2 <;> rfl)
end Go.Proofs.YtchceahcaaibcaaGreat
namespace Go.Proofs.YtchceahcaaibcaaGreat
theorem int_i (n:Int):(D.i n).int=n:=rfl
theorem bool_b (n:Bool):(D.b n).bool=n:=rfl
theorem str_s (n:List UInt8):(D.s n).str=n:=rfl
theorem rows_l (n:List (List D)):(D.l n).rows=n:=rfl
theorem w64_succ {k n:Nat} (h:k<n) (hn:n≤9223372036854775807):w64 ((k:Int)+1)=((k+1:Nat):Int):=by
 rw [w64_id (by omega) (by omega)]; omega
theorem wt_at {P:Program} {xs:List Ce} {p:List D} {e:TypeId} (h:WT P ⟨.one (.agg xs),p⟩) {j:Nat} (hj:xs[j]?=some (.d (.sl e))):(gd p j).rows.length≤9223372036854775807:=by
 have h:∀ (j:Nat) c,xs[j]?=some c→WC P c (gd p j):=h
 have h:WD P (.sl e) (gd p j):=h j _ hj
 cases h with
 | sl _ _ row _ h _=>exact h
theorem for_loop {L:List D→Out} (st:Nat→List D) (n:Nat) (C:Nat→Bool) (v:List D) (j:Nat) (h1:∀ k,k<n→L (st k)=some (bif C k then (0,st (k+1)) else (1,v))) (h2:L (st n)=some (j+2,st n)) {N:Nat} (hN:n<N) :
  iter L N (st 0)=some (bif (List.range n).all C then (j+2,st n) else (1,v)):=all_loop st n C v (st n) j h1 h2 hN
def ltI (x y:Int):Bool:=decide (x<y)
def leI (x y:Int):Bool:=decide (x≤y)
theorem ltI_t {x y:Int} (h:x<y):ltI x y=true:=decide_eq_true h
theorem ltI_f {x y:Int} (h:y≤x):ltI x y=false:=decide_eq_false (by omega)
theorem leI_t {x y:Int} (h:x≤y):leI x y=true:=decide_eq_true h
theorem leI_f {x y:Int} (h:y<x):leI x y=false:=decide_eq_false (by omega)
theorem ltI_nat {k n:Nat} (h:k<n):ltI (k:Int) (n:Int)=true:=decide_eq_true (by omega)
theorem ltI_nn {n:Nat}:ltI (n:Int) (n:Int)=false:=decide_eq_false (by omega)
theorem leI_0 {n:Nat}:leI 0 (n:Int)=true:=decide_eq_true (by omega)
theorem leI_nat {k n:Nat} (h:k≤n):leI (k:Int) (n:Int)=true:=decide_eq_true (by omega)
theorem c_lt {k n:Nat} (h:k<n) {a b:Out}:(bif ltI (k:Int) (n:Int) then a else b)=a:=by rw [ltI_nat h]; rfl
theorem c_nlt {n:Nat} {a b:Out}:(bif ltI (n:Int) (n:Int) then a else b)=b:=by rw [ltI_nn]; rfl
theorem nd_true {a:Out}:nd true a=a:=rfl
theorem nd_ix {k n:Nat} (h:k<n) {a:Out}:nd (inRange (k:Int) n) a=a:=by rw [inRange_nat h]; rfl
theorem nd_take {k n:Nat} (h:k≤n) {a:Out}:nd (leI 0 0&&leI 0 (k:Int)&&leI (k:Int) (n:Int)) a=a:=by
 rw [leI_0,leI_nat h]; rfl
theorem bne_not {a b:Int}:(a != b) = !(a==b):=rfl
theorem ltI_00:ltI 0 ((0:Nat):Int)=false:=rfl
theorem ltI_0s {k:Nat}:ltI 0 ((k+1:Nat):Int)=true:=ltI_t (by omega)
theorem w64_pred {k:Nat} (h:k+1≤9223372036854775807):w64 (((k+1:Nat):Int) - 1)=(k:Int):=by rw [w64_id (by omega) (by omega)]; omega
def lenOk (l:List (List D)):Bool:=decide (l.length≤4294967296)
theorem lenOk_t {l:List (List D)} (h:l.length≤4294967296):lenOk l=true:=decide_eq_true h
theorem cond_oi (c:Bool) (x y:Int):(bif c then oi x else oi y)=oi (bif c then x else y):=by cases c <;> rfl
theorem cond_os (c:Bool) (x y:List UInt8):(bif c then (some (1,[.s x]):Out) else some (1,[.s y]))=some (1,[.s (bif c then x else y)]):=by cases c <;> rfl
theorem sameP_self (a:List (List D)):sameP a a=true:=by
 unfold sameP
 exact @decide_eq_true _ (Classical.propDecidable _) rfl
def e4 (s0 s1 s2 s3:Sh) (F:List D→List D→List D→List D→T × Bool):List T→Option (T × Bool)
 | [v0,v1,v2,v3]=>bif v0.sh==s0&&v1.sh==s1&&v2.sh==s2&&v3.sh==s3 then some (F v0.p v1.p v2.p v3.p) else none
 | _=>none
theorem e4_ok {P:Program} {f:FuncId} {s0 s1 s2 s3:Sh} {F:List D→List D→List D→List D→T × Bool} (h:∀ p0 p1 p2 p3,(F p0 p1 p2 p3).2=true→SoundFn P f [⟨s0,p0⟩,⟨s1,p1⟩,⟨s2,p2⟩,⟨s3,p3⟩] (F p0 p1 p2 p3).1):EntOk P (f,e4 s0 s1 s2 s3 F):=by
 intro args r hr0
 have hr:e4 s0 s1 s2 s3 F args=some (r,true):=hr0
 clear hr0
 unfold e4 at hr
 split at hr
 ·rename_i v0 v1 v2 v3
  cases hb:(v0.sh==s0&&v1.sh==s1&&v2.sh==s2&&v3.sh==s3) with
  | false=>rw [hb] at hr; cases hr
  | true =>
   rw [hb,cond_true,Option.some.injEq] at hr
   simp only [Bool.and_eq_true,beq_iff_eq] at hb
   obtain ⟨shv0,pv0⟩:=v0
   obtain ⟨shv1,pv1⟩:=v1
   obtain ⟨shv2,pv2⟩:=v2
   obtain ⟨shv3,pv3⟩:=v3
   obtain ⟨⟨⟨q0,q1⟩,q2⟩,q3⟩:=hb
   simp only at q0
   subst q0
   simp only at q1
   subst q1
   simp only at q2
   subst q2
   simp only at q3
   subst q3
   have hh:=h pv0 pv1 pv2 pv3
   rw [hr] at hh
   exact hh rfl
 ·cases hr
def e5 (s0 s1 s2 s3 s4:Sh) (F:List D→List D→List D→List D→List D→T × Bool):List T→Option (T × Bool)
 | [v0,v1,v2,v3,v4]=>bif v0.sh==s0&&v1.sh==s1&&v2.sh==s2&&v3.sh==s3&&v4.sh==s4 then some (F v0.p v1.p v2.p v3.p v4.p) else none
 | _=>none
theorem e5_ok {P:Program} {f:FuncId} {s0 s1 s2 s3 s4:Sh} {F:List D→List D→List D→List D→List D→T × Bool} (h:∀ p0 p1 p2 p3 p4,(F p0 p1 p2 p3 p4).2=true→SoundFn P f [⟨s0,p0⟩,⟨s1,p1⟩,⟨s2,p2⟩,⟨s3,p3⟩,⟨s4,p4⟩] (F p0 p1 p2 p3 p4).1):EntOk P (f,e5 s0 s1 s2 s3 s4 F):=by
 intro args r hr0
 have hr:e5 s0 s1 s2 s3 s4 F args=some (r,true):=hr0
 clear hr0
 unfold e5 at hr
 split at hr
 ·rename_i v0 v1 v2 v3 v4
  cases hb:(v0.sh==s0&&v1.sh==s1&&v2.sh==s2&&v3.sh==s3&&v4.sh==s4) with
  | false=>rw [hb] at hr; cases hr
  | true =>
   rw [hb,cond_true,Option.some.injEq] at hr
   simp only [Bool.and_eq_true,beq_iff_eq] at hb
   obtain ⟨shv0,pv0⟩:=v0
   obtain ⟨shv1,pv1⟩:=v1
   obtain ⟨shv2,pv2⟩:=v2
   obtain ⟨shv3,pv3⟩:=v3
   obtain ⟨shv4,pv4⟩:=v4
   obtain ⟨⟨⟨⟨q0,q1⟩,q2⟩,q3⟩,q4⟩:=hb
   simp only at q0
   subst q0
   simp only at q1
   subst q1
   simp only at q2
   subst q2
   simp only at q3
   subst q3
   simp only at q4
   subst q4
   have hh:=h pv0 pv1 pv2 pv3 pv4
   rw [hr] at hh
   exact hh rfl
 ·cases hr
theorem cnt_zero (C:Nat→Bool) (k:Nat):cnt C k 0=0:=rfl
theorem cnt_succ (C:Nat→Bool):∀ m k,cnt C k (m+1)=cnt C k m+(bif C (k+m) then 1 else 0)
 | 0,k=>by simp [cnt]
 | m+1,k=>by
  rw [cnt,cnt_succ C m (k+1),cnt,show k+1+m=k+(m+1) from by omega]
  omega
theorem anyS_take {C:List D→Bool} {z:D} {k:Nat} (h:k≤z.rows.length):anyS C (.l (z.rows.take k))=(List.range k).any fun j=>C (z.rows.getD j []):=by
 unfold anyS
 rw [rows_l,List.length_take,Nat.min_eq_left h]
 rw [Bool.eq_iff_iff]
 simp only [List.any_eq_true,List.mem_range]
 constructor
 ·rintro ⟨j,hj,h⟩
  refine ⟨j,hj,?_⟩
  rwa [List.getD_eq_getElem?_getD,List.getElem?_take_of_lt hj,← List.getD_eq_getElem?_getD] at h
 ·rintro ⟨j,hj,h⟩
  refine ⟨j,hj,?_⟩
  rwa [List.getD_eq_getElem?_getD,List.getElem?_take_of_lt hj,← List.getD_eq_getElem?_getD]
end Go.Proofs.YtchceahcaaibcaaGreat
namespace Go.Proofs.YtchceahcaaibcaaGreat
set_option maxRecDepth 4096
abbrev i_CoordOkT:FuncId→List T→Option (T × Bool):=find [i_recOkE,cofKE,i_fromE,coIE]
theorem i_CoordOkT_ok:CallOk Tryz.prog i_CoordOkT:=find_ok (fC ⟨i_recOk_ok,fC ⟨cofK_ok,fC ⟨i_from_ok,fC ⟨coI_ok,fN⟩⟩⟩⟩)
abbrev i_CoordOkK:List Nat:= [0,1,2,3,4,5,6,7,11,13,14,15,16,37,40,45,46,47,48,75]
noncomputable def i_CoordOkL0 (N:Nat) (p:List D):List D→Out:=loopOf Tryz.prog i_CoordOkT N i_CoordOkK Tryz.f62 rb [⟨ag rICoord,p⟩] 0
noncomputable def i_CoordOkL2 (N:Nat) (p:List D):List D→Out:=loopOf Tryz.prog i_CoordOkT N i_CoordOkK Tryz.f62 rb [⟨ag rICoord,p⟩] 2
theorem i_CoordOkR0 (N:Nat) (p:List D) (x0 x1 x2 x3 x4 x5 x6 x7 x8 x9 x10:D):(i_CoordOkL0 N p) [x0,x1,x2,x3,x4,x5,x6,x7,x8,x9,x10] =
 bif ltI x8.int x7.int then nd (inRange x8.int x6.rows.length) (bif (gd (x6.rows.getD x8.int.toNat []) 0).int != (w64 (x8.int+1)) then ob false
 else bif !(recOk (sub (x6.rows.getD x8.int.toNat []) 0 5)) then ob false
 else nd (leI 0 0&&leI 0 x8.int&&leI x8.int (x9.rows.length:Int)) (bif anyS (fun r=>ixfKC (.l [[.l [sub (x6.rows.getD x8.int.toNat []) 0 5]]]) (sub r 0 5)) (.l (x9.rows.take x8.int.toNat)) then ob false
 else bif (gd (x6.rows.getD x8.int.toNat []) 3).int==3 then nx [x0,x1,x2,x3,x4,.i (w64 (x5.int+1)),x6,x7,.i (w64 (x8.int+1)),x9,x10]
 else nx [x0,x1,x2,x3,x4,x5,x6,x7,.i (w64 (x8.int+1)),x9,x10]))
 else ex 0 [x0,x1,x2,x3,x4,x5,x6,x7,x8,x9,x10]:=by kernel_rfl
theorem i_CoordOkR2 (N:Nat) (p:List D) (x0 x1 x2 x3 x4 x5 x6 x7 x8 x9 x10 x11 x12 x13:D):(i_CoordOkL2 N p) [x0,x1,x2,x3,x4,x5,x6,x7,x8,x9,x10,x11,x12,x13] =
 bif ltI x11.int x10.int then nd (inRange x11.int x9.rows.length) (bif !(inB (gd (x9.rows.getD x11.int.toNat []) 0).int 1 (x12.rows.length:Int)) then ob false
 else nd (inRange (w64 ((gd (x9.rows.getD x11.int.toNat []) 0).int - 1)) x12.rows.length) (bif (gd (x12.rows.getD (w64 ((gd (x9.rows.getD x11.int.toNat []) 0).int - 1)).toNat []) 3).int != 3 then ob false
 else nd (leI 0 0&&leI 0 x11.int&&leI x11.int (x13.rows.length:Int)) (bif hasInt (.l (x13.rows.take x11.int.toNat)) (gd (x9.rows.getD x11.int.toNat []) 0).int then ob false
 else nx [x0,x1,x2,x3,x4,x5,x6,x7,x8,x9,x10,.i (w64 (x11.int+1)),x12,x13])))
 else ex 2 [x0,x1,x2,x3,x4,x5,x6,x7,x8,x9,x10,x11,x12,x13]:=by kernel_rfl
theorem i_CoordOk_ev (N:Nat) (p:List D):evFn Tryz.prog i_CoordOkT N i_CoordOkK Tryz.f62 rb [⟨ag rICoord,p⟩]=some (bo,
 bif ltI 60 ((gd p 0).rows.length:Int) then ob false
 else (let o0:=iter (i_CoordOkL0 N p) N [gd p 0,gd p 1,.i 0,.i 0,.b (ltI 60 ((gd p 0).rows.length:Int)),.i 0,gd p 0,.i ((gd p 0).rows.length:Int),.i 0,gd p 0,gd p 1]
  nd o0.isSome (bif o0.code==1 then some (1,o0.pay)
  else nd (o0.code==2) ((let o2:=iter (i_CoordOkL2 N p) N [gd o0.pay 0,gd o0.pay 1,gd o0.pay 2,gd o0.pay 3,gd o0.pay 4,gd o0.pay 5,gd o0.pay 6,gd o0.pay 7,gd o0.pay 8,gd o0.pay 10,.i ((gd o0.pay 10).rows.length:Int),.i 0,gd o0.pay 9,gd o0.pay 10]
  nd o2.isSome (bif o2.code==1 then some (1,o2.pay)
  else nd (o2.code==4) (ob ((gd o2.pay 5).int==((gd o2.pay 13).rows.length:Int))))))))):=by kernel_rfl
def recSame (a b:List D):Bool:=((gd a 1).int==(gd b 1).int)&&((gd a 2).int==(gd b 2).int)
def recAt (z:D) (k:Nat):Bool:=((gd (z.rows.getD k []) 0).int==((k+1:Nat):Int))&&(recOk (sub (z.rows.getD k []) 0 5) && !(List.range k).any fun j=>recSame (z.rows.getD j []) (z.rows.getD k []))
def isYes (z:D) (k:Nat):Bool:=(gd (z.rows.getD k []) 3).int==3
def ordAt (z o:D) (k:Nat):Bool:=inB (gd (o.rows.getD k []) 0).int 1 (z.rows.length:Int)&&(((gd (z.rows.getD ((gd (o.rows.getD k []) 0).int - 1).toNat []) 3).int==3) && !hasInt (.l (o.rows.take k)) (gd (o.rows.getD k []) 0).int)
def coordOk (p:List D):Bool:=decide ((gd p 0).rows.length≤60)&&((List.range (gd p 0).rows.length).all (recAt (gd p 0))&&((List.range (gd p 1).rows.length).all (ordAt (gd p 0) (gd p 1))&&((cnt (isYes (gd p 0)) 0 (gd p 0).rows.length:Nat):Int)==((gd p 1).rows.length:Int)))
def i_CoordOkE:Ent:=(62,e1 (ag rICoord) fun p=>(⟨rb,[.b (coordOk p)]⟩,true))
theorem i_CoordOk_ok:EntOk Tryz.prog i_CoordOkE:=e1_ok fun p h=>evFn_sound (N:=(gd p 0).rows.length+(gd p 1).rows.length+1) (ks:=i_CoordOkK) (key:=bo) i_CoordOkT_ok (enters Tryz.func62) Tryz.func62 fun hw=>by
 rw [i_CoordOk_ev]
 have hl1:=wt_at (hw ⟨ag rICoord,p⟩ (by simp)) (j:=1) rfl
 by_cases h60:(gd p 0).rows.length≤60
 ·rw [ltI_f (show ((gd p 0).rows.length:Int)≤60 from by omega)]
  have e0:=for_loop (L:=i_CoordOkL0 ((gd p 0).rows.length+(gd p 1).rows.length+1) p) (fun k => [gd p 0,gd p 1,.i 0,.i 0,.b false,.i (cnt (isYes (gd p 0)) 0 k:Nat),gd p 0,.i ((gd p 0).rows.length:Int),.i (k:Int),gd p 0,gd p 1]) (gd p 0).rows.length (recAt (gd p 0)) [.b false] 0 (fun k hk=>?_) ?_ (N:=(gd p 0).rows.length+(gd p 1).rows.length+1) (by omega)
  ·simp only [cnt_zero,Int.natCast_zero] at e0
   rw [cond_false,e0]
   simp only [coordOk,h60,decide_true,Bool.true_and]
   cases h1:(List.range (gd p 0).rows.length).all (recAt (gd p 0))
   ·rfl
   ·have e2:=for_loop (L:=i_CoordOkL2 ((gd p 0).rows.length+(gd p 1).rows.length+1) p) (fun k => [gd p 0,gd p 1,.i 0,.i 0,.b false,.i (cnt (isYes (gd p 0)) 0 (gd p 0).rows.length:Nat),gd p 0,.i ((gd p 0).rows.length:Int),.i ((gd p 0).rows.length:Int),gd p 1,.i ((gd p 1).rows.length:Int),.i (k:Int),gd p 0,gd p 1]) (gd p 1).rows.length (ordAt (gd p 0) (gd p 1)) [.b false] 2 (fun k hk=>?_) ?_ (N:=(gd p 0).rows.length+(gd p 1).rows.length+1) (by omega)
    ·simp only [Int.natCast_zero] at e2
     simp only [nd,cond_true,cond_false,Option.isSome_some,Out.code,Out.pay,Option.getD_some,gd_cons_zero,gd_cons_succ,Nat.reduceBEq,Nat.reduceAdd,int_i,bool_b,str_s,rows_l,Bool.not_true,Bool.not_false,beq_self_eq_true]
     rw [e2]
     cases h2:(List.range (gd p 1).rows.length).all (ordAt (gd p 0) (gd p 1)) <;> rfl
    ·show i_CoordOkL2 _ p [_,_,_,_,_,_,_,_,_,_,_,.i (k:Int),_,_]=_
     rw [i_CoordOkR2]
     simp only [int_i,c_lt hk,nd_ix hk,w64_succ hk hl1,Int.toNat_natCast,nd_take (Nat.le_of_lt hk),bne_not,ordAt]
     cases hb:inB (gd ((gd p 1).rows.getD k []) 0).int 1 ((gd p 0).rows.length:Int)
     ·rfl
     ·have hb':=hb
      simp only [inB,Bool.and_eq_true,decide_eq_true_eq] at hb'
      obtain ⟨m,hm⟩:∃ m:Nat,(gd ((gd p 1).rows.getD k []) 0).int=((m+1:Nat):Int):=⟨((gd ((gd p 1).rows.getD k []) 0).int - 1).toNat,by omega⟩
      rw [hm] at hb' ⊢
      rw [show w64 (((m+1:Nat):Int) - 1)=(m:Int) from by rw [w64_id (by omega) (by omega)]; omega,show ((m+1:Nat):Int) - 1=(m:Int) from by omega,nd_ix (show m<(gd p 0).rows.length from by omega),Int.toNat_natCast]
      cases (gd ((gd p 0).rows.getD m []) 3).int==3 <;> cases hasInt (.l ((gd p 1).rows.take k)) ((m+1:Nat):Int) <;> rfl
    ·show i_CoordOkL2 _ p [_,_,_,_,_,_,_,_,_,_,_,.i ((gd p 1).rows.length:Int),_,_]=_
     rw [i_CoordOkR2]
     simp only [int_i,c_nlt]
  ·show i_CoordOkL0 _ p [_,_,_,_,_,_,_,_,.i (k:Int),_,_]=_
   rw [i_CoordOkR0]
   simp only [int_i,c_lt hk,nd_ix hk,w64_succ hk (show (gd p 0).rows.length≤9223372036854775807 from by omega),Int.toNat_natCast,nd_take (Nat.le_of_lt hk),bne_not,recAt,anyS_take (Nat.le_of_lt hk),cnt_succ,Nat.zero_add]
   have hc:=cnt_le (isYes (gd p 0)) k 0
   rw [w64_id (x:=(cnt (isYes (gd p 0)) 0 k:Int)+1) (by omega) (by omega)]
   rw [show ((List.range k).any fun j=>ixfKC (.l [[.l [sub ((gd p 0).rows.getD k []) 0 5]]]) (sub ((gd p 0).rows.getD j []) 0 5))=(List.range k).any fun j=>recSame ((gd p 0).rows.getD j []) ((gd p 0).rows.getD k []) from rfl]
   cases (gd ((gd p 0).rows.getD k []) 0).int==((k+1:Nat):Int)
   ·rfl
   cases recOk (sub ((gd p 0).rows.getD k []) 0 5)
   ·rfl
   cases (List.range k).any fun j=>recSame ((gd p 0).rows.getD j []) ((gd p 0).rows.getD k [])
   ·rw [show ((gd ((gd p 0).rows.getD k []) 3).int==3)=isYes (gd p 0) k from rfl]
    cases isYes (gd p 0) k <;> rfl
   ·rfl
  ·show i_CoordOkL0 _ p [_,_,_,_,_,_,_,.i ((gd p 0).rows.length:Int),.i ((gd p 0).rows.length:Int),_,_]=_
   rw [i_CoordOkR0]
   simp only [int_i,c_nlt]
 ·rw [ltI_t (show (60:Int)<((gd p 0).rows.length:Int) from by omega)]
  simp only [coordOk,h60,decide_false,Bool.false_and]
  rfl
abbrev s_CoordOkT:FuncId→List T→Option (T × Bool):=find [s_l14RecOkE,s_l1InE,s_l12HasE]
theorem s_CoordOkT_ok:CallOk Tryz.prog s_CoordOkT:=find_ok (fC ⟨s_l14RecOk_ok,fC ⟨s_l1In_ok,fC ⟨s_l12Has_ok,fN⟩⟩⟩)
abbrev s_CoordOkK:List Nat:= [0,1,2,3,4,5,6,7,8,18,23,40,43,65,68,75,106]
noncomputable def s_CoordOkL0 (N:Nat) (p:List D):List D→Out:=loopOf Tryz.prog s_CoordOkT N s_CoordOkK Tryz.f48 rb [⟨ag rICoord,p⟩] 0
noncomputable def s_CoordOkL2 (N:Nat) (p:List D):List D→Out:=loopOf Tryz.prog s_CoordOkT N s_CoordOkK Tryz.f48 rb [⟨ag rICoord,p⟩] 2
noncomputable def s_CoordOkL4 (N:Nat) (p:List D):List D→Out:=loopOf Tryz.prog s_CoordOkT N s_CoordOkK Tryz.f48 rb [⟨ag rICoord,p⟩] 4
theorem s_CoordOkR0 (N:Nat) (p:List D) (x0 x1 x2 x3 x4 x5 x6 x7 x8:D):(s_CoordOkL0 N p) [x0,x1,x2,x3,x4,x5,x6,x7,x8] =
 bif ltI x6.int (x7.rows.length:Int) then nd (inRange x6.int x7.rows.length) (bif (gd (x7.rows.getD x6.int.toNat []) 0).int != (w64 (x6.int+1)) then ob false
 else bif !(recOk (sub (x7.rows.getD x6.int.toNat []) 0 5)) then ob false
 else (let o2:=iter (s_CoordOkL2 N p) N [x0,x1,x2,x3,x4,x5,x6,.b (ltI x6.int (x7.rows.length:Int)),.i 0,.b (!(recOk (sub (x7.rows.getD x6.int.toNat []) 0 5))),.i 0,x7,x8,gd (x7.rows.getD x6.int.toNat []) 0,gd (x7.rows.getD x6.int.toNat []) 1,gd (x7.rows.getD x6.int.toNat []) 2,gd (x7.rows.getD x6.int.toNat []) 3,gd (x7.rows.getD x6.int.toNat []) 4]
  nd o2.isSome (bif o2.code==1 then some (1,o2.pay)
  else nd (o2.code==4) (bif (gd o2.pay 16).int==3 then nx [gd o2.pay 0,gd o2.pay 1,gd o2.pay 2,gd o2.pay 3,gd o2.pay 4,.i (w64 ((gd o2.pay 5).int+1)),.i (w64 ((gd o2.pay 6).int+1)),gd o2.pay 11,gd o2.pay 12]
  else nx [gd o2.pay 0,gd o2.pay 1,gd o2.pay 2,gd o2.pay 3,gd o2.pay 4,gd o2.pay 5,.i (w64 ((gd o2.pay 6).int+1)),gd o2.pay 11,gd o2.pay 12]))))
 else ex 0 [x0,x1,x2,x3,x4,x5,x6,x7,x8]:=by kernel_rfl
theorem s_CoordOkR2 (N:Nat) (p:List D) (x0 x1 x2 x3 x4 x5 x6 x7 x8 x9 x10 x11 x12 x13 x14 x15 x16 x17:D):(s_CoordOkL2 N p) [x0,x1,x2,x3,x4,x5,x6,x7,x8,x9,x10,x11,x12,x13,x14,x15,x16,x17] =
 bif ltI x10.int x6.int then nd (inRange x10.int x11.rows.length) (bif (gd (x11.rows.getD x10.int.toNat []) 1).int==x14.int then nd (inRange x10.int x11.rows.length) (bif (gd (x11.rows.getD x10.int.toNat []) 2).int==x15.int then ob false
 else nx [x0,x1,x2,x3,x4,x5,x6,x7,x8,x9,.i (w64 (x10.int+1)),x11,x12,x13,x14,x15,x16,x17])
 else nx [x0,x1,x2,x3,x4,x5,x6,x7,x8,x9,.i (w64 (x10.int+1)),x11,x12,x13,x14,x15,x16,x17])
 else ex 2 [x0,x1,x2,x3,x4,x5,x6,x7,x8,x9,x10,x11,x12,x13,x14,x15,x16,x17]:=by kernel_rfl
theorem s_CoordOkR4 (N:Nat) (p:List D) (x0 x1 x2 x3 x4 x5 x6 x7 x8 x9:D):(s_CoordOkL4 N p) [x0,x1,x2,x3,x4,x5,x6,x7,x8,x9] =
 bif ltI x7.int (x9.rows.length:Int) then nd (inRange x7.int x9.rows.length) (bif !(inB (gd (x9.rows.getD x7.int.toNat []) 0).int 1 (x8.rows.length:Int)) then ob false
 else nd (inRange (w64 ((gd (x9.rows.getD x7.int.toNat []) 0).int - 1)) x8.rows.length) (bif (gd (x8.rows.getD (w64 ((gd (x9.rows.getD x7.int.toNat []) 0).int - 1)).toNat []) 3).int != 3 then ob false
 else nd (leI 0 0&&leI 0 x7.int&&leI x7.int (x9.rows.length:Int)) (bif hasInt (.l (x9.rows.take x7.int.toNat)) (gd (x9.rows.getD x7.int.toNat []) 0).int then ob false
 else nx [x0,x1,x2,x3,x4,x5,x6,.i (w64 (x7.int+1)),x8,x9])))
 else ex 4 [x0,x1,x2,x3,x4,x5,x6,x7,x8,x9]:=by kernel_rfl
theorem s_CoordOk_ev (N:Nat) (p:List D):evFn Tryz.prog s_CoordOkT N s_CoordOkK Tryz.f48 rb [⟨ag rICoord,p⟩]=some (bo,
 bif ltI 60 ((gd p 0).rows.length:Int) then ob false
 else bif ltI 60 ((gd p 1).rows.length:Int) then ob false
 else (let o0:=iter (s_CoordOkL0 N p) N [gd p 0,gd p 1,.i 0,.i 0,.b (ltI 60 ((gd p 1).rows.length:Int)),.i 0,.i 0,gd p 0,gd p 1]
  nd o0.isSome (bif o0.code==1 then some (1,o0.pay)
  else nd (o0.code==2) ((let o4:=iter (s_CoordOkL4 N p) N [gd o0.pay 0,gd o0.pay 1,gd o0.pay 2,gd o0.pay 3,gd o0.pay 4,gd o0.pay 5,gd o0.pay 6,.i 0,gd o0.pay 7,gd o0.pay 8]
  nd o4.isSome (bif o4.code==1 then some (1,o4.pay)
  else nd (o4.code==6) (ob ((gd o4.pay 5).int==((gd o4.pay 9).rows.length:Int))))))))):=by kernel_rfl
theorem not_any {n:Nat} {C:Nat→Bool}:((List.range n).all fun k => !C k) = !(List.range n).any C:=by simp [List.all_eq_not_any_not]
theorem s_CoordOkU (N:Nat) (p:List D) (hN:(gd p 0).rows.length<N) (hl:(gd p 0).rows.length≤60) (y:D) (k:Nat) (hk:k<(gd p 0).rows.length) :
  iter (s_CoordOkL2 N p) N [gd p 0,gd p 1,.i 0,.i 0,.b false,y,.i (k:Int),.b true,.i 0,.b false,.i 0,gd p 0,gd p 1,gd ((gd p 0).rows.getD k []) 0,gd ((gd p 0).rows.getD k []) 1,gd ((gd p 0).rows.getD k []) 2,gd ((gd p 0).rows.getD k []) 3,gd ((gd p 0).rows.getD k []) 4] =
  some (bif (List.range k).any (fun j=>recSame ((gd p 0).rows.getD j []) ((gd p 0).rows.getD k [])) then (1,[.b false]) else (4,[gd p 0,gd p 1,.i 0,.i 0,.b false,y,.i (k:Int),.b true,.i 0,.b false,.i (k:Int),gd p 0,gd p 1,gd ((gd p 0).rows.getD k []) 0,gd ((gd p 0).rows.getD k []) 1,gd ((gd p 0).rows.getD k []) 2,gd ((gd p 0).rows.getD k []) 3,gd ((gd p 0).rows.getD k []) 4])):=by
 have e:=for_loop (L:=s_CoordOkL2 N p) (fun j => [gd p 0,gd p 1,.i 0,.i 0,.b false,y,.i (k:Int),.b true,.i 0,.b false,.i (j:Int),gd p 0,gd p 1,gd ((gd p 0).rows.getD k []) 0,gd ((gd p 0).rows.getD k []) 1,gd ((gd p 0).rows.getD k []) 2,gd ((gd p 0).rows.getD k []) 3,gd ((gd p 0).rows.getD k []) 4]) k (fun j => !recSame ((gd p 0).rows.getD j []) ((gd p 0).rows.getD k [])) [.b false] 2 (fun j hj=>?_) ?_ (N:=N) (by omega)
 ·simp only [Int.natCast_zero,not_any] at e
  rw [e]
  cases (List.range k).any (fun j=>recSame ((gd p 0).rows.getD j []) ((gd p 0).rows.getD k [])) <;> rfl
 ·show s_CoordOkL2 N p [_,_,_,_,_,_,.i (k:Int),_,_,_,.i (j:Int),_,_,_,_,_,_,_]=_
  rw [s_CoordOkR2]
  simp only [int_i,c_lt hj,nd_ix (Nat.lt_trans hj hk),w64_succ hj (show k≤9223372036854775807 from by omega),Int.toNat_natCast,recSame]
  cases (gd ((gd p 0).rows.getD j []) 1).int==(gd ((gd p 0).rows.getD k []) 1).int <;> cases (gd ((gd p 0).rows.getD j []) 2).int==(gd ((gd p 0).rows.getD k []) 2).int <;> rfl
 ·show s_CoordOkL2 N p [_,_,_,_,_,_,.i (k:Int),_,_,_,.i (k:Int),_,_,_,_,_,_,_]=_
  rw [s_CoordOkR2]
  simp only [int_i,c_nlt]
def s_CoordOkE:Ent:=(48,e1 (ag rICoord) fun p=>(⟨rb,[.b (coordOk p)]⟩,true))
theorem s_CoordOk_ok:EntOk Tryz.prog s_CoordOkE:=e1_ok fun p h=>evFn_sound (N:=(gd p 0).rows.length+(gd p 1).rows.length+1) (ks:=s_CoordOkK) (key:=bo) s_CoordOkT_ok (enters Tryz.func48) Tryz.func48 fun hw=>by
 rw [s_CoordOk_ev]
 have hl1:=wt_at (hw ⟨ag rICoord,p⟩ (by simp)) (j:=1) rfl
 by_cases h60:(gd p 0).rows.length≤60
 ·rw [ltI_f (show ((gd p 0).rows.length:Int)≤60 from by omega),cond_false]
  by_cases h61:(gd p 1).rows.length≤60
  ·rw [ltI_f (show ((gd p 1).rows.length:Int)≤60 from by omega),cond_false]
   have e0:=for_loop (L:=s_CoordOkL0 ((gd p 0).rows.length+(gd p 1).rows.length+1) p) (fun k => [gd p 0,gd p 1,.i 0,.i 0,.b false,.i (cnt (isYes (gd p 0)) 0 k:Nat),.i (k:Int),gd p 0,gd p 1]) (gd p 0).rows.length (recAt (gd p 0)) [.b false] 0 (fun k hk=>?_) ?_ (N:=(gd p 0).rows.length+(gd p 1).rows.length+1) (by omega)
   ·simp only [cnt_zero,Int.natCast_zero] at e0
    rw [e0]
    simp only [coordOk,h60,decide_true,Bool.true_and]
    cases h1:(List.range (gd p 0).rows.length).all (recAt (gd p 0))
    ·rfl
    ·have e2:=for_loop (L:=s_CoordOkL4 ((gd p 0).rows.length+(gd p 1).rows.length+1) p) (fun k => [gd p 0,gd p 1,.i 0,.i 0,.b false,.i (cnt (isYes (gd p 0)) 0 (gd p 0).rows.length:Nat),.i ((gd p 0).rows.length:Int),.i (k:Int),gd p 0,gd p 1]) (gd p 1).rows.length (ordAt (gd p 0) (gd p 1)) [.b false] 4 (fun k hk=>?_) ?_ (N:=(gd p 0).rows.length+(gd p 1).rows.length+1) (by omega)
     ·simp only [Int.natCast_zero] at e2
      simp only [nd,cond_true,cond_false,Option.isSome_some,Out.code,Out.pay,Option.getD_some,gd_cons_zero,gd_cons_succ,Nat.reduceBEq,Nat.reduceAdd,int_i,bool_b,str_s,rows_l,Bool.not_true,Bool.not_false,beq_self_eq_true]
      rw [e2]
      cases h2:(List.range (gd p 1).rows.length).all (ordAt (gd p 0) (gd p 1)) <;> rfl
     ·show s_CoordOkL4 _ p [_,_,_,_,_,_,_,.i (k:Int),_,_]=_
      rw [s_CoordOkR4]
      simp only [int_i,c_lt hk,nd_ix hk,w64_succ hk hl1,Int.toNat_natCast,nd_take (Nat.le_of_lt hk),bne_not,ordAt]
      cases hb:inB (gd ((gd p 1).rows.getD k []) 0).int 1 ((gd p 0).rows.length:Int)
      ·rfl
      ·have hb':=hb
       simp only [inB,Bool.and_eq_true,decide_eq_true_eq] at hb'
       obtain ⟨m,hm⟩:∃ m:Nat,(gd ((gd p 1).rows.getD k []) 0).int=((m+1:Nat):Int):=⟨((gd ((gd p 1).rows.getD k []) 0).int - 1).toNat,by omega⟩
       rw [hm] at hb' ⊢
       rw [show w64 (((m+1:Nat):Int) - 1)=(m:Int) from by rw [w64_id (by omega) (by omega)]; omega,show ((m+1:Nat):Int) - 1=(m:Int) from by omega,nd_ix (show m<(gd p 0).rows.length from by omega),Int.toNat_natCast]
       cases (gd ((gd p 0).rows.getD m []) 3).int==3 <;> cases hasInt (.l ((gd p 1).rows.take k)) ((m+1:Nat):Int) <;> rfl
     ·show s_CoordOkL4 _ p [_,_,_,_,_,_,_,.i ((gd p 1).rows.length:Int),_,_]=_
      rw [s_CoordOkR4]
      simp only [int_i,c_nlt]
   ·show s_CoordOkL0 _ p [_,_,_,_,_,_,.i (k:Int),_,_]=_
    rw [s_CoordOkR0]
    simp only [int_i,ltI_nat hk,nd_ix hk,w64_succ hk (show (gd p 0).rows.length≤9223372036854775807 from by omega),Int.toNat_natCast,bne_not,recAt,cnt_succ,Nat.zero_add]
    have hc:=cnt_le (isYes (gd p 0)) k 0
    cases (gd ((gd p 0).rows.getD k []) 0).int==((k+1:Nat):Int)
    ·rfl
    cases recOk (sub ((gd p 0).rows.getD k []) 0 5)
    ·rfl
    simp only [nd,cond_true,cond_false,Option.isSome_some,Out.code,Out.pay,Option.getD_some,gd_cons_zero,gd_cons_succ,Nat.reduceBEq,Nat.reduceAdd,int_i,bool_b,str_s,rows_l,Bool.not_true,Bool.not_false,beq_self_eq_true,Bool.true_and,s_CoordOkU ((gd p 0).rows.length+(gd p 1).rows.length+1) p (by omega) h60 _ k hk]
    cases (List.range k).any fun j=>recSame ((gd p 0).rows.getD j []) ((gd p 0).rows.getD k [])
    ·simp only [nd,cond_true,cond_false,Option.isSome_some,Out.code,Out.pay,Option.getD_some,gd_cons_zero,gd_cons_succ,Nat.reduceBEq,Nat.reduceAdd,int_i,bool_b,str_s,rows_l,Bool.not_true,Bool.not_false,beq_self_eq_true,Bool.true_and,show ((gd ((gd p 0).rows.getD k []) 3).int==3)=isYes (gd p 0) k from rfl,w64_id (x:=(cnt (isYes (gd p 0)) 0 k:Int)+1) (by omega) (by omega),w64_succ hk (show (gd p 0).rows.length≤9223372036854775807 from by omega)]
     cases isYes (gd p 0) k <;> rfl
    ·rfl
   ·show s_CoordOkL0 _ p [_,_,_,_,_,_,.i ((gd p 0).rows.length:Int),_,_]=_
    rw [s_CoordOkR0]
    simp only [int_i,c_nlt]
  ·rw [ltI_t (show (60:Int)<((gd p 1).rows.length:Int) from by omega)]
   have hc:=cnt_le (isYes (gd p 0)) (gd p 0).rows.length 0
   simp only [coordOk,show (((cnt (isYes (gd p 0)) 0 (gd p 0).rows.length:Nat):Int)==((gd p 1).rows.length:Int))=false from beq_eq_false_iff_ne.2 (by omega),Bool.and_false]
   rfl
 ·rw [ltI_t (show (60:Int)<((gd p 0).rows.length:Int) from by omega)]
  simp only [coordOk,h60,decide_false,Bool.false_and]
  rfl
end Go.Proofs.YtchceahcaaibcaaGreat
namespace Go.Proofs.YtchceahcaaibcaaGreat
set_option maxRecDepth 4096
abbrev i_CoordStateT:FuncId→List T→Option (T × Bool):=find [i_CoordOkE,i_isRecE]
theorem i_CoordStateT_ok:CallOk Tryz.prog i_CoordStateT:=find_ok (fC ⟨i_CoordOk_ok,fC ⟨i_isRec_ok,fN⟩⟩)
abbrev i_CoordStateK:List Nat:= [0,1,2,4,13]
theorem i_CoordState_ev (N:Nat) (p q:List D):evFn Tryz.prog i_CoordStateT N i_CoordStateK Tryz.f229 ri [⟨ag rICoord,p⟩,⟨ri,q⟩]=some (bo,
 bif !(coordOk (sub p 0 2)) then oi 0
 else bif !(inB (gd q 0).int 1 (gd p 0).rows.length) then oi 0
 else nd (inRange (w64 ((gd q 0).int - 1)) (gd p 0).rows.length) (some (1,[gd ((gd p 0).rows.getD (w64 ((gd q 0).int - 1)).toNat []) 3]))):=by kernel_rfl
def coordState (p:List D) (tx:Int):D:=bif coordOk p&&inB tx 1 ((gd p 0).rows.length:Int) then gd ((gd p 0).rows.getD (tx - 1).toNat []) 3 else .i 0
theorem state_go (p:List D) (tx:Int) (hl:(gd p 0).rows.length≤9223372036854775807) :
  (bif !(coordOk p) then oi 0 else bif !(inB tx 1 ((gd p 0).rows.length:Int)) then oi 0 else nd (inRange (w64 (tx - 1)) (gd p 0).rows.length) (some (1,[gd ((gd p 0).rows.getD (w64 (tx - 1)).toNat []) 3])))=some (1,[coordState p tx]):=by
 unfold coordState
 cases coordOk p
 ·rfl
 cases hb:inB tx 1 ((gd p 0).rows.length:Int)
 ·rfl
 ·simp only [inB,Bool.and_eq_true,decide_eq_true_eq] at hb
  obtain ⟨m,rfl⟩:∃ m:Nat,tx=((m+1:Nat):Int):=⟨(tx - 1).toNat,by omega⟩
  rw [show w64 (((m+1:Nat):Int) - 1)=(m:Int) from by rw [w64_id (by omega) (by omega)]; omega,show ((m+1:Nat):Int) - 1=(m:Int) from by omega,inRange_nat (show m<(gd p 0).rows.length from by omega)]
  rfl
def i_CoordStateE:Ent:=(229,e2 (ag rICoord) ri fun p q=>(⟨ri,[coordState p (gd q 0).int]⟩,true))
theorem i_CoordState_ok:EntOk Tryz.prog i_CoordStateE:=e2_ok fun p q h=>evFn_sound (N:=0) (ks:=i_CoordStateK) (key:=bo) i_CoordStateT_ok (enters Tryz.func229) Tryz.func229 fun hw=>by
 rw [i_CoordState_ev]
 exact congrArg (fun o=>some (bo,o)) (state_go p (gd q 0).int (wt_at (hw ⟨ag rICoord,p⟩ (by simp)) (j:=0) rfl))
abbrev s_CoordStateT:FuncId→List T→Option (T × Bool):=find [s_CoordOkE,s_l1InE]
theorem s_CoordStateT_ok:CallOk Tryz.prog s_CoordStateT:=find_ok (fC ⟨s_CoordOk_ok,fC ⟨s_l1In_ok,fN⟩⟩)
abbrev s_CoordStateK:List Nat:= [0,1,2,4,15]
theorem s_CoordState_ev (N:Nat) (p q:List D):evFn Tryz.prog s_CoordStateT N s_CoordStateK Tryz.f223 ri [⟨ag rICoord,p⟩,⟨ri,q⟩]=some (bo,
 bif !(coordOk (sub p 0 2)) then oi 0
 else bif !(inB (gd q 0).int 1 ((gd p 0).rows.length:Int)) then oi 0
 else nd (inRange (w64 ((gd q 0).int - 1)) (gd p 0).rows.length) (some (1,[gd ((gd p 0).rows.getD (w64 ((gd q 0).int - 1)).toNat []) 3]))):=by kernel_rfl
def s_CoordStateE:Ent:=(223,e2 (ag rICoord) ri fun p q=>(⟨ri,[coordState p (gd q 0).int]⟩,true))
theorem s_CoordState_ok:EntOk Tryz.prog s_CoordStateE:=e2_ok fun p q h=>evFn_sound (N:=0) (ks:=s_CoordStateK) (key:=bo) s_CoordStateT_ok (enters Tryz.func223) Tryz.func223 fun hw=>by
 rw [s_CoordState_ev]
 exact congrArg (fun o=>some (bo,o)) (state_go p (gd q 0).int (wt_at (hw ⟨ag rICoord,p⟩ (by simp)) (j:=0) rfl))
abbrev i_judgedT:FuncId→List T→Option (T × Bool):=find [i_CoordOkE]
theorem i_judgedT_ok:CallOk Tryz.prog i_judgedT:=find_ok (fC ⟨i_CoordOk_ok,fN⟩)
abbrev i_judgedK:List Nat:= [0,1,2,4]
theorem i_judged_ev (N:Nat) (p q:List D):evFn Tryz.prog i_judgedT N i_judgedK Tryz.f224 rb [⟨ag rICoord,p⟩,⟨sd (.sl 88),q⟩]=some (bo,
 bif coordOk (sub p 0 2) then ob (leI ((gd q 0).rows.length:Int) 200)
 else ob false):=by kernel_rfl
def judged (p:List D) (z:D):Bool:=coordOk p&&leI (z.rows.length:Int) 200
def i_judgedE:Ent:=(224,e2 (ag rICoord) (sd (.sl 88)) fun p q=>(⟨rb,[.b (judged p (gd q 0))]⟩,true))
theorem i_judged_ok:EntOk Tryz.prog i_judgedE:=e2_ok fun p q h=>evFn_sound (N:=0) (ks:=i_judgedK) (key:=bo) i_judgedT_ok (enters Tryz.func224) Tryz.func224 fun hw=>by
 rw [i_judged_ev]
 rw [and_ob]; rfl
abbrev s_l17RightT:FuncId→List T→Option (T × Bool):=find [s_CoordOkE]
theorem s_l17RightT_ok:CallOk Tryz.prog s_l17RightT:=find_ok (fC ⟨s_CoordOk_ok,fN⟩)
abbrev s_l17RightK:List Nat:= [0,1,2,4]
theorem s_l17Right_ev (N:Nat) (p q:List D):evFn Tryz.prog s_l17RightT N s_l17RightK Tryz.f220 rb [⟨ag rICoord,p⟩,⟨sd (.sl 88),q⟩]=some (bo,
 bif coordOk (sub p 0 2) then ob (leI ((gd q 0).rows.length:Int) 200)
 else ob false):=by kernel_rfl
def s_l17RightE:Ent:=(220,e2 (ag rICoord) (sd (.sl 88)) fun p q=>(⟨rb,[.b (judged p (gd q 0))]⟩,true))
theorem s_l17Right_ok:EntOk Tryz.prog s_l17RightE:=e2_ok fun p q h=>evFn_sound (N:=0) (ks:=s_l17RightK) (key:=bo) s_l17RightT_ok (enters Tryz.func220) Tryz.func220 fun hw=>by
 rw [s_l17Right_ev]
 rw [and_ob]; rfl
abbrev i_JudgeEndsT:FuncId→List T→Option (T × Bool):=find [i_judgedE,i_CoordStateE]
theorem i_JudgeEndsT_ok:CallOk Tryz.prog i_JudgeEndsT:=find_ok (fC ⟨i_judged_ok,fC ⟨i_CoordState_ok,fN⟩⟩)
abbrev i_JudgeEndsK:List Nat:= [0,1,2,4,6,7,11,12,13,14,15,19,30]
noncomputable def i_JudgeEndsL0 (N:Nat) (p q:List D):List D→Out:=loopOf Tryz.prog i_JudgeEndsT N i_JudgeEndsK Tryz.f117 rb [⟨ag rICoord,p⟩,⟨sd (.sl 88),q⟩] 0
theorem i_JudgeEndsR0 (N:Nat) (p q:List D) (x0 x1 x2 x3 x4 x5 x6 x7 x8 x9 x10:D):(i_JudgeEndsL0 N p q) [x0,x1,x2,x3,x4,x5,x6,x7,x8,x9,x10] =
 bif ltI x8.int x7.int then nd (inRange x8.int x6.rows.length) (bif (gd (x6.rows.getD x8.int.toNat []) 6).bool then bif (gd (x6.rows.getD x8.int.toNat []) 0).int==3 then bif (coordState [x9,x10] (gd (x6.rows.getD x8.int.toNat []) 2).int).int != 3 then ob false
 else nx [x0,x1,x2,x3,x4,x5,x6,x7,.i (w64 (x8.int+1)),x9,x10]
 else nx [x0,x1,x2,x3,x4,x5,x6,x7,.i (w64 (x8.int+1)),x9,x10]
 else bif (gd (x6.rows.getD x8.int.toNat []) 0).int==3 then bif (coordState [x9,x10] (gd (x6.rows.getD x8.int.toNat []) 2).int).int != 4 then ob false
 else nx [x0,x1,x2,x3,x4,x5,x6,x7,.i (w64 (x8.int+1)),x9,x10]
 else nx [x0,x1,x2,x3,x4,x5,x6,x7,.i (w64 (x8.int+1)),x9,x10])
 else ex 0 [x0,x1,x2,x3,x4,x5,x6,x7,x8,x9,x10]:=by kernel_rfl
theorem i_JudgeEnds_ev (N:Nat) (p q:List D):evFn Tryz.prog i_JudgeEndsT N i_JudgeEndsK Tryz.f117 rb [⟨ag rICoord,p⟩,⟨sd (.sl 88),q⟩]=some (bo,
 bif !(judged (sub p 0 2) (gd q 0)) then ob false
 else (let o0:=iter (i_JudgeEndsL0 N p q) N [gd p 0,gd p 1,gd q 0,.i 0,.i 0,.b (!(judged (sub p 0 2) (gd q 0))),gd q 0,.i ((gd q 0).rows.length:Int),.i 0,gd p 0,gd p 1]
  nd o0.isSome (bif o0.code==1 then some (1,o0.pay)
  else nd (o0.code==2) (ob true)))):=by kernel_rfl
def endAt (p:List D) (z:D) (k:Nat):Bool:=bif (gd (z.rows.getD k []) 0).int==3 then (coordState p (gd (z.rows.getD k []) 2).int).int==(bif (gd (z.rows.getD k []) 6).bool then 3 else 4) else true
def judgeEnds (p:List D) (z:D):Bool:=judged p z&&(List.range z.rows.length).all (endAt p z)
def i_JudgeEndsE:Ent:=(117,e2 (ag rICoord) (sd (.sl 88)) fun p q=>(⟨rb,[.b (judgeEnds p (gd q 0))]⟩,true))
theorem i_JudgeEnds_ok:EntOk Tryz.prog i_JudgeEndsE:=e2_ok fun p q h=>evFn_sound (N:=201) (ks:=i_JudgeEndsK) (key:=bo) i_JudgeEndsT_ok (enters Tryz.func117) Tryz.func117 fun hw=>by
 rw [i_JudgeEnds_ev]
 have hs:judged (sub p 0 2) (gd q 0)=judged p (gd q 0):=rfl
 rw [hs]
 unfold judgeEnds
 cases hj:judged p (gd q 0)
 ·rfl
 ·have h200:(gd q 0).rows.length≤200:=by
   simp only [judged,leI,Bool.and_eq_true,decide_eq_true_eq] at hj
   omega
  have e0:=for_loop (L:=i_JudgeEndsL0 201 p q) (fun k => [gd p 0,gd p 1,gd q 0,.i 0,.i 0,.b false,gd q 0,.i ((gd q 0).rows.length:Int),.i (k:Int),gd p 0,gd p 1]) (gd q 0).rows.length (endAt p (gd q 0)) [.b false] 0 (fun k hk=>?_) ?_ (N:=201) (by omega)
  ·simp only [Int.natCast_zero] at e0
   simp only [Bool.not_true,cond_false,e0,Bool.true_and]
   cases (List.range (gd q 0).rows.length).all (endAt p (gd q 0)) <;> rfl
  ·show i_JudgeEndsL0 _ p q [_,_,_,_,_,_,_,_,.i (k:Int),_,_]=_
   rw [i_JudgeEndsR0]
   simp only [int_i,c_lt hk,nd_ix hk,w64_succ hk (show (gd q 0).rows.length≤9223372036854775807 from by omega),Int.toNat_natCast,bne_not,endAt,show coordState [gd p 0,gd p 1]=coordState p from rfl]
   cases (gd ((gd q 0).rows.getD k []) 0).int==3 <;> cases (gd ((gd q 0).rows.getD k []) 6).bool <;> simp only [cond_true,cond_false]
   ·cases (coordState p (gd ((gd q 0).rows.getD k []) 2).int).int==4 <;> rfl
   ·cases (coordState p (gd ((gd q 0).rows.getD k []) 2).int).int==3 <;> rfl
  ·show i_JudgeEndsL0 _ p q [_,_,_,_,_,_,_,.i ((gd q 0).rows.length:Int),.i ((gd q 0).rows.length:Int),_,_]=_
   rw [i_JudgeEndsR0]
   simp only [int_i,c_nlt]
abbrev s_JudgeEndsT:FuncId→List T→Option (T × Bool):=find [s_l17RightE,s_CoordStateE]
theorem s_JudgeEndsT_ok:CallOk Tryz.prog s_JudgeEndsT:=find_ok (fC ⟨s_l17Right_ok,fC ⟨s_CoordState_ok,fN⟩⟩)
abbrev s_JudgeEndsK:List Nat:= [0,1,2,4,5,6,7,11,15,24,26,32]
noncomputable def s_JudgeEndsL0 (N:Nat) (p q:List D):List D→Out:=loopOf Tryz.prog s_JudgeEndsT N s_JudgeEndsK Tryz.f114 rb [⟨ag rICoord,p⟩,⟨sd (.sl 88),q⟩] 0
theorem s_JudgeEndsR0 (N:Nat) (p q:List D) (x0 x1 x2 x3 x4 x5 x6 x7 x8:D):(s_JudgeEndsL0 N p q) [x0,x1,x2,x3,x4,x5,x6,x7,x8] =
 bif ltI x6.int (x2.rows.length:Int) then nd (inRange x6.int x2.rows.length) (bif (gd (x2.rows.getD x6.int.toNat []) 0).int != 3 then nx [x0,x1,x2,x3,x4,x5,.i (w64 (x6.int+1)),x7,x8]
 else bif (gd (x2.rows.getD x6.int.toNat []) 6).bool then bif (coordState [x7,x8] (gd (x2.rows.getD x6.int.toNat []) 2).int).int != 3 then ob false
 else nx [x0,x1,x2,x3,x4,x5,.i (w64 (x6.int+1)),x7,x8]
 else bif (coordState [x7,x8] (gd (x2.rows.getD x6.int.toNat []) 2).int).int != 4 then ob false
 else nx [x0,x1,x2,x3,x4,x5,.i (w64 (x6.int+1)),x7,x8])
 else ex 0 [x0,x1,x2,x3,x4,x5,x6,x7,x8]:=by kernel_rfl
theorem s_JudgeEnds_ev (N:Nat) (p q:List D):evFn Tryz.prog s_JudgeEndsT N s_JudgeEndsK Tryz.f114 rb [⟨ag rICoord,p⟩,⟨sd (.sl 88),q⟩]=some (bo,
 bif !(judged (sub p 0 2) (gd q 0)) then ob false
 else (let o0:=iter (s_JudgeEndsL0 N p q) N [gd p 0,gd p 1,gd q 0,.i 0,.i 0,.b (!(judged (sub p 0 2) (gd q 0))),.i 0,gd p 0,gd p 1]
  nd o0.isSome (bif o0.code==1 then some (1,o0.pay)
  else nd (o0.code==2) (ob true)))):=by kernel_rfl
def s_JudgeEndsE:Ent:=(114,e2 (ag rICoord) (sd (.sl 88)) fun p q=>(⟨rb,[.b (judgeEnds p (gd q 0))]⟩,true))
theorem s_JudgeEnds_ok:EntOk Tryz.prog s_JudgeEndsE:=e2_ok fun p q h=>evFn_sound (N:=201) (ks:=s_JudgeEndsK) (key:=bo) s_JudgeEndsT_ok (enters Tryz.func114) Tryz.func114 fun hw=>by
 rw [s_JudgeEnds_ev]
 have hs:judged (sub p 0 2) (gd q 0)=judged p (gd q 0):=rfl
 rw [hs]
 unfold judgeEnds
 cases hj:judged p (gd q 0)
 ·rfl
 ·have h200:(gd q 0).rows.length≤200:=by
   simp only [judged,leI,Bool.and_eq_true,decide_eq_true_eq] at hj
   omega
  have e0:=for_loop (L:=s_JudgeEndsL0 201 p q) (fun k => [gd p 0,gd p 1,gd q 0,.i 0,.i 0,.b false,.i (k:Int),gd p 0,gd p 1]) (gd q 0).rows.length (endAt p (gd q 0)) [.b false] 0 (fun k hk=>?_) ?_ (N:=201) (by omega)
  ·simp only [Int.natCast_zero] at e0
   simp only [Bool.not_true,cond_false,e0,Bool.true_and]
   cases (List.range (gd q 0).rows.length).all (endAt p (gd q 0)) <;> rfl
  ·show s_JudgeEndsL0 _ p q [_,_,_,_,_,_,.i (k:Int),_,_]=_
   rw [s_JudgeEndsR0]
   simp only [int_i,c_lt hk,nd_ix hk,w64_succ hk (show (gd q 0).rows.length≤9223372036854775807 from by omega),Int.toNat_natCast,bne_not,endAt,show coordState [gd p 0,gd p 1]=coordState p from rfl]
   cases (gd ((gd q 0).rows.getD k []) 0).int==3 <;> cases (gd ((gd q 0).rows.getD k []) 6).bool <;> simp only [cond_true,cond_false,Bool.not_true,Bool.not_false]
   ·cases (coordState p (gd ((gd q 0).rows.getD k []) 2).int).int==4 <;> rfl
   ·cases (coordState p (gd ((gd q 0).rows.getD k []) 2).int).int==3 <;> rfl
  ·show s_JudgeEndsL0 _ p q [_,_,_,_,_,_,.i ((gd q 0).rows.length:Int),_,_]=_
   rw [s_JudgeEndsR0]
   simp only [int_i,c_nlt]
end Go.Proofs.YtchceahcaaibcaaGreat
namespace Go.Proofs.YtchceahcaaibcaaGreat
theorem total_mem {size:List D→Nat}:∀ {rows:List (List D)} {r:List D},r∈rows→size r≤total size rows
 | a::l,r,h=>by
  have e:total size (a::l)=size a+total size l:=by simp [total]
  rcases List.mem_cons.1 h with rfl | h
  ·omega
  ·have:=total_mem (size:=size) h
   omega
theorem okS {ok:List D→Bool} {size:List D→Nat} {z:D} {m:Nat} (hm:m≤4294967296) (h:z.rows.length+total size z.rows≤m) (hr:∀ r,size r≤m→ok r=true):(decide (z.rows.length≤4294967296)&&z.rows.all fun r=>ok r)=true:=by
 simp only [Bool.and_eq_true,decide_eq_true_eq,List.all_eq_true]
 exact ⟨by omega,fun r hm=>hr r (Nat.le_trans (total_mem hm) (by omega))⟩
theorem okF {ok:List D→Bool} {z:D} {m:Nat} (hm:m≤4294967296) (h:z.rows.length≤m) (hr:∀ r,ok r=true):(decide (z.rows.length≤4294967296)&&z.rows.all fun r=>ok r)=true:=by
 simp only [Bool.and_eq_true,decide_eq_true_eq,List.all_eq_true]
 exact ⟨by omega,fun r _=>hr r⟩
theorem okIntS_of {z:D} {m:Nat} (hm:m≤4294967296) (h:sizeIntS z≤m):okIntS z=true:=okF hm h fun _=>rfl
theorem okCellS_of {z:D} {m:Nat} (hm:m≤4294967296) (h:sizeCellS z≤m):okCellS z=true:=okF (ok:=fun r=>okCell (sub r 0 2)) hm h fun _=>rfl
theorem okRangeS_of {z:D} {m:Nat} (hm:m≤4294967296) (h:sizeRangeS z≤m):okRangeS z=true:=okF (ok:=fun r=>okRange (sub r 0 2)) hm h fun _=>rfl
theorem okWriteS_of {z:D} {m:Nat} (hm:m≤4294967296) (h:sizeWriteS z≤m):okWriteS z=true:=okF (ok:=fun r=>okWrite (sub r 0 2)) hm h fun _=>rfl
theorem okShare_of {p:List D} {m:Nat} (hm:m≤4294967296) (h:sizeShare p≤m):okShare p=true:=by
 unfold sizeShare at h
 rw [okShare,okRangeS_of hm (show sizeRangeS (gd p 1)≤m from by omega),okWriteS_of hm (show sizeWriteS (gd p 2)≤m from by omega)]; rfl
theorem okShareS_of {z:D} {m:Nat} (hm:m≤4294967296) (h:sizeShareS z≤m):okShareS z=true:=okS (ok:=fun r=>okShare (sub r 0 4)) (size:=fun r=>sizeShare (sub r 0 4)) hm h fun _ h=>okShare_of hm h
theorem okRec_of {p:List D} {m:Nat} (hm:m≤4294967296) (h:sizeRec p≤m):okRec p=true:=okShareS_of hm h
theorem okRecS_of {z:D} {m:Nat} (hm:m≤4294967296) (h:sizeRecS z≤m):okRecS z=true:=okS (ok:=fun r=>okRec (sub r 0 5)) (size:=fun r=>sizeRec (sub r 0 5)) hm h fun _ h=>okRec_of hm h
theorem okCoord_of {p:List D} {m:Nat} (hm:m≤4294967296) (h:sizeCoord p≤m):okCoord p=true:=by
 unfold sizeCoord at h
 rw [okCoord,okRecS_of hm (show sizeRecS (gd p 0)≤m from by omega),okIntS_of hm (show sizeIntS (gd p 1)≤m from by omega)]; rfl
theorem okEvent_of {p:List D} {m:Nat} (hm:m≤4294967296) (h:sizeEvent p≤m):okEvent p=true:=okCellS_of hm h
theorem okEventS_of {z:D} {m:Nat} (hm:m≤4294967296) (h:sizeEventS z≤m):okEventS z=true:=okS (ok:=fun r=>okEvent (sub r 0 7)) (size:=fun r=>sizeEvent (sub r 0 7)) hm h fun _ h=>okEvent_of hm h
theorem left_ge {s:Nat} {n:Int} (h:ltI (left s n) 0=false) (h0:0≤n):left s n=n - s∧(s:Int)≤n:=by
 unfold left at h ⊢
 split
 ·exact ⟨rfl,by assumption⟩
 ·rename_i hn
  rw [if_neg hn] at h
  cases h
end Go.Proofs.YtchceahcaaibcaaGreat
namespace Go.Proofs.YtchceahcaaibcaaGreat
set_option maxRecDepth 4096
theorem sz1 {a:Nat} {n:Int}:(bif ltI (left a n) 0 then oi (-1) else oi (left a n))=oi (left a n):=by
 unfold ltI left
 split
 ·rw [decide_eq_false (by omega)]; rfl
 ·rfl
theorem szN {b c:Nat} {m:Int}:nd (fair m) (bif ltI (left b m) 0 then oi (-1) else nd (fair (left b m)) (oi (left c (left b m))))=nd (fair m) (oi (left (b+c) m)):=by
 cases hm:fair m
 ·rfl
 ·simp only [nd,cond_true]
  by_cases h:left b m<0
  ·rw [ltI_t h,cond_true]
   have e:=left_left b c m
   rw [if_pos h] at e
   rw [← e]
  ·rw [ltI_f (by omega),cond_false,fair_left hm h,cond_true]
   have e:=left_left b c m
   rw [if_neg h] at e
   rw [← e]
def rLPart:List S:= [si,si,si]
def rIPart:List S:= [si,si,si]
def cpPart (p:List D):List D:= [gd p 0,gd p 1,gd p 2]
def okPart (p:List D):Bool:=true
theorem toPart_ev (p:List D) (N:Nat):evFn Tryz.prog (find []) N [0,1,2,3] Tryz.f244 (ag rIPart) [⟨ag rLPart,p⟩]=some (bo,some (1,cpPart p)):=by kernel_rfl
def toPartE:Ent:=(244,e1 (ag rLPart) fun p=>(⟨ag rIPart,cpPart p⟩,okPart p))
theorem toPart_ok:EntOk Tryz.prog toPartE:=e1_ok fun p h=>evFn_sound (N:=0) (ks:= [0,1,2,3]) (key:=bo) (find_ok (fN)) (enters Tryz.func244) Tryz.func244 fun _=>by
 have h:okPart p=true:=h
 simp only [okPart,Bool.and_eq_true] at h
 rw [toPart_ev]
def eqPart (p q:List D):Bool:=((gd p 0).int==(gd q 0).int)&&(((gd p 1).int==(gd q 1).int)&&(((gd p 2).int==(gd q 2).int)&&(true)))
theorem eqPart_ev (p q:List D) (N:Nat):evFn Tryz.prog (find []) N [0,1,2,3,4,9,14,19] Tryz.f277 rb [⟨ag rIPart,p⟩,⟨ag rIPart,q⟩]=some (bo,bif !((gd p 0).int==(gd q 0).int) then ob false else bif !((gd p 1).int==(gd q 1).int) then ob false else bif !((gd p 2).int==(gd q 2).int) then ob false else ob true):=by kernel_rfl
def eqPartE:Ent:=(277,e2 (ag rIPart) (ag rIPart) fun p q=>(⟨rb,[.b (eqPart p q)]⟩,true))
theorem eqPart_ok:EntOk Tryz.prog eqPartE:=e2_ok fun p q _=>evFn_sound (N:=0) (ks:= [0,1,2,3,4,9,14,19]) (key:=bo) (find_ok (fN)) (enters Tryz.func277) Tryz.func277 fun _=>by
 rw [eqPart_ev]
 simp only [ne_step]
 rfl
theorem eqPart_refl (p:List D):eqPart p p=true:=by
 simp [eqPart]
def cpPartS (z:D):D:=.l (z.rows.map fun r=>cpPart (sub r 0 3))
def okPartS (z:D):Bool:=decide (z.rows.length≤4294967296)&&z.rows.all fun r=>okPart (sub r 0 3)
noncomputable def toPartSL (N:Nat) (p:List D):List D→Out:=loopOf Tryz.prog (find [toPartE]) N [0,2,3,4,11] Tryz.f147 (sd (.sl 97)) [⟨sd (.sl 252),p⟩] 0
theorem toPartS_rd (p:List D) (N:Nat) (z x2:D) (rows:List (List D)) (k:Int):toPartSL N p [z,x2,.l rows,.i k]=bif decide (k<z.rows.length) then nd (inRange k z.rows.length) (nd (okPart (sub (z.rows.getD k.toNat []) 0 3)) (nd (inRange k rows.length) (nx [z,x2,.l (rows.set k.toNat (cpPart (sub (z.rows.getD k.toNat []) 0 3))),.i (w64 (k+1))]))) else ex 0 [z,x2,.l rows,.i k]:=by kernel_rfl
theorem toPartS_ev (p:List D) (N:Nat):evFn Tryz.prog (find [toPartE]) N [0,2,3,4,11] Tryz.f147 (sd (.sl 97)) [⟨sd (.sl 252),p⟩]=some (bo,nd (decide (0≤((gd p 0).rows.length:Int))&&decide (((gd p 0).rows.length:Int)=((gd p 0).rows.length:Int))&&decide (((gd p 0).rows.length:Int)≤4294967296)&&true&&true)
  (let o:=iter (toPartSL N p) N [gd p 0,.l [],.l (List.replicate (gd p 0).rows.length [.i 0,.i 0,.i 0]),.i 0]
   nd o.isSome (nd (o.code==2) (some (1,[gd o.pay 2]))))):=by kernel_rfl
def toPartSE:Ent:=(147,e1 (sd (.sl 252)) fun p=>(⟨sd (.sl 97),[cpPartS (gd p 0)]⟩,okPartS (gd p 0)))
theorem toPartS_ok:EntOk Tryz.prog toPartSE:=e1_ok fun p h=>evFn_sound (N:=(gd p 0).rows.length+1) (ks:= [0,2,3,4,11]) (key:=bo) (find_ok (fC ⟨toPart_ok,fN⟩)) (enters Tryz.func147) Tryz.func147 fun hw=>by
 have h:okPartS (gd p 0)=true:=h
 simp only [okPartS,Bool.and_eq_true,decide_eq_true_eq,List.all_eq_true] at h
 rw [toPartS_ev,fill_loop (ok:=fun r=>okPart (sub r 0 3)) (f:=fun r=>cpPart (sub r 0 3)) [.i 0,.i 0,.i 0] (wt_sl (hw ⟨sd (.sl 252),p⟩ (by simp))) h.2 (toPartS_rd p _ _ _) (by omega)]
 rw [show decide (((gd p 0).rows.length:Int)≤4294967296)=true from decide_eq_true (by omega),show decide (0≤((gd p 0).rows.length:Int))=true from decide_eq_true (by omega),decide_eq_true (rfl:((gd p 0).rows.length:Int)=_)]
 rfl
def eqPartS:D→D→Bool:=alikeS (fun r s=>eqPart (sub r 0 3) (sub s 0 3))
noncomputable def eqPartSL (N:Nat) (p q:List D):List D→Out:=loopOf Tryz.prog (find [eqPartE]) N [0,1,4,5,10,14,26] Tryz.f195 rb [⟨sd (.sl 97),p⟩,⟨sd (.sl 97),q⟩] 0
theorem eqPartS_rd (p q:List D) (N:Nat) (z u x y:D) (k:Int):eqPartSL N p q [z,u,x,y,.i k]=bif decide (k<z.rows.length) then nd (inRange k z.rows.length) (nd (inRange k u.rows.length) (bif !(eqPart (sub (z.rows.getD k.toNat []) 0 3) (sub (u.rows.getD k.toNat []) 0 3)) then ob false else nx [z,u,x,y,.i (w64 (k+1))])) else ex 0 [z,u,x,y,.i k]:=by kernel_rfl
theorem eqPartS_ev (p q:List D) (N:Nat):evFn Tryz.prog (find [eqPartE]) N [0,1,4,5,10,14,26] Tryz.f195 rb [⟨sd (.sl 97),p⟩,⟨sd (.sl 97),q⟩]=some (bo,bif !(((gd p 0).rows.length:Int)==(gd q 0).rows.length) then ob false else
  (let o:=iter (eqPartSL N p q) N [gd p 0,gd q 0,D0,.b (!(((gd p 0).rows.length:Int)==(gd q 0).rows.length)),.i 0]
   nd o.isSome (bif o.code==1 then some (1,o.pay) else nd (o.code==2) (ob true)))):=by kernel_rfl
def eqPartSE:Ent:=(195,e2 (sd (.sl 97)) (sd (.sl 97)) fun p q=>(⟨rb,[.b (eqPartS (gd p 0) (gd q 0))]⟩,true))
theorem eqPartS_ok:EntOk Tryz.prog eqPartSE:=e2_ok fun p q _=>evFn_sound (N:=(gd p 0).rows.length+1) (ks:= [0,1,4,5,10,14,26]) (key:=bo) (find_ok (fC ⟨eqPart_ok,fN⟩)) (enters Tryz.func195) Tryz.func195 fun hw=>by
 rw [eqPartS_ev]
 by_cases hl:(gd p 0).rows.length=(gd q 0).rows.length
 ·rw [like_loop (E:=(fun r s=>eqPart (sub r 0 3) (sub s 0 3))) (wt_sl (hw ⟨sd (.sl 97),p⟩ (by simp))) hl (eqPartS_rd p q _ _ _ _ _) (by omega)]
  rw [show ((((gd p 0).rows.length:Int))==(gd q 0).rows.length)=true from beq_iff_eq.2 (by omega)]
  show some (bo,_)=some (bo,some (1,[D.b (alikeS (fun r s=>eqPart (sub r 0 3) (sub s 0 3)) (gd p 0) (gd q 0))]))
  cases alikeS (fun r s=>eqPart (sub r 0 3) (sub s 0 3)) (gd p 0) (gd q 0) <;> rfl
 ·rw [show ((((gd p 0).rows.length:Int))==(gd q 0).rows.length)=false from beq_eq_false_iff_ne.2 (by omega)]
  show some (bo,_)=some (bo,some (1,[D.b (alikeS (fun r s=>eqPart (sub r 0 3) (sub s 0 3)) (gd p 0) (gd q 0))]))
  rw [show alikeS (fun r s=>eqPart (sub r 0 3) (sub s 0 3)) (gd p 0) (gd q 0)=false from by simp [alikeS,hl]]
  rfl
theorem eqPartS_refl (z:D):eqPartS z z=true:=alikeS_refl (fun r=>by exact eqPart_refl _) z
def sizePartS (z:D):Nat:=z.rows.length
theorem szPartS_ev (p q:List D) (N:Nat):evFn Tryz.prog (find []) N [0,1,4,10] Tryz.f118 ri [⟨sd (.sl 252),p⟩,⟨ri,q⟩]=some (bo,bif decide (w64 ((gd q 0).int - (gd p 0).rows.length)<0) then oi (-1) else oi (w64 ((gd q 0).int - (gd p 0).rows.length))):=by kernel_rfl
def szPartSE:Ent:=(118,e2 (sd (.sl 252)) ri fun p q=>(⟨ri,[.i (left (sizePartS (gd p 0)) (gd q 0).int)]⟩,fair (gd q 0).int))
theorem szPartS_ok:EntOk Tryz.prog szPartSE:=e2_ok fun p q h=>evFn_sound (N:=(gd p 0).rows.length+1) (ks:= [0,1,4,10]) (key:=bo) (find_ok (fN)) (enters Tryz.func118) Tryz.func118 fun hw=>by
 have h:fair (gd q 0).int=true:=h
 have hl:=wt_sl (hw ⟨sd (.sl 252),p⟩ (by simp))
 have h2:0≤(gd q 0).int∧(gd q 0).int≤1048576:=by simpa [fair] using h
 rw [szPartS_ev,w64_id (by omega) (by omega)]
 rw [oi_if,left_sub]
 rfl
theorem okPartS_of {z:D} {m:Nat} (hm:m≤4294967296) (h:sizePartS z≤m):okPartS z=true:=okF (ok:=fun r=>okPart (sub r 0 3)) hm h fun _=>rfl
def rLMove:List S:= [si,si,si,si,si,si,.sl 308]
def rIMove:List S:= [si,si,si,si,si,si,.sl 176]
def cpMove (p:List D):List D:= [gd p 0,gd p 1,gd p 2,gd p 3,gd p 4,gd p 5,cpCellS (gd p 6)]
def okMove (p:List D):Bool:=okCellS (gd p 6)
theorem toMove_ev (p:List D) (N:Nat):evFn Tryz.prog (find [toCellSE]) N [0,1,2,3] Tryz.f148 (ag rIMove) [⟨ag rLMove,p⟩]=some (bo,nd (okCellS (gd p 6)) (some (1,cpMove p))):=by kernel_rfl
def toMoveE:Ent:=(148,e1 (ag rLMove) fun p=>(⟨ag rIMove,cpMove p⟩,okMove p))
theorem toMove_ok:EntOk Tryz.prog toMoveE:=e1_ok fun p h=>evFn_sound (N:=0) (ks:= [0,1,2,3]) (key:=bo) (find_ok (fC ⟨toCellS_ok,fN⟩)) (enters Tryz.func148) Tryz.func148 fun _=>by
 have h:okMove p=true:=h
 simp only [okMove,Bool.and_eq_true] at h
 rw [toMove_ev]
 simp only [nd,h,cond_true]
def eqMove (p q:List D):Bool:=((gd p 0).int==(gd q 0).int)&&(((gd p 1).int==(gd q 1).int)&&(((gd p 2).int==(gd q 2).int)&&(((gd p 3).int==(gd q 3).int)&&(((gd p 4).int==(gd q 4).int)&&(((gd p 5).int==(gd q 5).int)&&((eqCellS (gd p 6) (gd q 6))&&(true)))))))
theorem eqMove_ev (p q:List D) (N:Nat):evFn Tryz.prog (find [eqCellSE]) N [0,1,2,3,4,9,14,19,24,29,34,40] Tryz.f196 rb [⟨ag rIMove,p⟩,⟨ag rIMove,q⟩]=some (bo,bif !((gd p 0).int==(gd q 0).int) then ob false else bif !((gd p 1).int==(gd q 1).int) then ob false else bif !((gd p 2).int==(gd q 2).int) then ob false else bif !((gd p 3).int==(gd q 3).int) then ob false else bif !((gd p 4).int==(gd q 4).int) then ob false else bif !((gd p 5).int==(gd q 5).int) then ob false else bif !(eqCellS (gd p 6) (gd q 6)) then ob false else ob true):=by kernel_rfl
def eqMoveE:Ent:=(196,e2 (ag rIMove) (ag rIMove) fun p q=>(⟨rb,[.b (eqMove p q)]⟩,true))
theorem eqMove_ok:EntOk Tryz.prog eqMoveE:=e2_ok fun p q _=>evFn_sound (N:=0) (ks:= [0,1,2,3,4,9,14,19,24,29,34,40]) (key:=bo) (find_ok (fC ⟨eqCellS_ok,fN⟩)) (enters Tryz.func196) Tryz.func196 fun _=>by
 rw [eqMove_ev]
 simp only [ne_step]
 rfl
theorem eqMove_refl (p:List D):eqMove p p=true:=by
 simp [eqMove,eqCellS_refl]
def sizeMove (p:List D):Nat:=sizeCellS (gd p 6)
theorem szMove_ev (p q:List D) (N:Nat):evFn Tryz.prog (find [szCellSE]) N [0,1,2,4,10] Tryz.f119 ri [⟨ag rLMove,p⟩,⟨ri,q⟩]=some (bo,nd (fair (gd q 0).int) (bif ltI (left (sizeCellS (gd p 6)) (gd q 0).int) 0 then oi (-1) else oi (left (sizeCellS (gd p 6)) (gd q 0).int))):=by kernel_rfl
def szMoveE:Ent:=(119,e2 (ag rLMove) ri fun p q=>(⟨ri,[.i (left (sizeMove p) (gd q 0).int)]⟩,fair (gd q 0).int))
theorem szMove_ok:EntOk Tryz.prog szMoveE:=e2_ok fun p q h=>evFn_sound (N:=0) (ks:= [0,1,2,4,10]) (key:=bo) (find_ok (fC ⟨szCellS_ok,fN⟩)) (enters Tryz.func119) Tryz.func119 fun _=>by
 have h:fair (gd q 0).int=true:=h
 rw [szMove_ev]
 simp only [sz1,szN]
 simp only [h,nd,cond_true]
 rfl
theorem okMove_of {p:List D} {m:Nat} (hm:m≤4294967296) (h:sizeMove p≤m):okMove p=true:=by
 unfold sizeMove at h
 simp only [okMove,Bool.and_eq_true]
 exact okCellS_of hm (show sizeCellS (gd p 6)≤m from by omega)
def rLAtlas:List S:= [si,.sl 252,si,si,si,si,si,si,.sl 308]
def rIAtlas:List S:= [si,.sl 97,si,si,si,si,si,si,.sl 176]
def cpAtlas (p:List D):List D:= [gd p 0,cpPartS (gd p 1),gd (cpMove (sub p 2 7)) 0,gd (cpMove (sub p 2 7)) 1,gd (cpMove (sub p 2 7)) 2,gd (cpMove (sub p 2 7)) 3,gd (cpMove (sub p 2 7)) 4,gd (cpMove (sub p 2 7)) 5,gd (cpMove (sub p 2 7)) 6]
def okAtlas (p:List D):Bool:=okPartS (gd p 1)&&(okMove (sub p 2 7))
theorem toAtlas_ev (p:List D) (N:Nat):evFn Tryz.prog (find [toPartSE,toMoveE]) N [0,1,2,3] Tryz.f54 (ag rIAtlas) [⟨ag rLAtlas,p⟩]=some (bo,nd (okPartS (gd p 1)) (nd (okMove (sub p 2 7)) (some (1,cpAtlas p)))):=by kernel_rfl
def toAtlasE:Ent:=(54,e1 (ag rLAtlas) fun p=>(⟨ag rIAtlas,cpAtlas p⟩,okAtlas p))
theorem toAtlas_ok:EntOk Tryz.prog toAtlasE:=e1_ok fun p h=>evFn_sound (N:=0) (ks:= [0,1,2,3]) (key:=bo) (find_ok (fC ⟨toPartS_ok,fC ⟨toMove_ok,fN⟩⟩)) (enters Tryz.func54) Tryz.func54 fun _=>by
 have h:okAtlas p=true:=h
 simp only [okAtlas,Bool.and_eq_true] at h
 rw [toAtlas_ev]
 simp only [nd,h,cond_true]
def eqAtlas (p q:List D):Bool:=((gd p 0).int==(gd q 0).int)&&((eqPartS (gd p 1) (gd q 1))&&((eqMove (sub p 2 7) (sub q 2 7))&&(true)))
theorem eqAtlas_ev (p q:List D) (N:Nat):evFn Tryz.prog (find [eqPartSE,eqMoveE]) N [0,1,2,3,4,9,15,21] Tryz.f75 rb [⟨ag rIAtlas,p⟩,⟨ag rIAtlas,q⟩]=some (bo,bif !((gd p 0).int==(gd q 0).int) then ob false else bif !(eqPartS (gd p 1) (gd q 1)) then ob false else bif !(eqMove (sub p 2 7) (sub q 2 7)) then ob false else ob true):=by kernel_rfl
def eqAtlasE:Ent:=(75,e2 (ag rIAtlas) (ag rIAtlas) fun p q=>(⟨rb,[.b (eqAtlas p q)]⟩,true))
theorem eqAtlas_ok:EntOk Tryz.prog eqAtlasE:=e2_ok fun p q _=>evFn_sound (N:=0) (ks:= [0,1,2,3,4,9,15,21]) (key:=bo) (find_ok (fC ⟨eqPartS_ok,fC ⟨eqMove_ok,fN⟩⟩)) (enters Tryz.func75) Tryz.func75 fun _=>by
 rw [eqAtlas_ev]
 simp only [ne_step]
 rfl
theorem eqAtlas_refl (p:List D):eqAtlas p p=true:=by
 simp [eqAtlas,eqPartS_refl,eqMove_refl]
def sizeAtlas (p:List D):Nat:=sizePartS (gd p 1)+(sizeMove (sub p 2 7))
theorem szAtlas_ev (p q:List D) (N:Nat):evFn Tryz.prog (find [szPartSE,szMoveE]) N [0,1,2,4,10,16] Tryz.f40 ri [⟨ag rLAtlas,p⟩,⟨ri,q⟩]=some (bo,nd (fair (gd q 0).int) (bif ltI (left (sizePartS (gd p 1)) (gd q 0).int) 0 then oi (-1) else nd (fair (left (sizePartS (gd p 1)) (gd q 0).int)) (bif ltI (left (sizeMove (sub p 2 7)) (left (sizePartS (gd p 1)) (gd q 0).int)) 0 then oi (-1) else oi (left (sizeMove (sub p 2 7)) (left (sizePartS (gd p 1)) (gd q 0).int))))):=by kernel_rfl
def szAtlasE:Ent:=(40,e2 (ag rLAtlas) ri fun p q=>(⟨ri,[.i (left (sizeAtlas p) (gd q 0).int)]⟩,fair (gd q 0).int))
theorem szAtlas_ok:EntOk Tryz.prog szAtlasE:=e2_ok fun p q h=>evFn_sound (N:=0) (ks:= [0,1,2,4,10,16]) (key:=bo) (find_ok (fC ⟨szPartS_ok,fC ⟨szMove_ok,fN⟩⟩)) (enters Tryz.func40) Tryz.func40 fun _=>by
 have h:fair (gd q 0).int=true:=h
 rw [szAtlas_ev]
 simp only [sz1,szN]
 simp only [h,nd,cond_true]
 rfl
theorem okAtlas_of {p:List D} {m:Nat} (hm:m≤4294967296) (h:sizeAtlas p≤m):okAtlas p=true:=by
 unfold sizeAtlas at h
 simp only [okAtlas,Bool.and_eq_true]
 exact ⟨okPartS_of hm (show sizePartS (gd p 1)≤m from by omega),okMove_of hm (show sizeMove (sub p 2 7)≤m from by omega)⟩
end Go.Proofs.YtchceahcaaibcaaGreat
