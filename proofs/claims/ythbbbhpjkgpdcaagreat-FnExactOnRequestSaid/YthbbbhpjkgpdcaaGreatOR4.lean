/-
 Texts of the proof,put together: part 4.
-/
import Derived.Test.YthbbbhpjkgpdcaaGreatOR1
import Derived.Test.YthbbbhpjkgpdcaaGreatOR2
import Derived.Test.YthbbbhpjkgpdcaaGreatOR3
set_option linter.unusedSimpArgs false
set_option linter.unusedVariables false
set_option linter.unusedSectionVars false
namespace Go.Proofs.YthbbbhpjkgpdcaaGreat
open Go.RowKit
section
variable {P:Program} {ops:Array Oper}
def QF:Exit→Act→World→Prop:=fun _ _ _=>False
theorem wp_QF {o:Oper} {a:Act} {w:World} {K K':Act→World→Prop} {Q:Exit→Act→World→Prop} (hK:∀ a w,K a w→K' a w) (hh:o.wp P a w K QF):o.wp P a w K' Q:=by
 unfold Oper.wp at *
 generalize (execOp a.eval o).run P w=r at *
 cases r with
 | ok n w' =>
  cases n <;> simp only [Oper.upon] at hh ⊢
  case value=>exact hK _ _ hh
  case skip=>exact hK _ _ hh
  case defer=>exact hK _ _ hh
  case enter =>
   refine Calls.mono hh fun e w'' he=>?_
   cases e with
   | returned v=>exact hK _ _ he
   | panicked c=>exact he.elim
   | outgrown=>obtain ⟨_,_,h⟩:=he; exact h.elim
  case row=>exact Rows.mono hh fun _ _ he=>hK _ _ he
 | halt x w' =>
  cases x <;> simp only [Oper.upon] at hh
  exact hh.elim
theorem wpOp_QF {i:Nat} {a:Act} {w:World} {K K':Act→World→Prop} {Q:Exit→Act→World→Prop} (hK:∀ a w,K a w→K' a w) (hh:wpOp P ops QF i K a w):wpOp P ops Q i K' a w:=by
 unfold wpOp at *
 split
 ·exact hK _ _ (by simpa [*] using hh)
 ·rename_i o ho
  simp only [ho] at hh
  split
  ·rename_i hw
   simp only [hw,if_true] at hh
   rcases hh with hh | ⟨_,_,_,hl⟩
   ·exact .inl (wp_QF hK hh)
   ·exact hl.elim
  ·rename_i hw; simp only [hw] at hh; exact hK _ _ hh
def Grew (ops:Array Oper) (B:Nat) (i:Nat) (w w':World):Prop:=w.heap.size≤w'.heap.size∧(alone ops i=false→∀ o,ops[i]?=some o→(calm o=true→Below w.heap.size w w')∧(storeTo ops o=true→Below B w w'))
theorem Grew.refl {ops:Array Oper} {B i:Nat} {w:World}:Grew ops B i w w:=⟨Nat.le_refl _,fun _ _ _=>⟨fun _=>Below.refl _ _,fun _=>Below.refl _ _⟩⟩
def wpAnyB (P:Program) (ops:Array Oper) (B:Nat) (Q:Act→World→Prop):Nat→Array Bool→Act→World→Prop
 | 0,listed,a,w=>Region.ready .any ops listed = []∧Q a w
 | n+1,listed,a,w =>
  (Region.ready .any ops listed = []→Q a w) ∧
  ∀ i∈Region.ready .any ops listed,wpOp P ops QF i (fun a' w'=>Grew ops B i w w'∧wpAnyB P ops B Q n (listed.setIfInBounds i true) a' w') a w
theorem wpAny_of_B {B:Nat} {Q:Act→World→Prop} {Q':Exit→Act→World→Prop} (hQ:∀ a w,Q a w→Q' .normal a w):∀ (n:Nat) (listed:Array Bool) (a:Act) (w:World),wpAnyB P ops B Q n listed a w→wpAny P .any ops Q' n listed a w
 | 0,_,_,_,h=>⟨h.1,hQ _ _ h.2⟩
 | n+1,_,_,_,h=>⟨fun h0=>hQ _ _ (h.1 h0),fun i hi=>wpOp_QF (fun a' w' h'=>wpAny_of_B hQ n _ a' w' h'.2) (h.2 i hi)⟩
def YieldsP (P:Program) (ops:Array Oper) (B:Nat) (o:Oper) (v:Value) (a:Act) (w:World):Prop:=
 (Region.wanted o (yielded ops a.tmps)=true∧∀ w',(Below B w w'∨noMem o=true)→(execOp a.eval o).run P w'=.ok (.value v) w')∨(Region.wanted o (yielded ops a.tmps)=false∧v=undef)
theorem YieldsP.wpOp {B i:Nat} {o:Oper} {v:Value} {a:Act} {w:World} {Q:Exit→Act→World→Prop} (hi:ops[i]?=some o) (hy:YieldsP P ops B o v a w) {K:Act→World→Prop} (h:K (a.put o.dst v) w):wpOp P ops Q i K a w:=by
 unfold Go.wpOp
 simp only [hi]
 rcases hy with ⟨hw,hv⟩ | ⟨hw,rfl⟩
 ·simp only [hw,if_true,Oper.wp,hv w (.inl (Below.refl _ _)),Oper.upon]; exact .inl h
 ·simp only [hw,Bool.false_eq_true,if_false]; exact h
theorem YieldsP.later {B:Nat} {o:Oper} {v:Value} {a:Act} {w w':World} (hy:YieldsP P ops B o v a w) (h:Below B w w'∨noMem o=true):YieldsP P ops B o v a w':=by
 rcases hy with ⟨hw,hv⟩ | hy
 ·refine .inl ⟨hw,fun w'' h'=>hv w'' ?_⟩
  rcases h with h | h
  ·exact h'.imp (fun h'=>h.trans h') id
  ·exact .inr h
 ·exact .inr hy
theorem wpOp_apart {B j:Nat} {oi oj:Oper} {v:Value} {w:World} (hj:ops[j]?=some oj) (hap:oi.apart ops oj=true) (hsi:∀ cs b,oi.op≠.select cs b) (hsj:∀ cs b,oj.op≠.select cs b) {K:Act→World→Prop} {a:Act}
  (hy:YieldsP P ops B oi v a w) (h:wpOp P ops QF j K (a.put oi.dst v) w):wpOp P ops QF j (fun a' w'=>YieldsP P ops B oi v a' w∧K (a'.put oi.dst v) w') a w:=by
 obtain ⟨h1,h2,h3⟩:=Oper.apart_spec hap
 have keep:∀ u,YieldsP P ops B oi v (a.put oj.dst u) w:=fun u=>by
  unfold YieldsP at *
  rw [execOp_put oi hsi a oj.dst u h3,wanted_put oi a oj.dst u h3]
  exact hy
 unfold wpOp at *
 simp only [hj] at *
 rw [wanted_put oj a oi.dst v h1] at h
 split
 ·rename_i hw
  simp only [hw,if_true] at h
  rcases h with h | ⟨_,_,_,hl⟩
  ·refine .inl ?_
   unfold Oper.wp at *
   rw [execOp_put oj hsj a oi.dst v h1] at h
   generalize (execOp a.eval oj).run P w=r at *
   cases r with
   | ok n w' =>
    cases n <;> simp only [Oper.upon] at h ⊢
    case value u=>exact ⟨keep u,by rw [← Act.put_comm a v u h2]; exact h⟩
    case skip=>exact ⟨keep _,by rw [← Act.put_comm a v undef h2]; exact h⟩
    case defer d =>
     refine ⟨?_,?_⟩
     ·have:=keep undef
      unfold YieldsP at this ⊢
      cases hdd:oj.dst <;> rw [hdd] at this <;> exact this
     ·rw [← Act.put_comm _ v undef h2,← Act.put_defers]
      exact h
    case enter f args =>
     refine Calls.mono h fun e w'' he=>?_
     cases e with
     | returned u=>exact ⟨keep u,by rw [← Act.put_comm a v u h2]; exact he⟩
     | panicked c=>exact he.elim
     | outgrown=>exact he
    case row row args=>exact Rows.mono h fun u w'' he=>⟨keep u,by rw [← Act.put_comm a v u h2]; exact he⟩
   | halt x w' =>
    cases x <;> simp only [Oper.upon] at h
    exact h.elim
  ·exact hl.elim
 ·rename_i hw
  simp only [hw] at h
  exact ⟨keep _,by rw [← Act.put_comm a v undef h2]; exact h⟩
def Waits (ops:Array Oper) (listed:Array Bool) (i:Nat) (S:Nat→Bool):Prop:=∀ j,S j=true→listed.getD j true=false∧∃ oj,ops[j]?=some oj∧∃ e∈oj.after,Region.binds .any e=true∧(e.on=i∨S e.on=true)
theorem Waits.none {ops:Array Oper} {listed:Array Bool} {i:Nat}:Waits ops listed i (fun _=>false):=fun j h=>by cases h
def Closed (ops:Array Oper) (listed:Array Bool):Prop:=∀ k ok,ops[k]?=some ok→listed.getD k false=true→∀ e∈ok.after,Region.binds .any e=true→listed.getD e.on false=true
theorem Closed.start (ops:Array Oper):Closed ops (Array.replicate ops.size false):=fun k ok hk hl=>by
 have:=(Array.getElem?_eq_some_iff.1 hk).1
 simp [this] at hl
theorem Closed.step {ops:Array Oper} {listed:Array Bool} {i:Nat} (h:Closed ops listed) (hi:i∈Region.ready .any ops listed):Closed ops (listed.setIfInBounds i true):=fun k ok hk hl e he hb=>by
 by_cases hki:i=k
 ·subst hki
  obtain ⟨_,o,ho,hall⟩:=mem_ready.1 hi
  rw [hk] at ho; injection ho with ho; subst ho
  exact getD_set_true (hall e he hb)
 ·rw [getD_set_ne false hki] at hl
  exact getD_set_true (h k ok hk hl e he hb)
theorem unlisted {listed:Array Bool} {i:Nat} (h:listed.getD i true=false):listed.getD i false=true→False:=fun h'=>by
 rcases Nat.lt_or_ge i listed.size with hl | hl
 ·simp [hl] at h h'; rw [h] at h'; cases h'
 ·simp [Array.getElem?_eq_none hl] at h
theorem back_ok {ops:Array Oper} (h:backOk ops=true) {j:Nat} {oj:Oper} (hj:ops[j]?=some oj) {e:Edge} (he:e∈oj.after):e.on<j:=by
 have:=List.all_eq_true.1 h j (List.mem_range.2 (Array.getElem?_eq_some_iff.1 hj).1)
 simp only [hj] at this
 simpa using Array.all_eq_true_iff_forall_mem.1 this e he
theorem awaits_no {ops:Array Oper} {listed:Array Bool} {i j:Nat} (hb:backOk ops=true) (hcl:Closed ops listed) (hi:listed.getD i true=false) (h:awaits ops i j=true) (hj:j∈Region.ready .any ops listed):False:=by
 unfold awaits at h
 rw [Bool.and_eq_true] at h
 obtain ⟨h1,h2⟩:=h
 have h2:∃ S,Waits ops (Array.replicate ops.size false) i S∧S j=true:=by
  refine ⟨fun j=>(waits ops (Array.replicate ops.size false) i).contains j,fun j hj=>?_,h2⟩
  have:=List.all_eq_true.1 h1 j (List.contains_iff_mem.1 hj)
  simp only [Bool.and_eq_true,Bool.not_eq_true'] at this
  obtain ⟨h1,h2⟩:=this
  refine ⟨h1,?_⟩
  split at h2
  ·rename_i oj hoj
   obtain ⟨e,he,hb⟩:=Array.any_eq_true'.1 h2
   simp only [Bool.and_eq_true,Bool.or_eq_true,beq_iff_eq] at hb
   exact ⟨oj,hoj,e,he,hb.1,hb.2⟩
  ·cases h2
 obtain ⟨S,hW,hSj⟩:=h2
 have hno:∀ k,S k=true→listed.getD k false=true→False:=by
  intro k
  induction k using Nat.strongRecOn with
  | _ k ih =>
  intro hk hl
  obtain ⟨_,ok,hok,e,he,hbe,ho⟩:=hW k hk
  have hle:=hcl k ok hok hl e he hbe
  rcases ho with ho | ho
  ·rw [ho] at hle
   exact unlisted hi hle
  ·exact ih e.on (back_ok hb hok he) ho hle
 obtain ⟨_,oj,hoj,e,he,hbe,ho⟩:=hW j hSj
 obtain ⟨_,oj',hoj',hall⟩:=mem_ready.1 hj
 rw [hoj] at hoj'; injection hoj' with hoj'; subst hoj'
 have hle:=hall e he hbe
 rcases ho with ho | ho
 ·rw [ho] at hle
  exact unlisted hi hle
 ·exact hno e.on ho hle
theorem alone_no {ops:Array Oper} {listed:Array Bool} {i j:Nat} (hcl:Closed ops listed) (hi:i∈Region.ready .any ops listed) (hj:j∈Region.ready .any ops listed) (hji:j≠i) {oi:Oper} (hoi:ops[i]?=some oi):alone ops j=false∨noMem oi=true:=by
 cases h:alone ops j with
 | false=>exact .inl rfl
 | true =>
  refine .inr ?_
  unfold alone at h
  rw [Bool.and_eq_true] at h
  have:=List.all_eq_true.1 h.2 i (List.mem_range.2 (Array.getElem?_eq_some_iff.1 hoi).1)
  simp only [Bool.or_eq_true,beq_iff_eq,Ne.symm hji,false_or,hoi] at this
  rcases this with (h1 | h1) | h1
  ·exact (awaits_no h.1 hcl (mem_ready.1 hi).1 h1 hj).elim
  ·exact (awaits_no h.1 hcl (mem_ready.1 hj).1 h1 hi).elim
  ·exact h1
theorem wpAnyB_first {B B₀:Nat} {Q:Act→World→Prop} {i:Nat} {oi:Oper} {v:Value} {S:Nat→Bool} (hi:ops[i]?=some oi) (hsel:∀ (j:Nat) (o:Oper) cs b,ops[j]?=some o→o.op≠.select cs b) :
  ∀ (n:Nat) (listed:Array Bool) (a:Act) (w:World),
   Closed ops listed→Waits ops listed i S→(∀ j oj,ops[j]?=some oj→j≠i→listed.getD j true=false→S j=false→(∀ e∈oj.after,Region.binds .any e=true→e.on≠i)→oi.apart ops oj=true∧(calm oj=true∨storeTo ops oj=true∧B₀=B))→B₀≤w.heap.size →
   i∈Region.ready .any ops listed→YieldsP P ops B₀ oi v a w→wpAnyB P ops B Q n (listed.setIfInBounds i true) (a.put oi.dst v) w→wpAnyB P ops B Q (n+1) listed a w:=by
 intro n
 induction n with
 | zero =>
  intro listed a w _ _ _ _ hr hy H
  refine ⟨fun h=>(by rw [h] at hr; cases hr),fun j hj=>?_⟩
  by_cases hji:j=i
  ·subst hji; exact hy.wpOp hi ⟨Grew.refl,H⟩
  ·have:=ready_mono hj hji
   rw [H.1] at this
   cases this
 | succ n ih =>
  intro listed a w hcl hS hfree hB0 hr hy H
  refine ⟨fun h=>(by rw [h] at hr; cases hr),fun j hj=>?_⟩
  by_cases hji:j=i
  ·subst hji; exact hy.wpOp hi ⟨Grew.refl,H⟩
  ·have h1:=H.2 j (ready_mono hj hji)
   obtain ⟨hjun,oj,hoj,hall⟩:=mem_ready.1 hj
   have hnot:∀ e∈oj.after,Region.binds .any e=true→e.on≠i:=fun e he hb heq=>by
    have h1:=hall e he hb
    have h0:=(mem_ready.1 hr).1
    rw [heq] at h1
    rcases Nat.lt_or_ge i listed.size with h' | h'
    ·simp [h'] at h0 h1; rw [h0] at h1; cases h1
    ·simp [Array.getElem?_eq_none h'] at h1
   have hSj:S j=false:=by
    cases hsj:S j with
    | false=>rfl
    | true =>
     obtain ⟨_,oj',hoj',e,he,hb,ho⟩:=hS j hsj
     rw [hoj] at hoj'; injection hoj' with hoj'; subst hoj'
     rcases ho with ho | ho
     ·exact absurd ho (hnot e he hb)
     ·have h1:=hall e he hb
      have h0:=(hS e.on ho).1
      rcases Nat.lt_or_ge e.on listed.size with h' | h'
      ·simp [h'] at h0 h1; rw [h0] at h1; cases h1
      ·simp [Array.getElem?_eq_none h'] at h1
   obtain ⟨hap,hcalm⟩:=hfree j oj hoj hji hjun hSj hnot
   have h2:=wpOp_apart hoj hap (fun cs b=>hsel i oi cs b hi) (fun cs b=>hsel j oj cs b hoj) hy h1
   refine wpOp_QF (fun a' w' h3=>?_) h2
   obtain ⟨h3,h4,h5⟩:=h3
   have hBB:Below B₀ w w'∨noMem oi=true:=by
    rcases alone_no hcl hr hj hji hi with hal | hnm
    ·obtain ⟨g1,g2⟩:=h4.2 hal oj hoj
     rcases hcalm with hc | ⟨hc,rfl⟩
     ·exact .inl ((g1 hc).mono hB0)
     ·exact .inl (g2 hc)
    ·exact .inr hnm
   refine ⟨h4,ih (listed.setIfInBounds j true) a' w' (hcl.step hj) (fun k hk=>by
    obtain ⟨q1,q2⟩:=hS k hk
    refine ⟨?_,q2⟩
    have hne:j≠k:=fun e=>by rw [← e,hSj] at hk; cases hk
    rw [getD_set_ne true hne]; exact q1) (fun k ok hk hki hun hks hno=>?_) (Nat.le_trans hB0 h4.1) (ready_mono hr (Ne.symm hji)) (h3.later hBB) ?_⟩
   ·refine hfree k ok hk hki ?_ hks hno
    by_cases hjk:j=k
    ·subst hjk; exact hjun
    ·rw [getD_set_ne true hjk] at hun; exact hun
   ·rw [Array.setIfInBounds_comm _ _ hji]
    exact h5
end
section
variable [Low] {P:Program} {w w':World} {g g':G} {base:Nat} {σ:St} {a:Act}
theorem isQ_pure {call:FuncId→List T→Option (T × Bool)} {o:Oper} (h:isQ o=true):evOp P call σ o=evPure P σ o:=by
 obtain ⟨dst,op,ty,pos,after,guard⟩:=o
 cases op with
 | assign x =>
  cases x with
  | const v=>cases v with
   | slice A n c =>
    cases A with
    | none=>cases n with
     | zero=>cases c with
      | zero=>simp [isQ] at h
      | succ c=>cases dst <;> rfl
     | succ n=>cases dst <;> rfl
    | some A=>cases dst <;> rfl
   | _=>cases dst <;> rfl
  | _=>cases dst <;> rfl
 | call c =>
  obtain ⟨callee,args,ts⟩:=c
  cases callee with
  | builtin b=>cases b <;> first | (simp [isQ] at h; done) | rfl
  | _=>simp [isQ] at h
 | _=>first | (simp [isQ] at h; done) | (cases dst <;> rfl)
theorem pure_ok (hr:Rel P w g base σ a) {o:Oper} {σ':St} (hd:∀ d,o.dst=some d→d<a.tmps.size) (h:evPure P σ o=some (σ',true)) :
  ∃ z,(∀ w',(Below w.heap.size w w'∨noMem o=true)→(execOp a.eval o).run P w'=.ok (.value z) w')∧Rel P w g base σ' (a.put o.dst z):=by
 unfold evPure at h
 split at h
 ·rename_i v ok hq
  simp only [Option.some.injEq,Prod.mk.injEq] at h
  obtain ⟨rfl,rfl⟩:=h
  obtain ⟨z,h1,h2⟩:=evQ_ok hr hq
  exact ⟨z,h1,hr.put hd h2⟩
 ·cases h
structure After (o:Oper) (a:Act) (z:Value) (w w':World):Prop where
 calm:calm o=true→Below w.heap.size w w'
 pure:isQ o=true→w'=w
 box:isA o=true→z=.pointer (some ⟨w.heap.size,0,none⟩)
 store:∀ t d x B,o.op=.store t (.tmp d) x→(∀ b off,a.tmps.getD d undef=.pointer (some ⟨b,off,none⟩)→B≤b)→Below B w w'
theorem evW0_not {call:FuncId→List T→Option (T × Bool)} (hnw:∀ f args r ok,call f args=some (r,ok)→r.sh.isW=false) {dst:Option Nat} {f:Operand} {xs:List Operand} {r:St × Bool} (h:evW0 P call σ dst f xs=some r):False:=by
 unfold evW0 at h
 split at h
 ·split at h
  ·split at h
   ·rename_i r' ok hc
    have hw:=hnw _ _ _ _ hc
    rename_i t _ _ _
    cases hq:(rowOf P _==some [.int .i64]&&t.1 != 1000001) with
    | false=>rw [hq] at h; cases h
    | true =>
     rw [hq,cond_true] at h
     split at h
     ·rename_i e; rw [e] at hw; cases hw
     ·rename_i e; rw [e] at hw; cases hw
     ·cases h
   ·cases h
  ·cases h
 ·cases h
theorem evW_not {call:FuncId→List T→Option (T × Bool)} (hnw:∀ f args r ok,call f args=some (r,ok)→r.sh.isW=false) {dst:Option Nat} {f:Operand} {xs:List Operand} {tys:List TypeId} {r:St × Bool} (h:evW P call σ dst f xs tys=some r):False:=by
 unfold evW at h
 split at h
 ·rename_i r0 he
  exact evW0_not hnw he
 ·split at h
  ·rename_i r0 hk
   clear h
   have h:=hk
   clear hk
   unfold evK at h
   split at h
   ·split at h
    ·split at h
     ·split at h
      ·rename_i r' ok hc
       have hw:=isK_W (hnw _ _ _ _ hc)
       rw [hw,Bool.false_and,Bool.false_and,Bool.false_and,Bool.false_and] at h
       cases h
      ·cases h
     ·cases h
    ·cases h
   ·cases h
  ·split at h
   ·rename_i r0 hi
    clear h
    have h:=hi
    clear hi
    unfold evMi at h
    split at h
    ·split at h
     ·split at h
      ·rename_i r' ok hc
       have hw:=isM_W (hnw _ _ _ _ hc)
       rw [hw] at h
       cases h
      ·cases h
     ·cases h
    ·cases h
   ·split at h
    ·rename_i r0 hi
     clear h
     have h:=hi
     clear hi
     unfold evX at h
     split at h
     ·split at h
      ·split at h
       ·split at h
        ·rename_i r' ok hc
         have hw:=isX_W (hnw _ _ _ _ hc)
         rw [hw,Bool.false_and,Bool.false_and] at h
         cases h
        ·cases h
       ·split at h
        ·rename_i r' ok hc
         have hw:=isX_W (hnw _ _ _ _ hc)
         rw [hw,Bool.false_and,Bool.false_and,Bool.false_and,Bool.false_and,Bool.false_and,Bool.false_and] at h
         cases h
        ·cases h
       ·cases h
      ·cases h
     ·cases h
    ·unfold evM at h
     split at h
     ·split at h
      ·split at h
       ·rename_i r' ok hc
        have hw:=isM_W (hnw _ _ _ _ hc)
        rw [hw,Bool.false_and,Bool.false_and] at h
        cases h
       ·cases h
      ·cases h
     ·cases h
theorem evNew_not {call:FuncId→List T→Option (T × Bool)} (hnw:∀ f args r ok,call f args=some (r,ok)→r.sh.isW=false) {d:Nat} {f:Operand} {xs:List Operand} {tys:List TypeId} {r:St × Bool} (h:evNew P call σ d f xs tys=some r):False:=by
 unfold evNew at h
 split at h
 ·split at h
  ·split at h
   ·rename_i r' ok hc
    split at h
    ·rename_i cs hrs
     have:=hnw _ _ _ _ hc
     rw [hrs] at this
     cases this
    ·cases h
   ·cases h
  ·cases h
 ·cases h
theorem evT_not {call:FuncId→List T→Option (T × Bool)} (hnw:∀ f args r ok,call f args=some (r,ok)→r.sh.isW=false) {d:Nat} {f:Operand} {xs:List Operand} {tys:List TypeId} {r:St × Bool} (h:evT P call σ d f xs tys=some r):False:=by
 unfold evT at h
 split at h
 ·split at h
  ·split at h
   ·rename_i r' ok hc
    split at h
    ·rename_i cs az hrs hz
     have:=hnw _ _ _ _ hc
     rw [hrs] at this
     cases this
    ·cases h
   ·cases h
  ·cases h
 ·cases h
theorem evP_not {call:FuncId→List T→Option (T × Bool)} (hnw:∀ f args r ok,call f args=some (r,ok)→r.sh.isW=false) {d:Nat} {f:Operand} {xs:List Operand} {r:St × Bool} (h:evP P call σ d f xs=some r):False:=by
 unfold evP at h
 split at h
 ·split at h
  ·split at h
   ·split at h
    ·split at h
     ·rename_i r' ok hc
      have hw:=hnw _ _ _ _ hc
      split at h
      ·rename_i e
       rw [e] at hw
       cases hw
      ·cases h
     ·cases h
    ·cases h
   ·cases h
  ·cases h
 ·cases h
theorem evOp_goesC (hr:Rel P w g base σ a) {call:FuncId→List T→Option (T × Bool)} (hcall:CallOk P call) (hnw:∀ f args r ok,call f args=some (r,ok)→r.sh.isW=false) {o:Oper} {σ':St} (hd:∀ d,o.dst=some d→d<a.tmps.size) (h:evOp P call σ o=some (σ',true)) :
  ∀ (K:Act→World→Prop) (Q:Exit→Act→World→Prop),(∀ z w' g',Rel P w' g' base σ' (a.put o.dst z)→Below base w w'→After o a z w w'→K (a.put o.dst z) w')→o.wp P a w K Q:=by
 intro K Q hK
 cases hs:(match o.op with | .store _ _ _=>true | _=>false) with
 | true =>
  obtain ⟨dst,op,ty,pos,after,guard⟩:=o
  cases op with
  | store t p x =>
   obtain ⟨z,w',g',h1,h2,h3,h4⟩:=evStore_okS (o:=⟨dst,.store t p x,ty,pos,after,guard⟩) hr rfl hd (by cases dst <;> exact h)
   have hA:After ⟨dst,.store t p x,ty,pos,after,guard⟩ a z w w':=⟨fun h=>by cases dst <;> simp [calm,isQ,isC,isA,isM] at h,fun h=>by simp [isQ] at h,fun h=>by cases dst <;> simp [isA] at h,fun t' d x' B he hB=>h4 B fun b o hb=>by
    injection he with _ e2 _
    subst e2
    exact hB b o hb⟩
   unfold Oper.wp
   rcases h1 with h1 | ⟨h1,rfl⟩
   ·rw [h1]; exact hK z w' g' h2 h3 hA
   ·rw [h1]; exact hK undef w' g' h2 h3 hA
  | _=>simp at hs
 | false =>
 have hns:∀ t d x,o.op≠.store t d x:=fun t d x e=>by rw [e] at hs; cases hs
 cases hc:calm o with
 | false=>exact evOp_goes hr hcall hd h K Q fun z w' g' h1 h2=>hK z w' g' h1 h2 ⟨fun h=>by rw [hc] at h; (cases h),fun h=>by simp [calm,h] at hc,fun h=>by simp [calm,h] at hc,fun t d x _ e=>absurd e (hns t _ x)⟩
 | true =>
  cases hq:isQ o with
  | true =>
   rw [isQ_pure hq] at h
   obtain ⟨z,h1,h2⟩:=pure_ok hr hd h
   unfold Oper.wp
   rw [h1 w (.inl (Below.refl _ _))]
   exact hK z w g h2 (Below.refl _ _) ⟨fun _=>Below.refl _ _,fun _=>rfl,fun h=>by
    obtain ⟨dst,op,ty,pos,after,guard⟩:=o
    cases op <;> first | (simp [isQ] at hq; done) | (simp [isA] at h; done),fun t d x _ e=>absurd e (hns t _ x)⟩
  | false =>
   cases ha:isA o with
   | true =>
    obtain ⟨dst,op,ty,pos,after,guard⟩:=o
    cases op with
    | alloc t =>
     cases dst with
     | none=>simp [isA] at ha
     | some d =>
      obtain ⟨z,w',g',h1,h2,h3,h4,h5⟩:=evAlloc_okB (o:=⟨some d,.alloc t,ty,pos,after,guard⟩) hr rfl rfl hd h
      unfold Oper.wp
      rw [h1]
      exact hK z w' g' h2 h3 ⟨fun _=>h4,fun h=>by simp [isQ] at h,fun _=>h5,fun t d x _ e=>absurd e (hns t _ x)⟩
    | _=>simp [isA] at ha
   | false =>
    cases hm:isM o with
    | true =>
     have hd1:DoesC P base σ' o a w:=by
      obtain ⟨dst,op,ty,pos,after,guard⟩:=o
      cases dst with
      | none=>cases op <;> first | (simp [isM] at hm; done) | (unfold isM at hm; split at hm <;> simp_all)
      | some d =>
       cases op with
       | box t x=>exact evBox_ok (o:=⟨some d,.box t x,ty,pos,after,guard⟩) hr rfl rfl hd h
       | build t ps=>exact evBuild_ok (o:=⟨some d,.build t ps,ty,pos,after,guard⟩) hr rfl rfl hd h
       | buildSlice t n ps =>
        have h:(bif deepAt call d then evBuildSliceD P σ d t n ps.toList else evBuildSlice P σ d t n ps.toList)=some (σ',true):=h
        cases hdp:deepAt call d with
        | false=>rw [hdp,cond_false] at h; exact evBuildSlice_ok (o:=⟨some d,.buildSlice t n ps,ty,pos,after,guard⟩) hr rfl rfl hd h
        | true=>rw [hdp,cond_true] at h; exact evBuildSliceD_ok (o:=⟨some d,.buildSlice t n ps,ty,pos,after,guard⟩) hr rfl rfl hd h
       | makeSlice t n c=>exact evMakeSlice_ok (o:=⟨some d,.makeSlice t n c,ty,pos,after,guard⟩) hr rfl rfl hd h
       | assign x =>
        have hx:x=.const (.slice none 0 0):=by
         unfold isM at hm
         split at hm <;> simp_all
        subst hx
        exact evNil_ok (o:=⟨some d,.assign (.const (.slice none 0 0)),ty,pos,after,guard⟩) hr rfl rfl hd h
       | _=>simp [isM] at hm
     obtain ⟨z,w',g',h1,h2,h3,h4⟩:=hd1
     have hA:After o a z w w':=⟨fun _=>h4,fun h=>(by rw [hq] at h; cases h),fun h=>(by rw [ha] at h; cases h),fun t d x _ e=>absurd e (hns t _ x)⟩
     unfold Oper.wp
     rcases h1 with h1 | ⟨h1,rfl⟩
     ·rw [h1]; exact hK z w' g' h2 h3 hA
     ·rw [h1]; exact hK undef w' g' h2 h3 hA
    | false =>
    have hcc:isC o=true:=by simpa [calm,hq,ha,hm] using hc
    obtain ⟨dst,op,ty,pos,after,guard⟩:=o
    cases op with
    | call c =>
     obtain ⟨callee,args,ts⟩:=c
     cases callee with
     | value f =>
      cases dst with
      | none=>simp only [evOp,evPure,evQ] at h; cases h
      | some d =>
       simp only [evOp] at h
       split at h
       ·rename_i r he
        exact (evW_not hnw he).elim
       ·split at h
        rotate_left
        ·split at h
         ·rename_i r he
          exact (evNew_not hnw he).elim
         ·split at h
          ·rename_i r he
           exact (evT_not hnw he).elim
          ·exact (evP_not hnw h).elim
        rename_i r he
        injection h with h
        subst h
        exact evCall_ok hr hcall rfl rfl hd he K Q fun z w' g' h1 h2 h3=>hK z w' g' h1 h2 ⟨fun _=>h3,fun h=>by simp [isQ] at h,fun h=>by simp [isA] at h,fun t d x _ e=>absurd e (hns t _ x)⟩
     | _=>simp [isC] at hcc
    | _=>simp [isC] at hcc
theorem evStepG_ok (hr:Rel P w g base σ a) {ops:Array Oper} (hops:∀ o∈ops.toList,∀ d,o.dst=some d→d<a.tmps.size) {o:Oper} {y k:St→R} {key:Option Dom} {out:Nat × List D} (hd:∀ d,o.dst=some d→d<a.tmps.size)
  (h:evStepG ops σ o y k=some (key,some out)) :
  (Region.wanted o (yielded ops a.tmps)=true∧∃ σ₂ key',Rel P w g base σ₂ a∧y σ₂=some (key',some out)) ∨
  (Region.wanted o (yielded ops a.tmps)=false∧∃ σ₂ key',Rel P w g base σ₂ (a.put o.dst undef)∧k σ₂=some (key',some out)):=by
 have hw:=want_ok hr hops (o:=o)
 have hput:∀ {σ:St},Rel P w g base σ a→Rel P w g base (σ.put o.dst .none_) (a.put o.dst undef):=fun hr=>hr.put hd (t:=.none_) ⟨#[],rfl,rfl,fun j x h=>by simp at h⟩
 unfold evStepG at h
 cases hq:want ops σ o with
 | yes=>rw [hq] at h hw; exact .inl ⟨hw,σ,key,hr,h⟩
 | no=>rw [hq] at h hw; exact .inr ⟨hw,_,key,hput hr,h⟩
 | ask t gg b =>
  rw [hq] at h hw
  simp only at h hw
  obtain ⟨ht,hv,hw⟩:=hw
  obtain ⟨h1,h2⟩:=rcond_ok h
  have hkb:∀ c:Bool,gg=c→Rel P w g base (σ.put (some t) (.c (.kb c) D0)) a:=fun c hc=>by
   have:=hr.put (dst:=some t) (fun d hd=>by injection hd with hd; subst hd; exact ht) (t:=.c (.kb c) D0) (v:=.bool gg) (by rw [hc]; exact rfl)
   have e:a.put (some t) (.bool gg)=a:=by
    rw [← hv]
    obtain ⟨tm,df⟩:=a
    simp only [Act.put]
    congr 1
    refine Array.ext_getElem? fun i=>?_
    rw [Array.getElem?_setIfInBounds]
    split
    ·rename_i e
     subst e
     have ht':t<tm.size:=ht
     first
      | exact (Array.getElem?_eq_getElem ht').symm
      | (rw [if_pos ht',Array.getD_eq_getD_getElem?,Array.getElem?_eq_getElem ht']; rfl)
    ·rfl
   rwa [e] at this
  cases gg with
  | true =>
   obtain ⟨k',h1⟩:=h1 rfl
   cases b with
   | true=>exact .inl ⟨by rw [hw]; rfl,_,k',hkb true rfl,h1⟩
   | false=>exact .inr ⟨by rw [hw]; rfl,_,k',hput (hkb true rfl),h1⟩
  | false =>
   obtain ⟨k',h2⟩:=h2 rfl
   cases b with
   | true=>exact .inr ⟨by rw [hw]; rfl,_,k',hput (hkb false rfl),h2⟩
   | false=>exact .inl ⟨by rw [hw]; rfl,_,k',hkb false rfl,h2⟩
 | bad=>rw [hq] at h; cases h
theorem waits_ok {ops:Array Oper} {listed:Array Bool} {i:Nat} {S:List Nat} (h:waitsOk ops listed i S=true):Waits ops listed i (fun j=>S.contains j):=by
 intro j hj
 have:=List.all_eq_true.1 h j (List.contains_iff_mem.1 hj)
 simp only [Bool.and_eq_true,Bool.not_eq_true'] at this
 obtain ⟨h1,h2⟩:=this
 refine ⟨h1,?_⟩
 split at h2
 ·rename_i oj hoj
  obtain ⟨e,he,hb⟩:=Array.any_eq_true'.1 h2
  simp only [Bool.and_eq_true,Bool.or_eq_true,beq_iff_eq] at hb
  exact ⟨oj,hoj,e,he,hb.1,hb.2⟩
 ·cases h2
theorem early_ok {ops:Array Oper} {listed:Array Bool} {i:Nat} {oi:Oper} (hi:ops[i]?=some oi) (h:early ops listed i=true) :
  isQ oi=true∧∃ S,Waits ops listed i S∧∀ j oj,ops[j]?=some oj→j≠i→listed.getD j true=false→S j=false→(∀ e∈oj.after,Region.binds .any e=true→e.on≠i)→oi.apart ops oj=true∧calm oj=true:=by
 unfold early at h
 rw [Bool.or_eq_true] at h
 rcases h with h | h
 ·unfold earlyT at h
  simp only [hi,Bool.and_eq_true] at h
  obtain ⟨⟨⟨_,h1⟩,h2⟩,h3⟩:=h
  refine ⟨h1,_,waits_ok h2,fun j oj hj hne hun hS hno=>?_⟩
  have:=List.all_eq_true.1 h3 j (List.mem_range.2 (Array.getElem?_eq_some_iff.1 hj).1)
  simp only [hj,Bool.or_eq_true,beq_iff_eq,hne,false_or,hun,hS,Bool.false_eq_true,Bool.and_eq_true] at this
  exact this
 ·simp only [hi,Bool.and_eq_true] at h
  obtain ⟨⟨h1,h2⟩,h3⟩:=h
  refine ⟨h1,_,Waits.none,fun j oj hj hne hun _ hno=>⟨Region.free_spec hi h2 j oj hj hne hun hno,?_⟩⟩
  have:=List.all_eq_true.1 h3 j (List.mem_range.2 (Array.getElem?_eq_some_iff.1 hj).1)
  simp only [hj,Bool.or_eq_true,beq_iff_eq,hne,false_or,hun,Bool.false_eq_true] at this
  rcases this with h | h
  ·exact h
  ·obtain ⟨e,he,hb⟩:=Array.any_eq_true'.1 h
   simp only [Bool.and_eq_true,beq_iff_eq] at hb
   exact absurd hb.2 (hno e he hb.1)
theorem early_okM {ops:Array Oper} {listed:Array Bool} {i:Nat} {oi:Oper} (hm:memless ops=true) (hi:ops[i]?=some oi) (h:early ops listed i=true) :
  isQ oi=true∧∀ j oj,ops[j]?=some oj→j≠i→listed.getD j true=false→(∀ e∈oj.after,Region.binds .any e=true→e.on≠i)→oi.apart ops oj=true:=by
 unfold early at h
 have e:earlyT ops listed i=false:=by unfold earlyT; rw [hi,hm]; rfl
 rw [e,Bool.false_or] at h
 simp only [hi,Bool.and_eq_true] at h
 exact ⟨h.1.1,fun j oj hj hne hun hno=>Region.free_spec hi h.1.2 j oj hj hne hun hno⟩
structure Same (σ τ:St):Prop where
 env:∀ i,look2 i σ.e σ.r=look2 i τ.e τ.r
 box:∀ i,hlook i σ.h=hlook i τ.h
theorem Rel.same (hr:Rel P w g base σ a) {τ:St} (h:Same σ τ):Rel P w g base τ a:=
 ⟨fun i=>by rw [← h.env i]; exact hr.env i,fun id cs ds hl=>hr.box id cs ds (by rw [h.box id]; exact hl),hr.fresh,hr.base_le,hr.defers,hr.low,hr.mine⟩
theorem wipeC_comm (d d':Nat) (c:Ce):wipeC d (wipeC d' c)=wipeC d' (wipeC d c):=by
 cases c with
 | own t x e=>cases x <;> cases h:(t.1==d) <;> cases h':(t.1==d') <;> simp [wipeC,h,h']
 | eptr t e off=>cases t with
  | none=>rfl
  | some t=>cases h:(t.1==d) <;> cases h':(t.1==d') <;> simp [wipeC,h,h']
 | inn t e off ei=>cases h:(t.1==d) <;> cases h':(t.1==d') <;> simp [wipeC,h,h']
 | ptr id off=>cases h:(id==d) <;> cases h':(id==d') <;> simp [wipeC,h,h']
 | fn f caps =>
  obtain ⟨b1,h1⟩:∃ b,wipeC d (.fn f caps)=bif b then .fn f caps else .any:=⟨_,rfl⟩
  obtain ⟨b2,h2⟩:∃ b,wipeC d' (.fn f caps)=bif b then .fn f caps else .any:=⟨_,rfl⟩
  rw [h1,h2]
  cases b1 <;> cases b2 <;> simp only [cond_true,cond_false,h1,h2] <;> rfl
 | _=>rfl
theorem Sh1.map_map (f f':Ce→Ce) (s:Sh1):(s.map f).map f'=s.map (f' ∘ f):=by
 cases s <;> simp [Sh1.map]
theorem Sh.map_map (f f':Ce→Ce) (s:Sh):(s.map f).map f'=s.map (f' ∘ f):=by
 cases s with
 | one x=>simp [Sh.map,Sh1.map_map]
 | tup xs =>
  simp only [Sh.map,List.map_map]
  congr 1
  refine List.map_congr_left fun x _=>?_
  exact Sh1.map_map f f' x
theorem look2_wipe (σ:St) (d i:Nat):look2 i (σ.wipe d).e (σ.wipe d).r=⟨(look2 i σ.e σ.r).sh.map (wipeC d),(look2 i σ.e σ.r).p⟩:=
 look2_map (fun t=>⟨t.sh.map (wipeC d),t.p⟩) (by rfl) σ.e i σ.r
theorem hlook_wipe (σ:St) (d i:Nat):hlook i (σ.wipe d).h=(hlook i σ.h).map fun q=>(q.1.map (wipeC d),q.2):=hlook_map_ne (wipeC d) σ i
theorem zeroC_wipe (f:S→Nat) (d d':Nat) (h:d≠d'):∀ (row:List S) (i:Nat),(zeroC f d i row).map (wipeC d')=zeroC f d i row
 | [],_=>rfl
 | s::r,i=>by
  simp only [zeroC,List.map_cons,zeroC_wipe f d d' h r (i+1)]
  congr 1
  cases s <;> simp [zC,wipeC,beq_eq_false_iff_ne.2 h]
def alloced (f:S→Nat) (σ:St) (d:Nat) (row:List S):St:=St.put ⟨(σ.wipe d).r,(σ.wipe d).e,hput d (zeroC f d 0 row,row.map zeroD) (σ.wipe d).h⟩ (some d) (.c (.ptr d 0) D0)
theorem look2_alloced (f:S→Nat) (σ:St) (d i:Nat) (row:List S):look2 i (alloced f σ d row).e (alloced f σ d row).r=if i=d then .c (.ptr d 0) D0 else ⟨(look2 i σ.e σ.r).sh.map (wipeC d),(look2 i σ.e σ.r).p⟩:=by
 show look2 i (σ.wipe d).e ((d,.c (.ptr d 0) D0)::(σ.wipe d).r)=_
 rw [look2]
 by_cases h:i=d
 ·subst h; simp
 ·rw [if_neg h,show (i==d)=false from by simpa using h,cond_false,look2_wipe]
theorem hlook_alloced (f:S→Nat) (σ:St) (d i:Nat) (row:List S):hlook i (alloced f σ d row).h=if i=d then some (zeroC f d 0 row,row.map zeroD) else (hlook i σ.h).map fun q=>(q.1.map (wipeC d),q.2):=by
 show hlook i (hput d _ (σ.wipe d).h)=_
 rw [hlook_hput,hlook_wipe]
theorem alloced_swap (f f':S→Nat) (σ:St) {d d':Nat} (h:d≠d') (row row':List S):Same (alloced f (alloced f' σ d' row') d row) (alloced f' (alloced f σ d row) d' row'):=by
 refine ⟨fun i=>?_,fun i=>?_⟩
 ·rw [look2_alloced,look2_alloced,look2_alloced,look2_alloced]
  by_cases h1:i=d
  ·subst h1
   rw [if_pos rfl,if_neg h,if_pos rfl]
   simp only [Sh.map,Sh1.map,wipeC]
   rw [show (i==d')=false from by simpa using h]
   rfl
  ·by_cases h2:i=d'
   ·subst h2
    rw [if_neg h1,if_pos rfl,if_pos rfl]
    simp only [Sh.map,Sh1.map,wipeC]
    rw [show (i==d)=false from by simpa using h1]
    rfl
   ·rw [if_neg h1,if_neg h2,if_neg h2,if_neg h1]
    simp only [Sh.map_map]
    congr 2
    funext c
    exact wipeC_comm d d' c
 ·rw [hlook_alloced,hlook_alloced,hlook_alloced,hlook_alloced]
  by_cases h1:i=d
  ·subst h1
   rw [if_pos rfl,if_neg h,if_pos rfl]
   simp only [Option.map_some,zeroC_wipe _ i d' h]
  ·by_cases h2:i=d'
   ·subst h2
    rw [if_neg h1,if_pos rfl,if_pos rfl]
    simp only [Option.map_some,zeroC_wipe _ i d (Ne.symm h)]
   ·rw [if_neg h1,if_neg h2,if_neg h2,if_neg h1]
    cases hlook i σ.h with
    | none=>rfl
    | some q =>
     simp only [Option.map_some,List.map_map]
     congr 3
     funext c
     exact wipeC_comm d d' c
theorem evAlloc_eq {d:Nat} {b:Bool} {t:TypeId} {σ':St} (h:evAlloc P σ d b t=some (σ',true)):∃ row,σ'=alloced (dzero P b) σ d row∧∀ τ,evAlloc P τ d b t=some (alloced (dzero P b) τ d row,true):=by
 unfold evAlloc at h
 split at h
 ·rename_i row hrow
  cases hz:zeroOk P t row with
  | false=>rw [hz] at h; cases h
  | true =>
   rw [hz] at h
   simp only [Bool.not_true,cond_false,Option.some.injEq,Prod.mk.injEq,and_true] at h
   exact ⟨row,h.symm,fun τ=>by simp only [evAlloc,hrow,hz,Bool.not_true,cond_false]; rfl⟩
 ·cases h
theorem isA_eq {o:Oper} (h:isA o=true):∃ d t,o.op=.alloc t∧o.dst=some d:=by
 obtain ⟨dst,op,ty,pos,after,guard⟩:=o
 cases op <;> cases dst <;> first | (simp [isA] at h; done) | exact ⟨_,_,rfl,rfl⟩
theorem plan_alloc {call:FuncId→List T→Option (T × Bool)} {ops:Array Oper} {j:Nat} {o:Oper} {d:Nat} {t:TypeId} {l:List (Nat × Bool)} {k:St→R} {key:Option Dom} {out:Nat × List D} (ho:ops[j]?=some o) (hop:o.op=.alloc t) (hdst:o.dst=some d) (hg:o.guard=none)
  (h:evPlanA P call ops ((j,false)::l) σ k=some (key,some out)):∃ σ',evAlloc P σ d (deepAt (noW call) d) t=some (σ',true)∧∃ key',evPlanA P call ops l σ' k=some (key',some out):=by
 unfold evPlanA at h
 simp only [ho,evStepG,want,hg,cond_false] at h
 unfold evYesA at h
 split at h
 ·rename_i σ' ok he
  obtain ⟨hok,hcont⟩:=rneed_ok h
  subst hok
  refine ⟨σ',?_,key,hcont⟩
  rw [← he]
  simp only [evOp,hop,hdst]
 ·rw [show isC o=false from by unfold isC; rw [hop],Bool.false_and] at h
  cases h
theorem early0_ok {ops:Array Oper} {listed:Array Bool} {i:Nat} {oi:Oper} (hi:ops[i]?=some oi) (h:early0 ops listed i=true) :
  isQ oi=true∧onlyQ ops listed=true∧∀ j oj,ops[j]?=some oj→j≠i→listed.getD j true=false→(∀ e∈oj.after,Region.binds .any e=true→e.on≠i)→oi.apart ops oj=true∧(calm oj=true∨storeTo ops oj=true):=by
 unfold early0 at h
 simp only [hi,Bool.and_eq_true] at h
 obtain ⟨⟨⟨h1,h2⟩,h4⟩,h3⟩:=h
 refine ⟨h1,h4,fun j oj hj hne hun hno=>⟨Region.free_spec hi h2 j oj hj hne hun hno,?_⟩⟩
 have:=List.all_eq_true.1 h3 j (List.mem_range.2 (Array.getElem?_eq_some_iff.1 hj).1)
 simp only [hj,Bool.or_eq_true,beq_iff_eq,hne,false_or,hun,Bool.false_eq_true] at this
 rcases this with h | h
 ·exact h
 ·obtain ⟨e,he,hb⟩:=Array.any_eq_true'.1 h
  simp only [Bool.and_eq_true,beq_iff_eq] at hb
  exact absurd hb.2 (hno e he hb.1)
def Made (ops:Array Oper) (B:Nat) (listed:Array Bool) (a:Act):Prop:=
 dstOk ops=true→∀ j o d,ops[j]?=some o→listed.getD j true=true→isA o=true→o.guard=none→o.dst=some d→∃ b off,a.tmps.getD d undef=.pointer (some ⟨b,off,none⟩)∧B≤b
theorem dstOk_ne {ops:Array Oper} (h:dstOk ops=true) {i j d:Nat} {oi oj:Oper} (hi:ops[i]?=some oi) (hj:ops[j]?=some oj) (hne:i≠j) (hd:oi.dst=some d):oj.dst≠some d:=by
 unfold dstOk at h
 have:=List.all_eq_true.1 (List.all_eq_true.1 h i (List.mem_range.2 (Array.getElem?_eq_some_iff.1 hi).1)) j (List.mem_range.2 (Array.getElem?_eq_some_iff.1 hj).1)
 simp only [hi,hj,Bool.or_eq_true,beq_iff_eq,hne,false_or,hd,Option.isNone_some,Bool.false_eq_true,bne_iff_ne,ne_eq] at this
 exact fun e=>this e.symm
theorem getD_put_none (a:Act) (dst:Option Nat) (d:Nat) (v:Value) (h:dst≠some d):(a.put dst v).tmps.getD d undef=a.tmps.getD d undef:=by
 cases dst with
 | none=>rfl
 | some e =>
  have hne:e≠d:=fun h'=>h (by rw [h'])
  simp [Act.put,Array.getElem?_setIfInBounds,hne]
theorem Made.step {ops:Array Oper} {B:Nat} {listed:Array Bool} {i:Nat} {o:Oper} {z:Value} (h:Made ops B listed a) (hi:ops[i]?=some o) (hsz:∀ d,o.dst=some d→d<a.tmps.size) (hz:isA o=true→o.guard=none→∃ b off,z=.pointer (some ⟨b,off,none⟩)∧B≤b) :
  Made ops B (listed.setIfInBounds i true) (a.put o.dst z):=by
 intro hok j oj d hj hl ha hg hd
 by_cases e:i=j
 ·subst e
  rw [hi] at hj; injection hj with hj; subst hj
  obtain ⟨b,off,rfl,hb⟩:=hz ha hg
  refine ⟨b,off,?_,hb⟩
  rw [hd]
  exact (getD_put a d d _ (hsz d hd)).trans (if_pos rfl)
 ·rw [getD_set_ne true e] at hl
  obtain ⟨b,off,h1,h2⟩:=h hok j oj d hj hl ha hg hd
  exact ⟨b,off,by rw [getD_put_none a o.dst d z (dstOk_ne hok hj hi (Ne.symm e) hd)]; exact h1,h2⟩
theorem onlyQ_of {ops:Array Oper} {listed:Array Bool} {i:Nat} (h:onlyQ ops (listed.setIfInBounds i true)=true):onlyQ ops listed=true:=by
 unfold onlyQ at h ⊢
 rw [List.all_eq_true] at h ⊢
 intro j hj
 have:=h j hj
 by_cases e:i=j
 ·subst e
  rcases Nat.lt_or_ge i listed.size with hlt | hge
  ·simp only [Bool.or_eq_true,Bool.not_eq_true'] at this ⊢
   rcases this with h | h
   ·simp [hlt] at h
   ·exact .inr h
  ·rwa [Array.setIfInBounds_eq_of_size_le hge] at this
 ·rwa [getD_set_ne true e] at this
theorem onlyQ_at {ops:Array Oper} {listed:Array Bool} {i:Nat} {o:Oper} (hi:ops[i]?=some o) (h:onlyQ ops (listed.setIfInBounds i true)=true):isQ o=true:=by
 unfold onlyQ at h
 rw [List.all_eq_true] at h
 have:=h i (List.mem_range.2 (Array.getElem?_eq_some_iff.1 hi).1)
 simp only [hi,Bool.or_eq_true,Bool.not_eq_true'] at this
 rcases this with h | h
 ·rcases Nat.lt_or_ge i listed.size with hlt | hge
  ·simp [hlt] at h
  ·rw [Array.setIfInBounds_eq_of_size_le hge,Array.getD_eq_getD_getElem?,Array.getElem?_eq_none hge] at h; cases h
 ·exact h
theorem storeTo_ok {ops:Array Oper} {o:Oper} (h:storeTo ops o=true):dstOk ops=true∧∃ t d x,o.op=.store t (.tmp d) x∧∃ e∈o.after,Region.binds .any e=true∧∃ o',ops[e.on]?=some o'∧isA o'=true∧o'.guard=none∧o'.dst=some d:=by
 unfold storeTo at h
 split at h
 ·rename_i t d x hop
  simp only [Bool.and_eq_true] at h
  obtain ⟨h1,h2⟩:=h
  obtain ⟨e,he,hb⟩:=Array.any_eq_true'.1 h2
  simp only [Bool.and_eq_true] at hb
  obtain ⟨hb,hm⟩:=hb
  split at hm
  ·rename_i o' ho'
   simp only [Bool.and_eq_true,beq_iff_eq,Option.isNone_iff_eq_none] at hm
   exact ⟨h1,t,d,x,hop,e,he,hb,o',ho',hm.1.1,hm.1.2,hm.2⟩
  ·cases hm
 ·cases h
theorem After.grew {ops:Array Oper} {B i:Nat} {listed:Array Bool} {o:Oper} {z:Value} (h:After o a z w w') (hi:ops[i]?=some o) (hm:i∈Region.ready .any ops listed) (hM:Made ops B listed a) (hsz:w.heap.size≤w'.heap.size):Grew ops B i w w':=by
 refine ⟨hsz,?_⟩
 intro _ o' ho'
 rw [hi] at ho'; injection ho' with ho'; subst ho'
 refine ⟨h.calm,fun hs=>?_⟩
 obtain ⟨hok,t,d,x,hop,e,he,hb,o',ho',ha,hg,hd⟩:=storeTo_ok hs
 obtain ⟨_,o2,ho2,hall⟩:=mem_ready.1 hm
 rw [hi] at ho2; injection ho2 with ho2; subst ho2
 have hl:listed.getD e.on true=true:=by
  have h':=hall e he hb
  rw [Array.getD_eq_getD_getElem?] at h' ⊢
  cases hq:listed[e.on]? with
  | none=>rfl
  | some b=>rw [hq] at h'; exact h'
 obtain ⟨b,off,h1,h2⟩:=hM hok e.on o' d ho' hl ha hg hd
 exact h.store t d x B hop fun b' off' hb'=>by
  rw [h1] at hb'
  injection hb' with hb'
  injection hb' with hb'
  injection hb' with hb'
  omega
theorem consO_ok {q:Nat × Bool} {o:Option (List (Nat × Bool))} {l:List (Nat × Bool)} (h:consO q o=some l):∃ r,o=some r∧l=q::r:=by
 cases o with
 | none=>cases h
 | some r=>simp only [consO,Option.some.injEq] at h; exact ⟨r,rfl,h.symm⟩
theorem ready_lt {ops:Array Oper} {listed:Array Bool} {i:Nat} (h:i∈Region.ready .any ops listed):∃ o,ops[i]?=some o:=by
 obtain ⟨_,o,ho,_⟩:=mem_ready.1 h
 exact ⟨o,ho⟩
theorem evPlan_ok {B:Nat} {call:FuncId→List T→Option (T × Bool)} (hcall:CallOk P call) {ops:Array Oper} (hs:Region.noSelect ops=true) {k:St→R} {out:Nat × List D} {n:Nat} {Q:Act→World→Prop} {w0:World} (hops:∀ o∈ops.toList,∀ d,o.dst=some d→d<n)
  (hk:∀ σ' w' g' a' key',k σ'=some (key',some out)→Rel P w' g' base σ' a'→a'.tmps.size=n→Below base w0 w'→Q a' w') :
  ∀ (m:Nat) (listed:Array Bool) (l:List (Nat × Bool)) (σ:St) (w:World) (g:G) (a:Act) (key:Option Dom),plan ops m listed=some l→evPlanA P call ops l σ k=some (key,some out)→Rel P w g base σ a→a.tmps.size=n→Below base w0 w→B≤w.heap.size→(onlyQ ops listed=true→w.heap.size=B)→Made ops B listed a→Closed ops listed→wpAnyB P ops B Q m listed a w:=by
 intro m
 induction m using Nat.strongRecOn with
 | _ m ih0 =>
 cases m with
 | zero =>
  intro listed l σ w g a key hp h hr hn hb hBw hoq hM hcl
  unfold plan at hp
  split at hp
  ·rename_i hready
   simp only [Option.some.injEq] at hp
   subst hp
   exact ⟨hready,hk σ w g a key h hr hn hb⟩
  ·cases hp
 | succ m =>
  have ih:=ih0 m (Nat.lt_succ_self m)
  intro listed l σ w g a key hp h hr hn hb hBw hoq hM hcl
  unfold plan at hp
  split at hp
  ·rename_i hready
   simp only [Option.some.injEq] at hp
   subst hp
   exact ⟨fun _=>hk σ w g a key h hr hn hb,fun i hi=>by rw [hready] at hi; cases hi⟩
  ·rename_i j r hready
   have hops':∀ o∈ops.toList,∀ d,o.dst=some d→d<a.tmps.size:=fun o ho d hd=>by rw [hn]; exact hops o ho d hd
   split at hp
   ·rename_i i hfind
    obtain ⟨l',hp',rfl⟩:=consO_ok hp
    have hearly:=List.find?_some hfind
    have hmem:i∈Region.ready .any ops listed:=by rw [hready]; exact List.mem_of_find?_eq_some hfind
    obtain ⟨o,ho⟩:=ready_lt hmem
    have hfree:∃ B₀,B₀=w.heap.size∧isQ o=true∧∃ S,Waits ops listed i S∧∀ j oj,ops[j]?=some oj→j≠i→listed.getD j true=false→S j=false→(∀ e∈oj.after,Region.binds .any e=true→e.on≠i)→o.apart ops oj=true∧(calm oj=true∨storeTo ops oj=true∧B₀=B):=by
     have hearly:early ops listed i=true∨early0 ops listed i=true:=by simpa only [Bool.or_eq_true] using hearly
     rcases hearly with he | he
     ·obtain ⟨q1,S,qS,q2⟩:=early_ok ho he
      exact ⟨_,rfl,q1,S,qS,fun j oj h1 h2 h3 hs h4=>⟨(q2 j oj h1 h2 h3 hs h4).1,.inl (q2 j oj h1 h2 h3 hs h4).2⟩⟩
     ·obtain ⟨q1,q0,q2⟩:=early0_ok ho he
      refine ⟨_,rfl,q1,_,Waits.none,fun j oj h1 h2 h3 _ h4=>⟨(q2 j oj h1 h2 h3 h4).1,?_⟩⟩
      rcases (q2 j oj h1 h2 h3 h4).2 with h | h
      ·exact .inl h
      ·exact .inr ⟨h,hoq q0⟩
    obtain ⟨B₀,hB0,hisq,S,hS,hfree⟩:=hfree
    have hd:∀ d,o.dst=some d→d<a.tmps.size:=hops' o (by simpa using Array.mem_of_getElem? ho)
    have hnA:isA o=true→False:=fun ha=>by
     obtain ⟨dst,op,ty,pos,after,guard⟩:=o
     cases op <;> first | (simp [isQ] at hisq; done) | (simp [isA] at ha; done)
    unfold evPlanA at h
    simp only [ho] at h
    rcases evStepG_ok hr hops' hd h with ⟨hw,σ₂,key',hr2,h2⟩ | ⟨hw,σ₂,key',hr2,h2⟩
    ·simp only [cond_true] at h2
     unfold evYesQ at h2
     split at h2
     ·rename_i σ' ok he
      obtain ⟨hok,hcont⟩:=rneed_ok h2
      subst hok
      obtain ⟨z,hz,hrz⟩:=pure_ok hr2 hd he
      exact wpAnyB_first ho (Region.noSelect_spec hs) m listed a w hcl hS hfree (by omega) hmem (.inl ⟨hw,by rw [hB0]; exact fun w' h=>hz w' h⟩) (ih _ l' σ' w g _ key' hp' hcont hrz (by rw [put_size]; exact hn) hb hBw (fun hq=>hoq (onlyQ_of hq)) (hM.step ho hd fun ha _=>(hnA ha).elim) (hcl.step hmem))
     ·cases h2
    ·exact wpAnyB_first ho (Region.noSelect_spec hs) m listed a w hcl hS hfree (by omega) hmem (.inr ⟨hw,rfl⟩) (ih _ l' σ₂ w g _ key' hp' h2 hr2 (by rw [put_size]; exact hn) hb hBw (fun hq=>hoq (onlyQ_of hq)) (hM.step ho hd fun ha _=>(hnA ha).elim) (hcl.step hmem))
   ·split at hp
    ·obtain ⟨l',hp',rfl⟩:=consO_ok hp
     have hmem:j∈Region.ready .any ops listed:=by rw [hready]; simp
     obtain ⟨o,ho⟩:=ready_lt hmem
     have hd:∀ d,o.dst=some d→d<a.tmps.size:=hops' o (by simpa using Array.mem_of_getElem? ho)
     refine ⟨fun h0=>(by rw [hready] at h0; cases h0),fun i hi=>?_⟩
     have:i=j:=by rw [hready] at hi; simpa using hi
     subst this
     unfold evPlanA at h
     simp only [ho] at h
     unfold wpOp
     simp only [ho]
     rcases evStepG_ok hr hops' hd h with ⟨hw,σ₂,key',hr2,h2⟩ | ⟨hw,σ₂,key',hr2,h2⟩
     ·simp only [cond_false] at h2
      unfold evYesA at h2
      split at h2
      ·rename_i σ' ok he
       obtain ⟨hok,hcont⟩:=rneed_ok h2
       subst hok
       rw [if_pos hw]
       refine .inl (evOp_goesC hr2 (noW_ok hcall) (fun _ _ _ _ h=>noW_not h) hd he _ _ fun z w' g' h3 h4 h5=>⟨h5.grew ho hmem hM h4.size,ih _ l' σ' w' g' _ key' hp' hcont h3 (by rw [put_size]; exact hn) (hb.trans h4) (Nat.le_trans hBw h4.size) (fun hq=>?_) (hM.step ho hd fun ha _=>⟨_,_,h5.box ha,hBw⟩) (hcl.step hmem)⟩)
       rw [h5.pure (onlyQ_at ho hq)]
       exact hoq (onlyQ_of hq)
      ·cases hal:(isC o&&alone ops i) with
       | false=>rw [hal] at h2; cases h2
       | true =>
        rw [hal,cond_true] at h2
        rw [Bool.and_eq_true] at hal
        unfold evYes at h2
        split at h2
        ·rename_i σ' ok he
         obtain ⟨hok,hcont⟩:=rneed_ok h2
         subst hok
         rw [if_pos hw]
         obtain ⟨hnQ,hnA⟩:isQ o=false∧isA o=false:=by
          have hc:=hal.1
          obtain ⟨dst,op,ty,pos,after,guard⟩:=o
          cases op with
          | call c =>
           obtain ⟨callee,args,ts⟩:=c
           cases callee <;> first | (simp [isC] at hc; done) | exact ⟨rfl,rfl⟩
          | _=>simp [isC] at hc
         refine .inl (evOp_goes hr2 hcall hd he _ _ fun z w' g' h3 h4=>⟨⟨h4.size,fun h=>(by rw [hal.2] at h; cases h)⟩,ih _ l' σ' w' g' _ key' hp' hcont h3 (by rw [put_size]; exact hn) (hb.trans h4) ?_ (fun hq=>?_) (hM.step ho hd fun ha _=>by rw [hnA] at ha; cases ha) (hcl.step hmem)⟩)
         ·exact Nat.le_trans hBw h4.size
         ·have:=onlyQ_at ho hq
          rw [hnQ] at this
          cases this
        ·cases h2
     ·rw [if_neg (by simp [hw])]
      refine ⟨Grew.refl,ih _ l' σ₂ w g _ key' hp' h2 hr2 (by rw [put_size]; exact hn) hb hBw (fun hq=>hoq (onlyQ_of hq)) (hM.step ho hd fun ha hg=>?_) (hcl.step hmem)⟩
      unfold Region.wanted at hw
      rw [hg] at hw
      cases hw
    ·rename_i kk hf0
     cases hpo:pairOk ops listed j kk with
     | false=>rw [hpo] at hp; cases hp
     | true =>
      rw [hpo,cond_true] at hp
      obtain ⟨l',hp',rfl⟩:=consO_ok hp
      have hmj:j∈Region.ready .any ops listed:=by rw [hready]; simp
      have hmk:kk∈Region.ready .any ops listed:=by rw [hready]; simp
      obtain ⟨oj,hoj⟩:=ready_lt hmj
      obtain ⟨ok,hok⟩:=ready_lt hmk
      unfold pairOk at hpo
      simp only [hoj,hok,Bool.and_eq_true,beq_iff_eq,bne_iff_ne,ne_eq,Option.isNone_iff_eq_none] at hpo
      obtain ⟨⟨⟨⟨⟨⟨haj,hak⟩,hgj⟩,hgk⟩,hne⟩,hrj⟩,hrk⟩:=hpo
      obtain ⟨dj,tj,hopj,hdj⟩:=isA_eq haj
      obtain ⟨dk,tk,hopk,hdk⟩:=isA_eq hak
      have hdne:dj≠dk:=fun e=>hne (by rw [hdj,hdk,e])
      have hddj:∀ d,oj.dst=some d→d<a.tmps.size:=hops' oj (by simpa using Array.mem_of_getElem? hoj)
      have hddk:∀ d,ok.dst=some d→d<a.tmps.size:=hops' ok (by simpa using Array.mem_of_getElem? hok)
      -- the plan goes on with the other one
      cases m with
      | zero=>unfold plan at hp'; rw [hrj] at hp'; cases hp'
      | succ m =>
       have hp2:=hp'
       unfold plan at hp2
       rw [hrj] at hp2
       have hkj:kk≠j:=by
        intro e
        subst e
        rw [hoj] at hok
        injection hok with hok
        subst hok
        exact hne rfl
       have hnqj:isQ oj=false:=by
        obtain ⟨dst,op,ty,pos,after,guard⟩:=oj
        cases op <;> first | (simp [isA] at haj; done) | rfl
       have grewA:∀ {i:Nat} {o:Oper} {w w':World},ops[i]?=some o→isA o=true→Below w.heap.size w w'→Grew ops B i w w':=fun {i o w w'} ho ha hbb=>⟨hbb.size,fun _ o' ho'=>by
        rw [ho] at ho'; injection ho' with ho'; subst ho'
        refine ⟨fun _=>hbb,fun hst=>?_⟩
        obtain ⟨_,t,d,x,hop,_⟩:=storeTo_ok hst
        obtain ⟨d',t',hop',_⟩:=isA_eq ha
        rw [hop] at hop'; cases hop'⟩
       have hnq:isQ ok=false:=by
        obtain ⟨dst,op,ty,pos,after,guard⟩:=ok
        cases op <;> first | (simp [isA] at hak; done) | rfl
       have hfind:List.find? (fun i=>early ops (listed.setIfInBounds j true) i||early0 ops (listed.setIfInBounds j true) i) [kk]=none:=by
        simp [List.find?_cons,early,early0,earlyT,hok,hnq]
       simp only [hfind] at hp2
       obtain ⟨l2,hp3,rfl⟩:=consO_ok hp2
       obtain ⟨σ1,e1,key1,h1⟩:=plan_alloc hoj hopj hdj hgj h
       obtain ⟨σ2,e2,key2,h2⟩:=plan_alloc hok hopk hdk hgk h1
       obtain ⟨rowj,rfl,aj⟩:=evAlloc_eq e1
       obtain ⟨rowk,rfl,ak⟩:=evAlloc_eq e2
       have hwj:Region.wanted oj (yielded ops a.tmps)=true:=by unfold Region.wanted; rw [hgj]
       have hwk:Region.wanted ok (yielded ops a.tmps)=true:=by unfold Region.wanted; rw [hgk]
       refine ⟨fun h0=>(by rw [hready] at h0; cases h0),fun i hi=>?_⟩
       have hi:i=j∨i=kk:=by rw [hready] at hi; simpa using hi
       rcases hi with rfl | rfl
       ·unfold wpOp
        simp only [hoj]
        rw [if_pos hwj]
        refine .inl ?_
        obtain ⟨z,w',g',q1,q2,q3,q4,q5⟩:=evAlloc_okB hr hopj hdj hddj e1
        unfold Oper.wp
        rw [q1]
        exact ⟨grewA hoj haj q4,ih _ _ _ w' g' _ key1 hp' h1 q2 (by rw [put_size]; exact hn) (hb.trans q3) (Nat.le_trans hBw q3.size) (fun hq=>absurd (onlyQ_at hoj hq) (by rw [hnqj]; exact Bool.false_ne_true)) (hM.step hoj hddj fun _ _=>⟨_,_,q5,hBw⟩) (hcl.step hmj)⟩
       ·unfold wpOp
        simp only [hok]
        rw [if_pos hwk]
        refine .inl ?_
        obtain ⟨z,w',g',q1,q2,q3,q4,q5⟩:=evAlloc_okB hr hopk hdk hddk (ak σ)
        unfold Oper.wp
        rw [q1]
        refine ⟨grewA hok hak q4,fun h0=>(by rw [hrk] at h0; cases h0),fun i' hi'=>?_⟩
        have:i'=j:=by rw [hrk] at hi'; simpa using hi'
        subst this
        have hwj':Region.wanted oj (yielded ops (a.put ok.dst z).tmps)=true:=by unfold Region.wanted; rw [hgj]
        unfold wpOp
        simp only [hoj]
        rw [if_pos hwj']
        refine .inl ?_
        obtain ⟨z2,w2,g2,r1,r2,r3,r4,r5⟩:=evAlloc_okB q2 hopj hdj (fun d hd=>by rw [put_size]; exact hddj d hd) (aj _)
        unfold Oper.wp
        rw [r1]
        have hM1:=hM.step hok hddk (z:=z) fun _ _=>⟨_,_,q5,hBw⟩
        have hM2:=hM1.step hoj (fun d hd=>by rw [put_size]; exact hddj d hd) (z:=z2) fun _ _=>⟨_,_,r5,Nat.le_trans hBw q3.size⟩
        refine ⟨grewA hoj haj r4,?_⟩
        rw [Array.setIfInBounds_comm _ _ hkj]
        exact ih0 m (by omega) _ l2 _ w2 g2 _ key2 hp3 h2 (r2.same (alloced_swap _ _ σ hdne rowj rowk)) (by rw [put_size,put_size]; exact hn) ((hb.trans q3).trans r3) (Nat.le_trans (Nat.le_trans hBw q3.size) r3.size) (fun hq=>absurd (onlyQ_at hok hq) (by rw [hnq]; exact Bool.false_ne_true)) (by rw [Array.setIfInBounds_comm _ _ hkj] at hM2; exact hM2) ((hcl.step hmj).step (by rw [hrj]; simp))
    ·cases hp
theorem wp_imp {o:Oper} {a:Act} {w:World} {K K':Act→World→Prop} {Q Q':Exit→Act→World→Prop} (hQ:∀ e a w,Q e a w→Q' e a w) (hK:∀ a w,K a w→K' a w) (hh:o.wp P a w K Q):o.wp P a w K' Q':=by
 unfold Oper.wp at *
 generalize (execOp a.eval o).run P w=r at *
 cases r with
 | ok n w' =>
  cases n <;> simp only [Oper.upon] at hh ⊢
  case value=>exact hK _ _ hh
  case skip=>exact hK _ _ hh
  case defer=>exact hK _ _ hh
  case enter =>
   refine Calls.mono hh fun e w'' he=>?_
   cases e with
   | returned v=>exact hK _ _ he
   | panicked c=>exact hQ _ _ _ he
   | outgrown=>obtain ⟨x,y,h⟩:=he; exact ⟨x,y,hQ _ _ _ h⟩
  case row=>exact Rows.mono hh fun _ _ he=>hK _ _ he
 | halt x w' =>
  cases x <;> simp only [Oper.upon] at hh ⊢ <;> first | exact hh.elim | exact hQ _ _ _ hh
theorem wpOp_imp {ops:Array Oper} {i:Nat} {a:Act} {w:World} {K K':Act→World→Prop} {Q Q':Exit→Act→World→Prop} (hQ:∀ e a w,Q e a w→Q' e a w) (hK:∀ a w,K a w→K' a w) (hh:wpOp P ops Q i K a w):wpOp P ops Q' i K' a w:=by
 unfold wpOp at *
 split
 ·exact hK _ _ (by simpa [*] using hh)
 ·rename_i o ho
  simp only [ho] at hh
  split
  ·rename_i hw
   simp only [hw,if_true] at hh
   rcases hh with hh | ⟨x,y,z,hl⟩
   ·exact .inl (wp_imp hQ hK hh)
   ·exact .inr ⟨x,y,z,hQ _ _ _ hl⟩
  ·rename_i hw; simp only [hw] at hh; exact hK _ _ hh
theorem wpAny_imp {ops:Array Oper} {Q Q':Exit→Act→World→Prop} (hQ:∀ e a w,Q e a w→Q' e a w):∀ (n:Nat) (listed:Array Bool) (a:Act) (w:World),wpAny P .any ops Q n listed a w→wpAny P .any ops Q' n listed a w
 | 0,_,_,_,h=>⟨h.1,hQ _ _ _ h.2⟩
 | n+1,_,_,_,h=>⟨fun h0=>hQ _ _ _ (h.1 h0),fun i hi=>wpOp_imp hQ (fun a' w' h'=>wpAny_imp hQ n _ a' w' h') (h.2 i hi)⟩
def QN (Q:Act→World→Prop):Exit→Act→World→Prop
 | .normal,a,w=>Q a w
 | _,_,_=>False
theorem evPlan0_ok {call:FuncId→List T→Option (T × Bool)} (hcall:CallOk P call) {ops:Array Oper} (hs:Region.noSelect ops=true) (hml:memless ops=true) {k:St→R} {out:Nat × List D} {n:Nat} {Q:Act→World→Prop} {w0:World} (hops:∀ o∈ops.toList,∀ d,o.dst=some d→d<n)
  (hk:∀ σ' w' g' a' key',k σ'=some (key',some out)→Rel P w' g' base σ' a'→a'.tmps.size=n→Below base w0 w'→Q a' w') :
  ∀ (m:Nat) (listed:Array Bool) (l:List (Nat × Bool)) (σ:St) (w:World) (g:G) (a:Act) (key:Option Dom),plan ops m listed=some l→evPlan P call ops l σ k=some (key,some out)→Rel P w g base σ a→a.tmps.size=n→Below base w0 w→wpAny P .any ops (QN Q) m listed a w:=by
 intro m
 induction m with
 | zero =>
  intro listed l σ w g a key hp h hr hn hb
  unfold plan at hp
  split at hp
  ·rename_i hready
   simp only [Option.some.injEq] at hp
   subst hp
   exact ⟨hready,hk σ w g a key h hr hn hb⟩
  ·cases hp
 | succ m ih =>
  intro listed l σ w g a key hp h hr hn hb
  unfold plan at hp
  split at hp
  ·rename_i hready
   simp only [Option.some.injEq] at hp
   subst hp
   exact ⟨fun _=>hk σ w g a key h hr hn hb,fun i hi=>by rw [hready] at hi; cases hi⟩
  ·rename_i j r hready
   have hops':∀ o∈ops.toList,∀ d,o.dst=some d→d<a.tmps.size:=fun o ho d hd=>by rw [hn]; exact hops o ho d hd
   have hmem0:∀ {i:Nat} {o:Oper},ops[i]?=some o→noMem o=true∨isC o=true:=fun {i o} ho=>by
    have:=List.all_eq_true.1 hml o (by simpa using Array.mem_of_getElem? ho)
    simpa using this
   split at hp
   ·rename_i i hfind
    obtain ⟨l',hp',rfl⟩:=consO_ok hp
    have hearly:=List.find?_some hfind
    have hmem:i∈Region.ready .any ops listed:=by rw [hready]; exact List.mem_of_find?_eq_some hfind
    obtain ⟨o,ho⟩:=ready_lt hmem
    have hfree:isQ o=true∧∀ j oj,ops[j]?=some oj→j≠i→listed.getD j true=false→(∀ e∈oj.after,Region.binds .any e=true→e.on≠i)→o.apart ops oj=true:=by
     have hearly:early ops listed i=true∨early0 ops listed i=true:=by simpa only [Bool.or_eq_true] using hearly
     rcases hearly with he | he
     ·exact early_okM hml ho he
     ·obtain ⟨q1,q0,q2⟩:=early0_ok ho he
      exact ⟨q1,fun j oj h1 h2 h3 h4=>(q2 j oj h1 h2 h3 h4).1⟩
    obtain ⟨hisq,hfree⟩:=hfree
    have hnm:noMem o=true:=by
     rcases hmem0 ho with h' | h'
     ·exact h'
     ·exfalso
      obtain ⟨dst,op,ty,pos,after,guard⟩:=o
      cases op with
      | call c =>
       obtain ⟨callee,args,ts⟩:=c
       cases callee <;> first | (simp [isC] at h'; done) | (simp [isQ] at hisq; done)
      | _=>simp [isC] at h'
    have hd:∀ d,o.dst=some d→d<a.tmps.size:=hops' o (by simpa using Array.mem_of_getElem? ho)
    unfold evPlan at h
    simp only [ho] at h
    rcases evStepG_ok hr hops' hd h with ⟨hw,σ₂,key',hr2,h2⟩ | ⟨hw,σ₂,key',hr2,h2⟩
    ·simp only [cond_true] at h2
     unfold evYesQ at h2
     split at h2
     ·rename_i σ' ok he
      obtain ⟨hok,hcont⟩:=rneed_ok h2
      subst hok
      obtain ⟨z,hz,hrz⟩:=pure_ok hr2 hd he
      exact wpAny_first ho (Region.noSelect_spec hs) (fun c a w h=>h) m listed a w hfree hmem (.inl ⟨hw,fun w'=>hz w' (.inr hnm)⟩) (ih _ l' σ' w g _ key' hp' hcont hrz (by rw [put_size]; exact hn) hb)
     ·cases h2
    ·exact wpAny_first ho (Region.noSelect_spec hs) (fun c a w h=>h) m listed a w hfree hmem (.inr ⟨hw,rfl⟩) (ih _ l' σ₂ w g _ key' hp' h2 hr2 (by rw [put_size]; exact hn) hb)
   ·split at hp
    ·obtain ⟨l',hp',rfl⟩:=consO_ok hp
     have hmem:j∈Region.ready .any ops listed:=by rw [hready]; simp
     obtain ⟨o,ho⟩:=ready_lt hmem
     have hd:∀ d,o.dst=some d→d<a.tmps.size:=hops' o (by simpa using Array.mem_of_getElem? ho)
     refine ⟨fun h0=>(by rw [hready] at h0; cases h0),fun i hi=>?_⟩
     have:i=j:=by rw [hready] at hi; simpa using hi
     subst this
     unfold evPlan at h
     simp only [ho] at h
     unfold wpOp
     simp only [ho]
     rcases evStepG_ok hr hops' hd h with ⟨hw,σ₂,key',hr2,h2⟩ | ⟨hw,σ₂,key',hr2,h2⟩
     ·simp only [cond_false] at h2
      unfold evYes at h2
      split at h2
      ·rename_i σ' ok he
       obtain ⟨hok,hcont⟩:=rneed_ok h2
       subst hok
       rw [if_pos hw]
       exact .inl (evOp_goes hr2 hcall hd he _ _ fun z w' g' h3 h4=>ih _ l' σ' w' g' _ key' hp' hcont h3 (by rw [put_size]; exact hn) (hb.trans h4))
      ·cases h2
     ·rw [if_neg (by simp [hw])]
      exact ih _ l' σ₂ w g _ key' hp' h2 hr2 (by rw [put_size]; exact hn) hb
    ·rename_i kk hf0
     cases hpo:pairOk ops listed j kk with
     | false=>rw [hpo] at hp; cases hp
     | true =>
      exfalso
      have hmj:j∈Region.ready .any ops listed:=by rw [hready]; simp
      obtain ⟨oj,hoj⟩:=ready_lt hmj
      have hmk:kk∈Region.ready .any ops listed:=by rw [hready]; simp
      obtain ⟨ok,hok⟩:=ready_lt hmk
      unfold pairOk at hpo
      simp only [hoj,hok,Bool.and_eq_true] at hpo
      obtain ⟨⟨⟨⟨⟨⟨haj,_⟩,_⟩,_⟩,_⟩,_⟩,_⟩:=hpo
      obtain ⟨dj,tj,hopj,_⟩:=isA_eq haj
      have:=hmem0 hoj
      obtain ⟨dst,op,ty,pos,after,guard⟩:=oj
      simp only at hopj
      subst hopj
      simp [noMem,isC] at this
    ·cases hp
theorem consAll_ok {q:Nat × Bool} {o:Option (List (List (Nat × Bool)))} {ls:List (List (Nat × Bool))} (h:consAll q o=some ls):∃ l r,o=some (l::r)∧ls=(l::r).map (q :: ·):=by
 unfold consAll at h
 split at h
 ·cases h
 ·rename_i l r; injection h with h; exact ⟨l,r,rfl,h.symm⟩
 ·cases h
theorem appAll_ok {a b:Option (List (List (Nat × Bool)))} {ls:List (List (Nat × Bool))} (h:appAll a b=some ls):∃ x y,a=some x∧b=some y∧ls=x++y:=by
 unfold appAll at h
 split at h
 ·rename_i x y; injection h with h; exact ⟨x,y,rfl,rfl,h.symm⟩
 ·cases h
theorem fold_ok {f:Nat→Option (List (List (Nat × Bool)))}:∀ {js:List Nat} {ls:List (List (Nat × Bool))},js.foldr (fun i acc=>appAll (consAll (i,false) (f i)) acc) (some [])=some ls→∀ i∈js,∃ l r,f i=some (l::r)∧∀ x∈(l::r),((i,false)::x)∈ls
 | [],ls,h,i,hi=>by cases hi
 | j::js,ls,h,i,hi=>by
  obtain ⟨x,y,h1,h2,rfl⟩:=appAll_ok h
  obtain ⟨l,r,h3,rfl⟩:=consAll_ok h1
  rcases List.mem_cons.1 hi with rfl | hi
  ·exact ⟨l,r,h3,fun x hx=>List.mem_append.2 (.inl (List.mem_map.2 ⟨x,hx,rfl⟩))⟩
  ·obtain ⟨l',r',h4,h5⟩:=fold_ok h2 i hi
   exact ⟨l',r',h4,fun x hx=>List.mem_append.2 (.inr (h5 x hx))⟩
theorem evS_cons {call:FuncId→List T→Option (T × Bool)} {ops:Array Oper} {i:Nat} {q:Bool} {l:List (Nat × Bool)} {o:Oper} (ho:ops[i]?=some o) {τ:St} (h:evS P call ops ((i,q)::l) σ=some (τ,true)) :
  (want ops σ o=.yes∧∃ σ',(bif q then evPure P σ o else evOp P call σ o)=some (σ',true)∧evS P call ops l σ'=some (τ,true))∨(want ops σ o=.no∧evS P call ops l (σ.put o.dst .none_)=some (τ,true)):=by
 unfold evS at h
 simp only [ho] at h
 split at h
 ·rename_i hw
  split at h
  ·rename_i σ' ok he
   split at h
   ·rename_i τ' ok' he'
    simp only [Option.some.injEq,Prod.mk.injEq,Bool.and_eq_true] at h
    obtain ⟨rfl,rfl,rfl⟩:=h
    exact .inl ⟨hw,σ',he,he'⟩
   ·cases h
  ·cases h
 ·rename_i hw; exact .inr ⟨hw,h⟩
 ·cases h
theorem orders_ok {call:FuncId→List T→Option (T × Bool)} (hcall:CallOk P call) (hnw:∀ f args r ok,call f args=some (r,ok)→r.sh.isW=false) {ops:Array Oper} (hs:Region.noSelect ops=true) {F:St→Prop} {n B:Nat} {Q:Act→World→Prop} {w0:World} (hops:∀ o∈ops.toList,∀ d,o.dst=some d→d<n)
  (hk:∀ σ' w' g' a',F σ'→Rel P w' g' base σ' a'→a'.tmps.size=n→Below base w0 w'→Q a' w') :
  ∀ (m:Nat) (listed:Array Bool) (ls:List (List (Nat × Bool))) (σ:St) (w:World) (g:G) (a:Act),orders ops m listed=some ls→(∀ l∈ls,∃ τ,evS P call ops l σ=some (τ,true)∧F τ)→Rel P w g base σ a→a.tmps.size=n→Below base w0 w→B≤w.heap.size→(onlyQ ops listed=true→w.heap.size=B)→Made ops B listed a→Closed ops listed→wpAnyB P ops B Q m listed a w:=by
 intro m
 induction m with
 | zero =>
  intro listed ls σ w g a hp h hr hn hb hBw hoq hM hcl
  unfold orders at hp
  split at hp
  ·rename_i hready
   injection hp with hp
   subst hp
   obtain ⟨τ,h1,h2⟩:=h [] (by simp)
   injection h1 with h1
   injection h1 with h1 _
   subst h1
   exact ⟨hready,hk _ w g a h2 hr hn hb⟩
  ·cases hp
 | succ m ih =>
  intro listed ls σ w g a hp h hr hn hb hBw hoq hM hcl
  have hops':∀ o∈ops.toList,∀ d,o.dst=some d→d<a.tmps.size:=fun o ho d hd=>by rw [hn]; exact hops o ho d hd
  unfold orders at hp
  split at hp
  ·rename_i hready
   injection hp with hp
   subst hp
   obtain ⟨τ,h1,h2⟩:=h [] (by simp)
   injection h1 with h1
   injection h1 with h1 _
   subst h1
   exact ⟨fun _=>hk _ w g a h2 hr hn hb,fun i hi=>by rw [hready] at hi; cases hi⟩
  ·rename_i j r hready
   split at hp
   ·rename_i i hfind
    obtain ⟨l0,r0,hp',rfl⟩:=consAll_ok hp
    have hearly:=List.find?_some hfind
    have hmem:i∈Region.ready .any ops listed:=by rw [hready]; exact List.mem_of_find?_eq_some hfind
    obtain ⟨o,ho⟩:=ready_lt hmem
    have hfree:∃ B₀,B₀=w.heap.size∧isQ o=true∧∃ S,Waits ops listed i S∧∀ j oj,ops[j]?=some oj→j≠i→listed.getD j true=false→S j=false→(∀ e∈oj.after,Region.binds .any e=true→e.on≠i)→o.apart ops oj=true∧(calm oj=true∨storeTo ops oj=true∧B₀=B):=by
     have hearly:early ops listed i=true∨early0 ops listed i=true:=by simpa only [Bool.or_eq_true] using hearly
     rcases hearly with he | he
     ·obtain ⟨q1,S,qS,q2⟩:=early_ok ho he
      exact ⟨_,rfl,q1,S,qS,fun j oj h1 h2 h3 hs h4=>⟨(q2 j oj h1 h2 h3 hs h4).1,.inl (q2 j oj h1 h2 h3 hs h4).2⟩⟩
     ·obtain ⟨q1,q0,q2⟩:=early0_ok ho he
      refine ⟨_,rfl,q1,_,Waits.none,fun j oj h1 h2 h3 _ h4=>⟨(q2 j oj h1 h2 h3 h4).1,?_⟩⟩
      rcases (q2 j oj h1 h2 h3 h4).2 with h | h
      ·exact .inl h
      ·exact .inr ⟨h,hoq q0⟩
    obtain ⟨B₀,hB0,hisq,S,hS,hfree⟩:=hfree
    have hd:∀ d,o.dst=some d→d<a.tmps.size:=hops' o (by simpa using Array.mem_of_getElem? ho)
    have hnA:isA o=true→False:=fun ha=>by
     obtain ⟨dst,op,ty,pos,after,guard⟩:=o
     cases op <;> first | (simp [isQ] at hisq; done) | (simp [isA] at ha; done)
    have hh:∀ l∈(l0::r0),∃ τ,evS P call ops ((i,true)::l) σ=some (τ,true)∧F τ:=fun l hl=>h _ (List.mem_map.2 ⟨l,hl,rfl⟩)
    have hw:=want_ok hr hops' (o:=o)
    obtain ⟨τ0,e0,_⟩:=hh l0 (by simp)
    rcases evS_cons ho e0 with ⟨hq,σ',he,_⟩ | ⟨hq,_⟩
    ·rw [hq] at hw
     rw [cond_true] at he
     obtain ⟨z,hz,hrz⟩:=pure_ok hr hd he
     refine wpAnyB_first ho (Region.noSelect_spec hs) m listed a w hcl hS hfree (by omega) hmem (.inl ⟨hw,by rw [hB0]; exact fun w' h=>hz w' h⟩) (ih _ _ σ' w g _ hp' (fun l hl=>?_) hrz (by rw [put_size]; exact hn) hb hBw (fun hq=>hoq (onlyQ_of hq)) (hM.step ho hd fun ha _=>(hnA ha).elim) (hcl.step hmem))
     obtain ⟨τ,e,hF⟩:=hh l hl
     rcases evS_cons ho e with ⟨_,σ'',he',e'⟩ | ⟨hq',_⟩
     ·rw [cond_true,he] at he'
      injection he' with he'; injection he' with he' _
      subst he'
      exact ⟨τ,e',hF⟩
     ·rw [hq] at hq'; cases hq'
    ·rw [hq] at hw
     refine wpAnyB_first ho (Region.noSelect_spec hs) m listed a w hcl hS hfree (by omega) hmem (.inr ⟨hw,rfl⟩) (ih _ _ _ w g _ hp' (fun l hl=>?_) (hr.put hd (t:=.none_) ⟨#[],rfl,rfl,fun j x h=>by simp at h⟩) (by rw [put_size]; exact hn) hb hBw (fun hq=>hoq (onlyQ_of hq)) (hM.step ho hd fun ha _=>(hnA ha).elim) (hcl.step hmem))
     obtain ⟨τ,e,hF⟩:=hh l hl
     rcases evS_cons ho e with ⟨hq',_⟩ | ⟨_,e'⟩
     ·rw [hq] at hq'; cases hq'
     ·exact ⟨τ,e',hF⟩
   ·refine ⟨fun h0=>(by rw [hready] at h0; cases h0),fun i hi=>?_⟩
    have hi':i∈j::r:=by rw [hready] at hi; exact hi
    obtain ⟨l0,r0,hp',hsub⟩:=fold_ok hp i hi'
    obtain ⟨o,ho⟩:=ready_lt hi
    have hd:∀ d,o.dst=some d→d<a.tmps.size:=hops' o (by simpa using Array.mem_of_getElem? ho)
    have hh:∀ l∈(l0::r0),∃ τ,evS P call ops ((i,false)::l) σ=some (τ,true)∧F τ:=fun l hl=>h _ (hsub l hl)
    have hw:=want_ok hr hops' (o:=o)
    obtain ⟨τ0,e0,_⟩:=hh l0 (by simp)
    unfold wpOp
    simp only [ho]
    rcases evS_cons ho e0 with ⟨hq,σ',he,_⟩ | ⟨hq,_⟩
    ·rw [hq] at hw
     rw [cond_false] at he
     rw [if_pos hw]
     refine .inl (evOp_goesC hr hcall hnw hd he _ _ fun z w' g' h3 h4 h5=>⟨h5.grew ho hi hM h4.size,ih _ _ σ' w' g' _ hp' (fun l hl=>?_) h3 (by rw [put_size]; exact hn) (hb.trans h4) (Nat.le_trans hBw h4.size) (fun hq=>?_) (hM.step ho hd fun ha _=>⟨_,_,h5.box ha,hBw⟩) (hcl.step hi)⟩)
     ·obtain ⟨τ,e,hF⟩:=hh l hl
      rcases evS_cons ho e with ⟨_,σ'',he',e'⟩ | ⟨hq',_⟩
      ·rw [cond_false,he] at he'
       injection he' with he'; injection he' with he' _
       subst he'
       exact ⟨τ,e',hF⟩
      ·rw [hq] at hq'; cases hq'
     ·rw [h5.pure (onlyQ_at ho hq)]
      exact hoq (onlyQ_of hq)
    ·rw [hq] at hw
     rw [if_neg (by simp [hw])]
     refine ⟨Grew.refl,ih _ _ _ w g _ hp' (fun l hl=>?_) (hr.put hd (t:=.none_) ⟨#[],rfl,rfl,fun j x h=>by simp at h⟩) (by rw [put_size]; exact hn) hb hBw (fun hq=>hoq (onlyQ_of hq)) (hM.step ho hd fun ha hg=>?_) (hcl.step hi)⟩
     ·obtain ⟨τ,e,hF⟩:=hh l hl
      rcases evS_cons ho e with ⟨hq',_⟩ | ⟨_,e'⟩
      ·rw [hq] at hq'; cases hq'
      ·exact ⟨τ,e',hF⟩
     ·unfold Region.wanted at hw
      rw [hg] at hw
      cases hw
theorem look_absent:∀ {e:Env} {i:Nat},i ∉ e.map (·.1)→look i e=.any
 | [],_,_=>rfl
 | (j,v)::e,i,h=>by
  simp only [List.map_cons,List.mem_cons,not_or] at h
  rw [look,show (i==j)=false from by simpa using h.1,cond_false]
  exact look_absent h.2
theorem look2_absent:∀ {r e:Env} {i:Nat},i ∉ r.map (·.1)→i ∉ e.map (·.1)→look2 i e r=.any
 | [],_,_,_,h=>look_absent h
 | (j,v)::r,e,i,h,h'=>by
  simp only [List.map_cons,List.mem_cons,not_or] at h
  rw [look2,show (i==j)=false from by simpa using h.1,cond_false]
  exact look2_absent h.2 h'
theorem hlook_absent:∀ {h:Boxes} {i:Nat},i ∉ h.map (·.1)→hlook i h=none
 | [],_,_=>rfl
 | (j,v)::e,i,h=>by
  simp only [List.map_cons,List.mem_cons,not_or] at h
  rw [hlook,show (i==j)=false from by simpa using h.1,cond_false]
  exact hlook_absent h.2
theorem map_eq_at {α β:Type} {f f':α→β}:∀ {l:List α},l.map f=l.map f'→∀ x∈l,f x=f' x
 | [],_,x,hx=>by cases hx
 | y::l,h,x,hx=>by
  simp only [List.map_cons,List.cons.injEq] at h
  rcases List.mem_cons.1 hx with rfl | hx
  ·exact h.1
  ·exact map_eq_at h.2 x hx
theorem same_of {σ τ:St} (h1:sameSh σ τ=true) (h2:sameP (pays σ τ) (paysAs σ τ)=true):Same τ σ:=by
 have h2:pays σ τ=paysAs σ τ:=by
  unfold sameP at h2
  exact @of_decide_eq_true _ (Classical.propDecidable _) h2
 unfold sameSh at h1
 simp only [Bool.and_eq_true,List.all_eq_true] at h1
 obtain ⟨s1,s2⟩:=h1
 unfold pays paysAs at h2
 have hlen:∀ {α β:Type} (f f':α→β) (l:List α),(l.map f).length=(l.map f').length:=fun f f' l=>by simp
 obtain ⟨p1,p2⟩:=List.append_inj h2 (hlen _ _ _)
 refine ⟨fun i=>?_,fun i=>?_⟩
 ·by_cases hi:i∈allTmps σ τ
  ·have e1:=s1 i hi
   have e1:(look2 i σ.e σ.r).sh=(look2 i τ.e τ.r).sh:=by simpa using e1
   have e2:=map_eq_at p1 i hi
   generalize look2 i σ.e σ.r=u at *
   generalize look2 i τ.e τ.r=v at *
   cases u; cases v; simp_all
  ·simp only [allTmps,List.mem_eraseDups,List.mem_append,not_or] at hi
   rw [look2_absent hi.1.1 hi.1.2,look2_absent hi.2.1 hi.2.2]
 ·by_cases hi:i∈allBoxes σ τ
  ·have e1:=s2 i hi
   have e1:(hlook i σ.h).map (·.1)=(hlook i τ.h).map (·.1):=by simpa using e1
   have e2:=map_eq_at p2 i hi
   cases hu:hlook i σ.h with
   | none =>
    rw [hu] at e1
    cases hv:hlook i τ.h with
    | none=>rfl
    | some v=>rw [hv] at e1; cases e1
   | some u =>
    rw [hu] at e1 e2
    cases hv:hlook i τ.h with
    | none=>rw [hv] at e1; cases e1
    | some v =>
     rw [hv] at e1 e2
     simp only [Option.map_some,Option.some.injEq,Option.getD_some] at e1 e2
     obtain ⟨u1,u2⟩:=u
     obtain ⟨v1,v2⟩:=v
     simp_all
  ·simp only [allBoxes,List.mem_eraseDups,List.mem_append,not_or] at hi
   rw [hlook_absent hi.1,hlook_absent hi.2]
theorem evRest_ok {call:FuncId→List T→Option (T × Bool)} {ops:Array Oper} {σ0:St} {r:R} {out:Nat × List D}:∀ {ls:List (List (Nat × Bool))} {key:Option Dom},evRest P call ops σ σ0 ls r=some (key,some out) →
  r=some (key,some out)∧∀ l∈ls,∃ τ,evS P call ops l σ=some (τ,true)∧Same τ σ0
 | [],key,h=>⟨h,fun l hl=>by cases hl⟩
 | l::ls,key,h=>by
  unfold evRest at h
  split at h
  ·rename_i τ ok he
   cases hsh:sameSh σ0 τ with
   | false=>rw [hsh] at h; cases h
   | true =>
    rw [hsh,cond_true] at h
    obtain ⟨hok,hcont⟩:=rneed_ok h
    simp only [Bool.and_eq_true] at hok
    obtain ⟨rfl,hp⟩:=hok
    obtain ⟨h1,h2⟩:=evRest_ok hcont
    exact ⟨h1,fun l' hl=>by
     rcases List.mem_cons.1 hl with rfl | hl
     ·exact ⟨τ,he,same_of hsh hp⟩
     ·exact h2 l' hl⟩
  ·cases h
theorem low_drawn (hr:Rel P w g base σ a):Rel P { w with drawn:=w.drawn+1 } g base σ a:=by
 have hE:Ext (some 0) g g w { w with drawn:=w.drawn+1 }:=⟨Nat.le_refl _,fun _ _=>rfl,fun _ _=>⟨rfl,rfl,rfl,rfl⟩,fun _ _=>rfl,fun _ _=>rfl,fun _ _=>rfl,fun _ _=>⟨rfl,rfl⟩,rfl,fun _ _ _ h=>.inr h⟩
 have hE':Ext none g g w { w with drawn:=w.drawn+1 }:=⟨Nat.le_refl _,fun _ _=>rfl,fun _ _=>⟨rfl,rfl,rfl,rfl⟩,fun _ _=>rfl,fun _ _=>rfl,fun _ _=>rfl,fun _ _=>⟨rfl,rfl⟩,rfl,fun _ _ _ h=>.inr h⟩
 have hk:Kept P base g g w { w with drawn:=w.drawn+1 } (fun c=>c):=by
  intro c x v hv
  cases c with
  | any=>trivial
  | d s=>exact hE'.vd hv
  | kb b=>exact hv
  | own t xm e =>
   obtain ⟨row,hrow,hown⟩:=hv
   exact ⟨row,hrow,hE'.own (by intro e; cases e) hown⟩
  | ptr id off=>exact hv
  | eptr tk e off=>cases tk with
   | none =>
    obtain ⟨row,b,o,h1,h2,h3,h4⟩:=hv
    exact ⟨row,b,o,h1,h2,h3,fun j s hs=>by
     obtain ⟨u,k1,k2,k3⟩:=h4 j s hs
     exact ⟨u,k1,k2,hE'.vd k3⟩⟩
   | some t =>
    obtain ⟨row,h1,h2,h3,u,h4⟩:=hv
    exact ⟨row,h1,h2,h3,u,hE'.own (by intro e; cases e) h4⟩
  | inn t e off ei=>exact inn_mono hv rfl (fun o _ ho=>ho) (fun hu=>hE'.own (by intro e; cases e) hu)
  | cptr cells off=>exact hE'.cptr hr.base_le hv
  | fn f caps =>
   obtain ⟨arr,h1,h2,h3⟩:=hv
   refine ⟨arr,h1,h2,fun j c hc=>?_⟩
   obtain ⟨u,hu,hcap⟩:=h3 j c hc
   refine ⟨u,hu,?_⟩
   cases c with
   | d s=>exact hE'.vd hcap
   | ptr id off=>exact hcap
   | cptr cells off=>exact hE'.cptr hr.base_le hcap
 refine ⟨fun i=>hk.vt' (hr.env i),fun id cs ds h=>?_,hr.fresh,hr.base_le,hr.defers,hr.low,hr.mine⟩
 obtain ⟨k1,k2,k3,kl,arr,E,k4,k5⟩:=hr.box id cs ds h
 have:=hk.vcs k5
 rw [List.map_id'] at this
 exact ⟨k1,k2,k3,kl,arr,E,k4,this⟩
theorem orders0_ok {call:FuncId→List T→Option (T × Bool)} (hcall:CallOk P call) {ops:Array Oper} (hs:Region.noSelect ops=true) {F:St→Prop} {n:Nat} {Q:Act→World→Prop} {w0:World} (hops:∀ o∈ops.toList,∀ d,o.dst=some d→d<n)
  (hk:∀ σ' w' g' a',F σ'→Rel P w' g' base σ' a'→a'.tmps.size=n→Below base w0 w'→Q a' w') :
  ∀ (m:Nat) (listed:Array Bool) (ls:List (List (Nat × Bool))) (σ:St) (w:World) (g:G) (a:Act),orders0 ops m listed=some ls→(∀ l∈ls,∃ τ,evS P call ops l σ=some (τ,true)∧F τ)→Rel P w g base σ a→a.tmps.size=n→Below base w0 w→wpAny P .any ops (QN Q) m listed a w:=by
 intro m
 induction m with
 | zero =>
  intro listed ls σ w g a hp h hr hn hb
  unfold orders0 at hp
  split at hp
  ·rename_i hready
   injection hp with hp
   subst hp
   obtain ⟨τ,h1,h2⟩:=h [] (by simp)
   injection h1 with h1
   injection h1 with h1 _
   subst h1
   exact ⟨hready,hk _ w g a h2 hr hn hb⟩
  ·cases hp
 | succ m ih =>
  intro listed ls σ w g a hp h hr hn hb
  have hops':∀ o∈ops.toList,∀ d,o.dst=some d→d<a.tmps.size:=fun o ho d hd=>by rw [hn]; exact hops o ho d hd
  unfold orders0 at hp
  split at hp
  ·rename_i hready
   injection hp with hp
   subst hp
   obtain ⟨τ,h1,h2⟩:=h [] (by simp)
   injection h1 with h1
   injection h1 with h1 _
   subst h1
   exact ⟨fun _=>hk _ w g a h2 hr hn hb,fun i hi=>by rw [hready] at hi; cases hi⟩
  ·rename_i j r hready
   split at hp
   ·rename_i i hfind
    obtain ⟨l0,r0,hp',rfl⟩:=consAll_ok hp
    have hearly:=List.find?_some hfind
    have hmem:i∈Region.ready .any ops listed:=by rw [hready]; exact List.mem_of_find?_eq_some hfind
    obtain ⟨o,ho⟩:=ready_lt hmem
    unfold earlyM at hearly
    simp only [ho,Bool.and_eq_true] at hearly
    obtain ⟨⟨hisq,hnm⟩,hfr⟩:=hearly
    have hfree:∀ j oj,ops[j]?=some oj→j≠i→listed.getD j true=false→(∀ e∈oj.after,Region.binds .any e=true→e.on≠i)→o.apart ops oj=true:=fun j oj h1 h2 h3 h4=>Region.free_spec ho hfr j oj h1 h2 h3 h4
    have hd:∀ d,o.dst=some d→d<a.tmps.size:=hops' o (by simpa using Array.mem_of_getElem? ho)
    have hh:∀ l∈(l0::r0),∃ τ,evS P call ops ((i,true)::l) σ=some (τ,true)∧F τ:=fun l hl=>h _ (List.mem_map.2 ⟨l,hl,rfl⟩)
    have hw:=want_ok hr hops' (o:=o)
    obtain ⟨τ0,e0,_⟩:=hh l0 (by simp)
    rcases evS_cons ho e0 with ⟨hq,σ',he,_⟩ | ⟨hq,_⟩
    ·rw [hq] at hw
     rw [cond_true] at he
     obtain ⟨z,hz,hrz⟩:=pure_ok hr hd he
     refine wpAny_first ho (Region.noSelect_spec hs) (fun c a w h=>h) m listed a w hfree hmem (.inl ⟨hw,fun w'=>hz w' (.inr hnm)⟩) (ih _ _ σ' w g _ hp' (fun l hl=>?_) hrz (by rw [put_size]; exact hn) hb)
     obtain ⟨τ,e,hF⟩:=hh l hl
     rcases evS_cons ho e with ⟨_,σ'',he',e'⟩ | ⟨hq',_⟩
     ·rw [cond_true,he] at he'
      injection he' with he'; injection he' with he' _
      subst he'
      exact ⟨τ,e',hF⟩
     ·rw [hq] at hq'; cases hq'
    ·rw [hq] at hw
     refine wpAny_first ho (Region.noSelect_spec hs) (fun c a w h=>h) m listed a w hfree hmem (.inr ⟨hw,rfl⟩) (ih _ _ _ w g _ hp' (fun l hl=>?_) (hr.put hd (t:=.none_) ⟨#[],rfl,rfl,fun j x h=>by simp at h⟩) (by rw [put_size]; exact hn) hb)
     obtain ⟨τ,e,hF⟩:=hh l hl
     rcases evS_cons ho e with ⟨hq',_⟩ | ⟨_,e'⟩
     ·rw [hq] at hq'; cases hq'
     ·exact ⟨τ,e',hF⟩
   ·refine ⟨fun h0=>(by rw [hready] at h0; cases h0),fun i hi=>?_⟩
    have hi':i∈j::r:=by rw [hready] at hi; exact hi
    obtain ⟨l0,r0,hp',hsub⟩:=fold_ok hp i hi'
    obtain ⟨o,ho⟩:=ready_lt hi
    have hd:∀ d,o.dst=some d→d<a.tmps.size:=hops' o (by simpa using Array.mem_of_getElem? ho)
    have hh:∀ l∈(l0::r0),∃ τ,evS P call ops ((i,false)::l) σ=some (τ,true)∧F τ:=fun l hl=>h _ (hsub l hl)
    have hw:=want_ok hr hops' (o:=o)
    obtain ⟨τ0,e0,_⟩:=hh l0 (by simp)
    unfold wpOp
    simp only [ho]
    rcases evS_cons ho e0 with ⟨hq,σ',he,_⟩ | ⟨hq,_⟩
    ·rw [hq] at hw
     rw [cond_false] at he
     rw [if_pos hw]
     refine .inl (evOp_goes hr hcall hd he _ _ fun z w' g' h3 h4=>ih _ _ σ' w' g' _ hp' (fun l hl=>?_) h3 (by rw [put_size]; exact hn) (hb.trans h4))
     obtain ⟨τ,e,hF⟩:=hh l hl
     rcases evS_cons ho e with ⟨_,σ'',he',e'⟩ | ⟨hq',_⟩
     ·rw [cond_false,he] at he'
      injection he' with he'; injection he' with he' _
      subst he'
      exact ⟨τ,e',hF⟩
     ·rw [hq] at hq'; cases hq'
    ·rw [hq] at hw
     rw [if_neg (by simp [hw])]
     refine ih _ _ _ w g _ hp' (fun l hl=>?_) (hr.put hd (t:=.none_) ⟨#[],rfl,rfl,fun j x h=>by simp at h⟩) (by rw [put_size]; exact hn) hb
     obtain ⟨τ,e,hF⟩:=hh l hl
     rcases evS_cons ho e with ⟨hq',_⟩ | ⟨_,e'⟩
     ·rw [hq] at hq'; cases hq'
     ·exact ⟨τ,e',hF⟩
theorem evDraw0_ok {call:FuncId→List T→Option (T × Bool)} (hcall:CallOk P call) {id:Nat} {ops:Array Oper} {k:St→R} {key:Option Dom} {out:Nat × List D} {n:Nat} {Q:Exit→Act→World→Prop} {w0:World} (hops:∀ o∈ops.toList,∀ d,o.dst=some d→d<n)
  (hk:∀ σ' w' g' a' key',k σ'=some (key',some out)→Rel P w' g' base σ' a'→a'.tmps.size=n→Below base w0 w'→Q .normal a' w') (hc:Region.noSelect ops=true∧P.follows .mixedOrders=true) (h:evDraw0 P call ops σ k=some (key,some out)) (hr:Rel P w g base σ a) (hn:a.tmps.size=n) (hb:Below base w0 w):(Code.region id ops true).wp P Q a w:=by
 unfold evDraw0 at h
 split at h
 ·rename_i ls hp0
  unfold evAll at h
  split at h
  ·cases h
  ·rename_i l0 ls
   split at h
   ·rename_i σ0 ok he
    obtain ⟨hok,hcont⟩:=rneed_ok h
    subst hok
    obtain ⟨h1,h2⟩:=evRest_ok hcont
    refine wp_region_any hc.2 (wpAny_imp (Q:=QN fun a w=>Q .normal a w) (fun e a w h=>?_) _ _ _ _ ?_)
    ·cases e <;> first | exact h | exact h.elim
    ·exact orders0_ok (F:=fun τ=>Same τ σ0) hcall hc.1 hops (fun σ' w' g' a' h3 h4 h5 h6=>hk σ0 w' g' a' key h1 (h4.same h3) h5 h6) ops.size _ _ σ _ g a hp0 (fun l' hl=>by
      rcases List.mem_cons.1 hl with rfl | hl
      ·exact ⟨σ0,he,⟨fun _=>rfl,fun _=>rfl⟩⟩
      ·exact h2 l' hl) (low_drawn hr) hn (hb.trans ⟨rfl,rfl,rfl,Nat.le_refl _,fun _ _=>rfl⟩)
   ·cases h
 ·cases h
theorem evDraw_ok {call:FuncId→List T→Option (T × Bool)} (hcall:CallOk P call) {id:Nat} {ops:Array Oper} {k:St→R} {key:Option Dom} {out:Nat × List D} {n:Nat} {Q:Exit→Act→World→Prop} {w0:World} (hops:∀ o∈ops.toList,∀ d,o.dst=some d→d<n)
  (hk:∀ σ' w' g' a' key',k σ'=some (key',some out)→Rel P w' g' base σ' a'→a'.tmps.size=n→Below base w0 w'→Q .normal a' w') (h:evDraw P call ops σ k=some (key,some out)) (hr:Rel P w g base σ a) (hn:a.tmps.size=n) (hb:Below base w0 w):(Code.region id ops true).wp P Q a w:=by
 unfold evDraw at h
 cases hc:(Region.noSelect ops&&P.follows .mixedOrders) with
 | false=>rw [hc] at h; cases h
 | true =>
  rw [hc,cond_true] at h
  simp only [Bool.and_eq_true] at hc
  split at h
  ·rename_i l hp
   cases hml:memless ops with
   | true =>
    rw [hml,cond_true] at h
    refine wp_region_any hc.2 (wpAny_imp (Q:=QN fun a w=>Q .normal a w) (fun e a w h=>?_) _ _ _ _ ?_)
    ·cases e <;> first | exact h | exact h.elim
    ·exact evPlan0_ok hcall hc.1 hml hops (fun σ' w' g' a' key' h1 h2 h3 h4=>hk σ' w' g' a' key' h1 h2 h3 h4) ops.size _ l σ _ g a key hp h (low_drawn hr) hn (hb.trans ⟨rfl,rfl,rfl,Nat.le_refl _,fun _ _=>rfl⟩)
   | false =>
   rw [hml,cond_false] at h
   split at h
   rotate_left
   ·exact evDraw0_ok hcall hops hk hc h hr hn hb
   rename_i r0 hA
   injection h with h
   subst h
   have h:=hA
   refine wp_region_any hc.2 (wpAny_of_B (B:=w.heap.size) (Q:=fun a w=>Q .normal a w) (fun _ _ h=>h) _ _ _ _ ?_)
   exact evPlan_ok (B:=w.heap.size) hcall hc.1 hops (fun σ' w' g' a' key' h1 h2 h3 h4=>hk σ' w' g' a' key' h1 h2 h3 h4) ops.size _ l σ _ g a key hp h (low_drawn hr) hn (hb.trans ⟨rfl,rfl,rfl,Nat.le_refl _,fun _ _=>rfl⟩) (Nat.le_refl _) (fun _=>rfl) (fun _ j o d hj hl=>by
    have hjs:=(Array.getElem?_eq_some_iff.1 hj).1
    simp [hjs] at hl) (Closed.start ops)
  ·split at h
   rotate_left
   ·exact evDraw0_ok hcall hops hk hc h hr hn hb
   ·rename_i ls hp
    split at h
    rotate_left
    ·exact evDraw0_ok hcall hops hk hc h hr hn hb
    rename_i r0 hA
    injection h with h
    subst h
    have h:=hA
    unfold evAll at h
    split at h
    ·cases h
    ·rename_i l ls
     split at h
     ·rename_i σ0 ok he
      obtain ⟨hok,hcont⟩:=rneed_ok h
      subst hok
      obtain ⟨h1,h2⟩:=evRest_ok hcont
      refine wp_region_any hc.2 (wpAny_of_B (B:=w.heap.size) (Q:=fun a w=>Q .normal a w) (fun _ _ h=>h) _ _ _ _ ?_)
      exact orders_ok (B:=w.heap.size) (F:=fun τ=>Same τ σ0) (noW_ok hcall) (fun _ _ _ _ h=>noW_not h) hc.1 hops (fun σ' w' g' a' h3 h4 h5 h6=>hk σ0 w' g' a' key h1 (h4.same h3) h5 h6) ops.size _ _ σ _ g a hp (fun l' hl=>by
       rcases List.mem_cons.1 hl with rfl | hl
       ·exact ⟨σ0,he,⟨fun _=>rfl,fun _=>rfl⟩⟩
       ·exact h2 l' hl) (low_drawn hr) hn (hb.trans ⟨rfl,rfl,rfl,Nat.le_refl _,fun _ _=>rfl⟩) (Nat.le_refl _) (fun _=>rfl) (fun _ j o d hj hl=>by
       have hjs:=(Array.getElem?_eq_some_iff.1 hj).1
       simp [hjs] at hl) (Closed.start ops)
     ·cases h
end
end Go.Proofs.YthbbbhpjkgpdcaaGreat
namespace Go.Proofs.YthbbbhpjkgpdcaaGreat
open Go.RowKit
section
variable [Low] {P:Program} {w w':World} {g g':G} {base:Nat} {σ:St} {a:Act}
theorem leave_ok {o:Out} {σ:St} {kx:Nat→St→R} {key:Option Dom} {out:Nat × List D}:∀ {ids:List Nat},leave ids o σ kx=some (key,some out)→∃ j∈ids,o.code=j+2∧∃ k',kx j σ=some (k',some out)
 | [],h=>by simp [leave] at h
 | [j],h=>by
  obtain ⟨h1,h2⟩:=rneed_ok (show rneed (o.code==j+2) (kx j σ)=_ from h)
  exact ⟨j,by simp,by simpa using h1,_,h2⟩
 | j::k::r,h=>by
  obtain ⟨h1,h2⟩:=rcond_ok (show rcond (o.code==j+2) (kx j σ) (leave (k::r) o σ kx)=_ from h)
  by_cases hc:o.code=j+2
  ·obtain ⟨k',h1⟩:=h1 (by simpa using hc)
   exact ⟨j,by simp,hc,k',h1⟩
  ·obtain ⟨k',h2⟩:=h2 (by simpa using hc)
   obtain ⟨i,q1,q2,q3⟩:=leave_ok h2
   exact ⟨i,by simp at q1 ⊢; exact .inr q1,q2,q3⟩
theorem leaf_ok {d:Dom} {code:Nat} {key:Option Dom} {out:Nat × List D} (h:leaf d code σ=some (key,some out)):(restrictD d σ).dom=d∧σ.r = []∧out=(code,(restrictD d σ).flat):=by
 unfold leaf at h
 cases hc:((restrictD d σ).dom==d&&σ.r.isEmpty) with
 | false=>rw [hc] at h; cases h
 | true =>
  rw [hc] at h
  simp only [cond_true,Option.some.injEq,Prod.mk.injEq] at h
  simp only [Bool.and_eq_true,beq_iff_eq] at hc
  exact ⟨hc.1,by simpa using hc.2,h.2.symm⟩
theorem retLeaf_ok {x:Option (List D)} {key:Option Dom} {out:Nat × List D} (h:retLeaf x=some (key,some out)):∃ p,x=some p∧out=(1,p):=by
 unfold retLeaf at h
 split at h
 ·rename_i p
  simp only [Option.some.injEq,Prod.mk.injEq] at h
  exact ⟨p,rfl,h.2.symm⟩
 ·cases h
theorem stepOut_ok {r:R} {x:Nat × List D} (h:stepOut r=some x):∃ key,r=some (key,some x):=by
 unfold stepOut at h
 split at h
 ·rename_i k o
  subst h
  exact ⟨k,rfl⟩
 ·cases h
theorem joinOut_ok {rets:Bool} {ids:List Nat} {code:Nat} {pay:List D} {τ:St} {kn:St→R} {kx:Nat→St→R} {kr:Option (List D)→R} {key:Option Dom} {out:Nat × List D}
  (h:joinOut rets ids (some (code,pay)) τ kn kx kr=some (key,some out)) :
  (code=0∧∃ k,kn τ=some (k,some out))∨(code=1∧∃ k,kr (some pay)=some (k,some out))∨∃ j,code=j+2∧∃ k,kx j τ=some (k,some out):=by
 have c0:∀ {x:R} {k:Option Dom},rcond (Out.code (some (code,pay))==0) (kn τ) x=some (k,some out)→(code=0∧∃ k,kn τ=some (k,some out))∨∃ k,x=some (k,some out):=by
  intro x k h
  obtain ⟨h1,h2⟩:=rcond_ok h
  by_cases hc:code=0
  ·exact .inl ⟨hc,h1 (by simpa [Out.code] using hc)⟩
  ·exact .inr (h2 (by simpa [Out.code] using hc))
 have lv:∀ {ids:List Nat} {k:Option Dom},leave ids (some (code,pay)) τ kx=some (k,some out)→∃ j,code=j+2∧∃ k,kx j τ=some (k,some out):=by
  intro ids k h
  obtain ⟨j,_,h1,k2,h2⟩:=leave_ok h
  exact ⟨j,h1,k2,h2⟩
 unfold joinOut at h
 split at h
 ·obtain ⟨h1,h2⟩:=rneed_ok h
  exact .inl ⟨by simpa [Out.code] using h1,_,h2⟩
 ·rcases c0 h with h | ⟨k,h⟩
  ·exact .inl h
  ·obtain ⟨h1,h2⟩:=rneed_ok h
   exact .inr (.inl ⟨by simpa [Out.code] using h1,_,h2⟩)
 ·rcases c0 h with h | ⟨k,h⟩
  ·exact .inl h
  ·exact .inr (.inr (lv h))
 ·rcases c0 h with h | ⟨k,h⟩
  ·exact .inl h
  ·obtain ⟨h1,h2⟩:=rcond_ok h
   by_cases hc:code=1
   ·exact .inr (.inl ⟨hc,h1 (by simpa [Out.code] using hc)⟩)
   ·obtain ⟨k',h2⟩:=h2 (by simpa [Out.code] using hc)
    exact .inr (.inr (lv h2))
theorem gd_wideDs:∀ (cs:List Ce) (ds:List D) (i j:Nat) c,cs[j]?=some c→gd (wideDs cs ds i) j=wideD c (gd ds (i+j))
 | [],_,_,_,_,h=>by simp at h
 | c::cs,ds,i,0,c',h=>by simp at h; subst h; rfl
 | c::cs,ds,i,j+1,c',h=>by
  have:=gd_wideDs cs ds (i+1) j c' (by simpa using h)
  show gd (wideDs cs ds (i+1)) j=_
  rw [this,show i+1+j=i+(j+1) from by omega]
theorem vc_wide {c:Ce} {x:D} {v:Value} (h:VC P w g base c x v):VC P w g base (wideC c) (wideD c x) v:=by
 cases c with
 | kb b =>
  have h:v=.bool b:=h
  subst h
  exact VD.bool (.b b)
 | _=>exact h
theorem vcs_wide {cs:List Ce} {ds:List D} {arr:Array Value} (h:VCs P w g base cs ds arr):VCs P w g base (cs.map wideC) (wideDs cs ds 0) arr:=by
 refine ⟨by rw [h.1,List.length_map],fun j c hc=>?_⟩
 rw [List.getElem?_map] at hc
 obtain ⟨c0,h0,rfl⟩:=Option.map_eq_some_iff.1 hc
 obtain ⟨u,hu,hv⟩:=h.2 j c0 h0
 exact ⟨u,hu,by rw [gd_wideDs cs ds 0 j c0 h0,Nat.zero_add]; exact vc_wide hv⟩
theorem vt_wide {t:T} {v:Value} (h:VT P w g base t v):VT P w g base t.wide v:=by
 obtain ⟨sh,p⟩:=t
 match sh,h with
 | .one (.c c),h=>exact vc_wide h
 | .one (.agg cs),⟨arr,h1,h2⟩=>exact ⟨arr,h1,vcs_wide h2⟩
 | .tup xs,h=>exact h
theorem look_wide (e:Env) (j:Nat):look j (e.map fun p=>(p.1,p.2.wide))=(look j e).wide:=by
 induction e with
 | nil=>rfl
 | cons p e ih =>
  obtain ⟨i,v⟩:=p
  simp only [List.map_cons,look]
  cases (j==i) with
  | true=>rfl
  | false=>exact ih
theorem hlook_wide (h:Boxes) (j:Nat):hlook j (h.map fun p=>(p.1,p.2.1.map wideC,wideDs p.2.1 p.2.2 0))=(hlook j h).map fun p=>(p.1.map wideC,wideDs p.1 p.2 0):=by
 induction h with
 | nil=>rfl
 | cons p h ih =>
  obtain ⟨i,v⟩:=p
  simp only [List.map_cons,hlook]
  cases (j==i) with
  | true=>rfl
  | false=>exact ih
theorem len_wideDs:∀ (cs:List Ce) (ds:List D) (i:Nat),(wideDs cs ds i).length=cs.length
 | [],_,_=>rfl
 | c::cs,ds,i=>congrArg (· + 1) (len_wideDs cs ds (i+1))
theorem Rel.wide (hr:Rel P w g base σ a) (hre:σ.r = []):Rel P w g base σ.wide a:=by
 refine ⟨fun i=>?_,fun id cs ds h=>?_,hr.fresh,hr.base_le,hr.defers,hr.low,hr.mine⟩
 ·have:=hr.env i
  rw [hre] at this
  show VT P w g base (look2 i (σ.e.map fun p=>(p.1,p.2.wide)) σ.r) _
  rw [hre]
  show VT P w g base (look i (σ.e.map fun p=>(p.1,p.2.wide))) _
  rw [look_wide]
  exact vt_wide this
 ·have h:hlook id (σ.h.map fun p=>(p.1,p.2.1.map wideC,wideDs p.2.1 p.2.2 0))=some (cs,ds):=h
  rw [hlook_wide] at h
  obtain ⟨⟨cs0,ds0⟩,h0,h1⟩:=Option.map_eq_some_iff.1 h
  injection h1 with h1 h2
  subst h1; subst h2
  obtain ⟨q1,q2,q3,q4,arr,E,q5,q6⟩:=hr.box id cs0 ds0 h0
  exact ⟨q1,q2,q3,by rw [len_wideDs,List.length_map],arr,E,q5,vcs_wide q6⟩
theorem Rel.cut (hr:Rel P w g base σ a) (id:Nat) (ks:List Nat):Rel P w g base (σ.cut id ks) a:=by
 refine ⟨fun i=>?_,hr.box,hr.fresh,hr.base_le,hr.defers,hr.low,hr.mine⟩
 show VT P w g base (look2 i (dropAll (dropsAt id ks) (dropAll (dropsOf ks) σ.e)) σ.r) _
 rcases look2_dropAll i (dropsAt id ks) (dropAll (dropsOf ks) σ.e) σ.r with h | h
 ·rcases look2_dropAll i (dropsOf ks) σ.e σ.r with h' | h'
  ·rw [h,h']; exact hr.env i
  ·rw [h,h']; trivial
 ·rw [h]; trivial
def Ends (P:Program) (base n:Nat) (w0:World) (fin:St→Option (List D)) (out:Nat × List D) (kn:St→R) (kx:Nat→St→R) (kr:Option (List D)→R) (Q:Exit→Act→World→Prop):Prop:=
 (∀ σ' w' g' a' key',kn σ'=some (key',some out)→Rel P w' g' base σ' a'→a'.tmps.size=n→Below base w0 w'→Q .normal a' w') ∧
 (∀ j σ' w' g' a' key',kx j σ'=some (key',some out)→Rel P w' g' base σ' a'→a'.tmps.size=n→Below base w0 w'→Q (.exit j) a' w') ∧
 (∀ σ' w' g' a' key',kr (fin σ')=some (key',some out)→Rel P w' g' base σ' a'→a'.tmps.size=n→Below base w0 w'→Q .ret a' w')
theorem evCode_ok {call:FuncId→List T→Option (T × Bool)} (hcall:CallOk P call) {N:Nat} {ks:List Nat} {fin:St→Option (List D)} {n:Nat} {w0:World} :
  ∀ (c:Code) (σ:St) (kn:St→R) (kx:Nat→St→R) (kr:Option (List D)→R) (key:Option Dom) (out:Nat × List D) (w:World) (g:G) (a:Act) (Q:Exit→Act→World→Prop),
   dstsOk n c=true→evCode P call N ks fin c σ kn kx kr=some (key,some out)→Rel P w g base σ a→a.tmps.size=n→Below base w0 w→Ends P base n w0 fin out kn kx kr Q→c.wp P Q a w:=by
 intro c
 induction c with
 | skip =>
  intro σ kn kx kr key out w g a Q hd h hr hn hb hE
  exact wp_skip (hE.1 σ w g a key h hr hn hb)
 | region id ops draw =>
  intro σ kn kx kr key out w g a Q hd h hr hn hb hE
  have hops:∀ o∈ops.toList,∀ d,o.dst=some d→d<n:=fun o ho d hdo=>by
   have:=List.all_eq_true.1 hd o ho
   rw [hdo] at this
   exact Nat.le_of_ble_eq_true this
  simp only [evCode] at h
  have hr:=hr.cut id ks
  generalize σ.cut id ks=σ at *
  cases hj:(joinsOf ks).contains (1000000+id) with
  | true =>
   rw [hj,cond_true] at h
   split at h
   ·rename_i d _ _
    split at h
    ·rename_i kk oo hev
     obtain ⟨hsome,h⟩:=rneed_ok h
     obtain ⟨⟨code,pay⟩,rfl⟩:=Option.isSome_iff_exists.1 hsome
     have at0:∀ σ' w' g' a' key',leaf d 0 (σ'.settle ks).wide=some (key',some (code,pay))→Rel P w' g' base σ' a'→a'.tmps.size=n→Below base w0 w'→Q .normal a' w':=by
      intro σ' w' g' a' key' h1 h2 h3 h4
      obtain ⟨q1,q2,q3⟩:=leaf_ok h1
      injection q3 with q3 q4
      subst q3; subst q4
      obtain ⟨g2,hg2⟩:=h2.settle ks
      have:=((hg2.wide (settle_r _ _)).restrictD q2 d).mkSt rfl
      rw [q1] at this
      exact hE.1 _ w' g2 a' key h this h3 h4
     cases draw with
     | true=>exact evDraw_ok hcall hops at0 hev hr hn hb
     | false =>
      exact wp_region_list (evOps_ok hcall at0 ops.toList σ w g a kk hops hops hev hr hn hb)
    ·cases h
   ·cases h
  | false =>
  rw [hj,cond_false] at h
  cases draw with
  | true=>exact evDraw_ok hcall hops (fun σ' w' g' a' key' h1 h2 h3 h4=>(h2.settle ks).elim fun g2 hg2=>hE.1 _ w' g2 a' key' h1 hg2 h3 h4) h hr hn hb
  | false =>
   exact wp_region_list (evOps_ok hcall (fun σ' w' g' a' key' h1 h2 h3 h4=>(h2.settle ks).elim fun g2 hg2=>hE.1 _ w' g2 a' key' h1 hg2 h3 h4) ops.toList σ w g a key hops hops h hr hn hb)
 | seq x y ihx ihy =>
  intro σ kn kx kr key out w g a Q hd h hr hn hb hE
  simp only [dstsOk,Bool.and_eq_true] at hd
  refine wp_seq (ihx σ _ kx kr key out w g a _ hd.1 h hr hn hb ⟨fun σ' w' g' a' key' h1 h2 h3 h4=>?_,fun j σ' w' g' a' key' h1 h2 h3 h4=>hE.2.1 j σ' w' g' a' key' h1 h2 h3 h4,fun σ' w' g' a' key' h1 h2 h3 h4=>hE.2.2 σ' w' g' a' key' h1 h2 h3 h4⟩)
  exact ihy σ' kn kx kr key' out w' g' a' Q hd.2 h1 h2 h3 h4 hE
 | cond c x y ihx ihy =>
  intro σ kn kx kr key out w g a Q hd h hr hn hb hE
  simp only [dstsOk,Bool.and_eq_true] at hd
  simp only [evCode] at h
  have hc:=opd_ok hr c
  split at h
  ·rename_i t hsh
   have hcv:a.eval c=.bool t:=by
    generalize opd σ c=q at *
    obtain ⟨sh,p⟩:=q
    simp only at hsh
    subst hsh
    exact hc
   cases t with
   | true=>exact wp_cond_true hcv (ihx σ kn kx kr key out w g a Q hd.1 h hr hn hb hE)
   | false=>exact wp_cond_false hcv (ihy σ kn kx kr key out w g a Q hd.2 h hr hn hb hE)
  ·rename_i hsh
   have hcv:a.eval c=.bool (gd (opd σ c).p 0).bool:=by
    generalize opd σ c=q at *
    obtain ⟨sh,p⟩:=q
    simp only at hsh
    subst hsh
    exact vd_bool hc
   obtain ⟨h1,h2⟩:=rcond_ok h
   refine wp_cond_split hcv (fun ht=>?_) (fun hf=>?_)
   ·obtain ⟨k',h1⟩:=h1 ht
    exact ihx (σ.learn ks c true) kn kx kr k' out w g a Q hd.1 h1 (hr.learn (by rw [hcv,ht])) hn hb hE
   ·obtain ⟨k',h2⟩:=h2 hf
    exact ihy (σ.learn ks c false) kn kx kr k' out w g a Q hd.2 h2 (hr.learn (by rw [hcv,hf])) hn hb hE
  ·cases h
 | block id x ih =>
  intro σ kn kx kr key out w g a Q hd h hr hn hb hE
  simp only [evCode] at h
  cases hj:(joinsOf ks).contains id with
  | true =>
   rw [hj,cond_true] at h
   split at h
   ·rename_i d _ _
    split at h
    ·rename_i kk oo hev
     obtain ⟨hsome,h⟩:=rneed_ok h
     obtain ⟨⟨code,pay⟩,rfl⟩:=Option.isSome_iff_exists.1 hsome
     have hjo:=joinOut_ok h
     have at0:∀ σ' w' g' a' key',leaf d 0 σ'=some (key',some (code,pay))→Rel P w' g' base σ' a'→a'.tmps.size=n→Below base w0 w'→Q .normal a' w':=by
      intro σ' w' g' a' key' h1 h2 h3 h4
      obtain ⟨q1,q2,q3⟩:=leaf_ok h1
      injection q3 with q3 q4
      subst q3; subst q4
      have:=(h2.restrictD q2 d).mkSt rfl
      rw [q1] at this
      rcases hjo with ⟨_,k,hk⟩ | ⟨hc,_⟩ | ⟨j,hc,_⟩
      ·exact hE.1 _ w' g' a' k hk this h3 h4
      ·omega
      ·omega
     refine wp_block (ih σ _ _ _ kk (code,pay) w g a _ hd hev hr hn hb ⟨at0,fun j σ' w' g' a' key' h1 h2 h3 h4=>?_,fun σ' w' g' a' key' h1 h2 h3 h4=>?_⟩)
     ·have h1:(bif j==id then leaf d 0 else leaf d (j+2)) σ'=some (key',some (code,pay)):=h1
      simp only [Exit.inBlock]
      by_cases e:j=id
      ·rw [if_pos e]
       rw [show (j==id)=true from by simpa using e,cond_true] at h1
       exact at0 σ' w' g' a' key' h1 h2 h3 h4
      ·rw [if_neg e]
       rw [show (j==id)=false from by simpa using e,cond_false] at h1
       obtain ⟨q1,q2,q3⟩:=leaf_ok h1
       injection q3 with q3 q4
       subst q3; subst q4
       have:=(h2.restrictD q2 d).mkSt rfl
       rw [q1] at this
       rcases hjo with ⟨hc,_⟩ | ⟨hc,_⟩ | ⟨j',hc,k,hk⟩
       ·omega
       ·omega
       ·obtain rfl:j'=j:=by omega
        exact hE.2.1 j' _ w' g' a' k hk this h3 h4
     ·obtain ⟨pp,q1,q2⟩:=retLeaf_ok h1
      injection q2 with q2 q3
      subst q2; subst q3
      rcases hjo with ⟨hc,_⟩ | ⟨_,k,hk⟩ | ⟨j',hc,_⟩
      ·omega
      ·exact hE.2.2 σ' w' g' a' k (by rw [q1]; exact hk) h2 h3 h4
      ·omega
    ·cases h
   ·cases h
  | false =>
  rw [hj,cond_false] at h
  have hr:=hr.shed ks x
  generalize σ.shed ks x=σ at *
  refine wp_block (ih σ _ _ kr key out w g a _ hd h hr hn hb ⟨fun σ' w' g' a' key' h1 h2 h3 h4=>hE.1 _ w' g' a' key' h1 (h2.restrict σ) h3 h4,fun j σ' w' g' a' key' h1 h2 h3 h4=>?_,fun σ' w' g' a' key' h1 h2 h3 h4=>hE.2.2 σ' w' g' a' key' h1 h2 h3 h4⟩)
  have h1:(bif j==id then kn (σ.restrict σ') else kx j σ')=some (key',some out):=h1
  simp only [Exit.inBlock]
  by_cases e:j=id
  ·rw [if_pos e]
   rw [show (j==id)=true from by simpa using e,cond_true] at h1
   exact hE.1 _ w' g' a' key' h1 (h2.restrict σ) h3 h4
  ·rw [if_neg e]
   rw [show (j==id)=false from by simpa using e,cond_false] at h1
   exact hE.2.1 j σ' w' g' a' key' h1 h2 h3 h4
 | loop x ih =>
  intro σ kn kx kr key out w g a Q hd h hr hn hb hE
  simp only [evCode] at h
  cases hre:σ.r.isEmpty with
  | false=>rw [hre] at h; cases h
  | true =>
   rw [hre] at h
   have hre:σ.r = []:=by simpa using hre
   simp only [Bool.not_true,cond_false] at h
   split at h
   ·rename_i heq
    obtain ⟨hsome,h⟩:=rneed_ok h
    generalize hstep:(fun p=>stepOut (evCode P call N ks fin x (mkSt σ.dom p) (leaf σ.dom 0) (fun j=>leaf σ.dom (j+2)) retLeaf))=step at *
    obtain ⟨oo,hoo⟩:=Option.isSome_iff_exists.1 hsome
    rw [hoo] at h
    obtain ⟨code,pay⟩:=oo
    -- where it ends
    have hend:(∀ j w' g' a',code=j+2→Rel P w' g' base (mkSt σ.dom pay) a'→a'.tmps.size=n→Below base w0 w'→Q (.exit j) a' w') ∧
      (∀ σ' w' g' a',code=1→fin σ'=some pay→Rel P w' g' base σ' a'→a'.tmps.size=n→Below base w0 w'→Q .ret a' w'):=by
     have hlv:∀ {k':Option Dom},leave (exitsOf x).eraseDups (some (code,pay)) (mkSt σ.dom (Out.pay (some (code,pay)))) kx=some (k',some out)→code≠1∧∀ j w' g' a',code=j+2→Rel P w' g' base (mkSt σ.dom pay) a'→a'.tmps.size=n→Below base w0 w'→Q (.exit j) a' w':=by
      intro k' hl
      obtain ⟨j,_,h1,k2,h2⟩:=leave_ok hl
      have h1:code=j+2:=h1
      refine ⟨by omega,fun j' w' g' a' hj' hr' hn' hb'=>?_⟩
      obtain rfl:j'=j:=by omega
      exact hE.2.1 j' _ w' g' a' k2 h2 hr' hn' hb'
     have hrt:∀ {k':Option Dom},kr (some pay)=some (k',some out)→∀ σ' w' g' a',code=1→fin σ'=some pay→Rel P w' g' base σ' a'→a'.tmps.size=n→Below base w0 w'→Q .ret a' w':=by
      intro k' hk σ' w' g' a' _ hf hr' hn' hb'
      exact hE.2.2 σ' w' g' a' k' (by rw [hf]; exact hk) hr' hn' hb'
     cases hh:hasRet x with
     | true =>
      rw [hh,cond_true] at h
      split at h
      ·obtain ⟨h1,h2⟩:=rneed_ok h
       have h1:code=1:=by simpa [Out.code] using h1
       exact ⟨fun j w' g' a' hj=>by omega,hrt h2⟩
      ·obtain ⟨h1,h2⟩:=rcond_ok h
       by_cases hc:code=1
       ·obtain ⟨k',h1⟩:=h1 (by simpa [Out.code] using hc)
        exact ⟨fun j w' g' a' hj=>by omega,hrt h1⟩
       ·obtain ⟨k',h2⟩:=h2 (by simpa [Out.code] using hc)
        exact ⟨(hlv h2).2,fun σ' w' g' a' h=>absurd h hc⟩
     | false =>
      rw [hh,cond_false] at h
      exact ⟨(hlv h).2,fun σ' w' g' a' h1=>absurd h1 (hlv h).1⟩
    -- the rounds
    refine wp_loop_ghost (fun m a w=>∃ p g,iter step m p=some (code,pay)∧Rel P w g base (mkSt σ.dom p) a∧a.tmps.size=n∧Below base w0 w) N ⟨σ.flat,g,hoo,hr.mkSt hre,hn,hb⟩ ?_
    rintro m a1 w1 ⟨p,g1,hit,hr1,hn1,hb1⟩
    cases m with
    | zero=>cases hit
    | succ m =>
     unfold iter at hit
     cases hs:step p with
     | none=>rw [hs] at hit; cases hit
     | some cp =>
      obtain ⟨code',pay'⟩:=cp
      rw [hs] at hit
      have hs':stepOut (evCode P call N ks fin x (mkSt σ.dom p) (leaf σ.dom 0) (fun j=>leaf σ.dom (j+2)) retLeaf)=some (code',pay'):=by rw [← hs,← hstep]
      obtain ⟨k',hev⟩:=stepOut_ok hs'
      refine ih (mkSt σ.dom p) _ _ _ k' (code',pay') w1 g1 a1 _ hd hev hr1 hn1 hb1 ⟨fun σ' w' g' a' key' h1 h2 h3 h4=>?_,fun j σ' w' g' a' key' h1 h2 h3 h4=>?_,fun σ' w' g' a' key' h1 h2 h3 h4=>?_⟩
      ·obtain ⟨q1,q2,q3⟩:=leaf_ok h1
       injection q3 with q3 q4
       subst q3; subst q4
       have:=(h2.restrictD q2 σ.dom).mkSt rfl
       rw [q1] at this
       exact ⟨m,Nat.lt_succ_self m,_,g',hit,this,h3,h4⟩
      ·obtain ⟨q1,q2,q3⟩:=leaf_ok h1
       injection q3 with q3 q4
       subst q3; subst q4
       have:=(h2.restrictD q2 σ.dom).mkSt rfl
       rw [q1] at this
       simp only [Option.some.injEq,Prod.mk.injEq] at hit
       obtain ⟨rfl,rfl⟩:=hit
       exact hend.1 j w' g' a' rfl this h3 h4
      ·obtain ⟨pp,q1,q2⟩:=retLeaf_ok h1
       injection q2 with q2 q3
       subst q2; subst q3
       simp only [Option.some.injEq,Prod.mk.injEq] at hit
       obtain ⟨rfl,rfl⟩:=hit
       exact hend.2 σ' w' g' a' rfl q1 h2 h3 h4
   ·cases h
 | exit id =>
  intro σ kn kx kr key out w g a Q hd h hr hn hb hE
  exact wp_exit (hE.2.1 id σ w g a key h hr hn hb)
 | ret =>
  intro σ kn kx kr key out w g a Q hd h hr hn hb hE
  exact wp_ret (hE.2.2 σ w g a key h hr hn hb)
 | _ =>
  intro σ kn kx kr key out w g a Q hd h hr hn hb hE
  simp only [evCode] at h
  cases h
end
end Go.Proofs.YthbbbhpjkgpdcaaGreat
namespace Go.Proofs.YthbbbhpjkgpdcaaGreat
open Go.RowKit
section
variable [Low] {P:Program} {w w':World} {g g':G} {base:Nat} {σ:St} {a:Act}
def VL (P:Program) (w:World) (g:G) (base:Nat):List Sh1→List D→List Value→Prop
 | [],_,[]=>True
 | x::xs,p,v::vs=>V1 P w g base x p v∧VL P w g base xs (p.drop x.size) vs
 | _,_,_=>False
theorem gd_append_left {p q:List D} {i:Nat} (h:i<p.length):gd (p++q) i=gd p i:=by simp [gd,List.getD,List.getElem?_append_left h]
theorem vl_get:∀ {xs:List Sh1} {p:List D} {vs:List Value},VL P w g base xs p vs→vs.length=xs.length∧∀ (j:Nat) x,xs[j]?=some x→∃ u,vs[j]?=some u∧V1 P w g base x (sub p (offs xs j) x.size) u
 | [],p,[],h=>⟨rfl,fun j x h=>by simp at h⟩
 | [],p,v::vs,h=>h.elim
 | x::xs,p,[],h=>h.elim
 | x::xs,p,v::vs,h=>by
  obtain ⟨h1,h2⟩:=h
  obtain ⟨k1,k2⟩:=vl_get h2
  refine ⟨by simp [k1],fun j y hj=>?_⟩
  cases j with
  | zero =>
   simp only [List.getElem?_cons_zero,Option.some.injEq] at hj
   subst hj
   exact ⟨v,rfl,v1_congr (fun j hj=>by rw [gd_sub _ _ _ _ hj]; simp [offs]) h1⟩
  | succ j =>
   obtain ⟨u,q1,q2⟩:=k2 j y (by simpa using hj)
   refine ⟨u,by simpa using q1,v1_congr (fun i hi=>?_) q2⟩
   rw [gd_sub _ _ _ _ hi,gd_sub _ _ _ _ hi,gd_drop]
   congr 1
   simp only [offs,List.take_succ_cons,List.foldr_cons]
   omega
theorem load_ptr {t:TypeId} {x r:T} {u:Value} (h:evLoad P t σ x=some r) (hx:VT P w g base x u):∃ A,u=.pointer (some A):=by
 unfold evLoad at h
 split at h
 ·obtain ⟨sh,p⟩:=x
  cases sh with
  | tup xs=>cases h
  | one x=>cases x with
   | agg xs=>cases h
   | c x=>cases x with
    | ptr id off=>exact ⟨_,hx⟩
    | eptr tk e off=>cases tk with
     | none=>obtain ⟨_,_,_,_,h,_⟩:=hx; exact ⟨_,h⟩
     | some t=>obtain ⟨_,_,h,_⟩:=hx; exact ⟨_,h⟩
    | cptr cells off=>obtain ⟨_,_,h,_⟩:=hx; exact ⟨_,h⟩
    | _=>cases h
 ·cases h
def resVar (tmps:Array Value):ResultVar→Sem Value
 | .tmp t=>pure (tmps.getD t undef)
 | .cell a t=>do loadVar t (← asAddr (tmps.getD a undef))
theorem results1_ok (hr:Rel P w g base σ a):∀ {rs:List ResultVar} {shs:List Sh1} {p:List D},results1 P σ rs=some (shs,p)→∃ vs:List Value,(rs.mapM (resVar a.tmps)).run P w=.ok vs w∧VL P w g base shs p vs
 | [],shs,p,h=>by
  simp only [results1,Option.some.injEq,Prod.mk.injEq] at h
  obtain ⟨rfl,rfl⟩:=h
  exact ⟨[],by simp,trivial⟩
 | r::rs,shs,p,h=>by
  unfold results1 at h
  simp only at h
  split at h
  ·rename_i v shs0 p0 hv hrs
   obtain ⟨vs,k1,k2⟩:=results1_ok hr hrs
   have h1:∃ u,(resVar a.tmps r).run P w=.ok u w∧VT P w g base v u:=by
    cases r with
    | tmp t =>
     simp only [Option.some.injEq] at hv
     subst hv
     exact ⟨_,by simp [resVar],hr.env t⟩
    | cell x t =>
     simp only at hv
     obtain ⟨A,hA⟩:=load_ptr hv (hr.env x)
     obtain ⟨z,q1,q2⟩:=evLoad_ok hr hv (hr.env x)
     have q1:=q1 w (Below.refl _ _)
     refine ⟨z,?_,q2⟩
     rw [hA] at q1
     simp only [resVar,hA,asAddr,Sem.run_bind,Sem.run_pure,Result.andThen_ok]
     simpa only [Instr.loadAt,Instr.sureAddr,Sem.run_bind,Sem.run_pure,Result.andThen_ok] using q1
   obtain ⟨u,q1,q2⟩:=h1
   have hrun:(List.mapM (resVar a.tmps) (r::rs)).run P w=.ok (u::vs) w:=by
    rw [List.mapM_cons]
    simp only [Sem.run_bind,q1,Result.andThen_ok,k1,Sem.run_pure]
   obtain ⟨vsh,vp⟩:=v
   split at h
   ·rename_i b he
    simp only at he
    subst he
    simp only [Option.some.injEq,Prod.mk.injEq] at h
    obtain ⟨rfl,rfl⟩:=h
    refine ⟨_,hrun,?_,k2⟩
    have q2:u=.bool b:=q2
    subst q2
    exact VD.bool (.b b)
   ·rename_i x _ he
    simp only at he
    subst he
    simp only [Option.some.injEq,Prod.mk.injEq] at h
    obtain ⟨rfl,rfl⟩:=h
    refine ⟨_,hrun,v1_congr (fun j hj=>?_) q2,?_⟩
    ·rw [gd_append_left (by rw [sub_length]; exact hj),gd_sub _ _ _ _ hj,Nat.zero_add]
    ·rw [List.drop_append_of_le_length (by rw [sub_length]; exact Nat.le_refl _)]
     simpa [List.drop_eq_nil_of_le (Nat.le_of_eq (sub_length vp x.size 0))] using k2
   ·cases h
  ·cases h
theorem fitC_ok {pairs:List (Tok × Tok)} (h1:nodupB (pairs.map (·.1))=true) (h2:nodupB (pairs.map (·.2))=true) {c r:Ce} (hf:fitC c r=true) (hp:∀ t x e t' x' e',c=.own t x e→r=.own t' x' e'→(t,t')∈pairs)
  {x:D} {v:Value} (hv:VC P w g base c x v):VC P w (giveG g pairs) base r x v:=by
 cases c with
 | d s=>cases r with
  | d s' =>
   have:s=s':=by simpa [fitC] using hf
   subst this
   exact hv
  | _=>simp [fitC] at hf
 | own t xm e=>cases r with
  | own t' x' e' =>
   have hm:=hp t xm e t' x' e' rfl rfl
   have hx:xm=x'∧e=e'∧(deepT t'&&xm)=(deepT t&&xm):=by
    have hf:(xm==x'&&e==e'&&t'.1==0&&(!xm||deepT t==deepT t'))=true:=by cases xm <;> exact hf
    simp only [Bool.and_eq_true,beq_iff_eq,Bool.or_eq_true,Bool.not_eq_true'] at hf
    refine ⟨hf.1.1.1,hf.1.1.2,?_⟩
    rcases hf.2 with h | h
    ·rw [h,Bool.and_false,Bool.and_false]
    ·rw [h]
   obtain ⟨rfl,rfl,hdx⟩:=hx
   exact give_own h1 h2 (Nat.le_refl _) hm hdx hv
  | d s =>
   cases xm with
   | true=>cases s <;> simp [fitC] at hf
   | false =>
    cases s with
    | sl e' =>
     have:e=e':=by simpa [fitC] using hf
     subst this
     obtain ⟨row,hrow,hown⟩:=hv
     have:VD P w g.prot (.sl e) x v:=own_vd' hrow hown
     exact this
    | _=>simp [fitC] at hf
  | _=>cases xm <;> simp [fitC] at hf
 | _=>cases r <;> simp [fitC] at hf
theorem fitCs_get:∀ {cs rs:List Ce},fitCs cs rs=true→cs.length=rs.length∧∀ (j:Nat) r,rs[j]?=some r→∃ c,cs[j]?=some c∧fitC c r=true
 | [],[],_=>⟨rfl,fun j r h=>by simp at h⟩
 | [],r::rs,h=>by simp [fitCs] at h
 | c::cs,[],h=>by simp [fitCs] at h
 | c::cs,r::rs,h=>by
  simp only [fitCs,Bool.and_eq_true] at h
  obtain ⟨k1,k2⟩:=fitCs_get h.2
  refine ⟨by simp [k1],fun j x hj=>?_⟩
  cases j with
  | zero =>
   simp only [List.getElem?_cons_zero,Option.some.injEq] at hj
   subst hj
   exact ⟨c,rfl,h.1⟩
  | succ j =>
   obtain ⟨c0,q1,q2⟩:=k2 j x (by simpa using hj)
   exact ⟨c0,by simpa using q1,q2⟩
theorem sealC_own {ts:List Tok} {c:Ce} {t:Tok} {x:Bool} {e:TypeId} (h:sealC ts c=.own t x e):∃ x0,c=.own t x0 e:=by
 cases c with
 | own t0 x0 e0=>simp only [sealC,Ce.own.injEq] at h; obtain ⟨rfl,_,rfl⟩:=h; exact ⟨x0,rfl⟩
 | eptr t e off=>cases t <;> cases h
 | inn t' e' off ei=>simp only [sealC] at h; cases hc:ts.contains t' <;> rw [hc] at h <;> cases h
 | _=>cases h
theorem fit1_ok {pairs:List (Tok × Tok)} (h1:nodupB (pairs.map (·.1))=true) (h2:nodupB (pairs.map (·.2))=true) {ts:List Tok} {x y:Sh1} (hf:fit1 (x.map (sealC ts)) y=true) (hp:∀ q∈given x.ces y.ces,q∈pairs)
  {p:List D} {v:Value} (hv:V1 P w g base (x.map (sealC ts)) p v):x.size=y.size∧V1 P w (giveG g pairs) base y p v:=by
 cases x with
 | c c=>cases y with
  | c r =>
   refine ⟨rfl,fitC_ok h1 h2 hf (fun t x e t' x' e' e1 e2=>?_) hv⟩
   obtain ⟨x0,rfl⟩:=sealC_own e1
   subst e2
   exact hp _ (by simp [Sh1.ces,given])
  | agg ys=>cases hf
 | agg xs=>cases y with
  | c r=>cases hf
  | agg ys =>
   obtain ⟨k1,k2⟩:=fitCs_get (show fitCs (xs.map (sealC ts)) ys=true from hf)
   rw [List.length_map] at k1
   obtain ⟨arr,rfl,q1,q2⟩:=hv
   refine ⟨k1,arr,rfl,by rw [q1,List.length_map,k1],fun j r hj=>?_⟩
   obtain ⟨c,hc,hfc⟩:=k2 j r hj
   obtain ⟨u,hu,huv⟩:=q2 j c hc
   refine ⟨u,hu,fitC_ok h1 h2 hfc (fun t x e t' x' e' e1 e2=>?_) huv⟩
   rw [List.getElem?_map] at hc
   cases hx:xs[j]? with
   | none=>rw [hx] at hc; cases hc
   | some c0 =>
    rw [hx] at hc
    injection hc with hc
    rw [e1] at hc
    obtain ⟨x0,rfl⟩:=sealC_own hc
    subst e2
    exact hp _ (given_get hx hj)
theorem ces_length (x:Sh1):x.ces.length=x.size:=by cases x <;> rfl
theorem fit_ok {pairs:List (Tok × Tok)} (h1:nodupB (pairs.map (·.1))=true) (h2:nodupB (pairs.map (·.2))=true) {ts:List Tok}:∀ {xs ys:List Sh1},fit (xs.map (Sh1.map (sealC ts))) ys=true→(∀ q∈given (outCes xs) (outCes ys),q∈pairs) →
  ∀ {p:List D} {vs:List Value},VL P w g base (xs.map (Sh1.map (sealC ts))) p vs→VL P w (giveG g pairs) base ys p vs
 | [],[],_,_,p,vs,h=>by cases vs <;> exact h
 | [],y::ys,h,_,_,_,_=>by simp [fit] at h
 | x::xs,[],h,_,_,_,_=>by simp [fit] at h
 | x::xs,y::ys,h,hp,p,[],hv=>hv.elim
 | x::xs,y::ys,h,hp,p,v::vs,hv=>by
  simp only [List.map_cons,fit,Bool.and_eq_true] at h
  obtain ⟨hv1,hv2⟩:=hv
  have hsz:x.size=y.size:=by
   cases x with
   | c c=>cases y with
    | c r=>rfl
    | agg ys=>cases h.1
   | agg xs=>cases y with
    | c r=>cases h.1
    | agg ys =>
     have:=(fitCs_get (show fitCs (xs.map (sealC ts)) ys=true from h.1)).1
     rwa [List.length_map] at this
  have e:given (outCes (x::xs)) (outCes (y::ys))=given x.ces y.ces++given (outCes xs) (outCes ys):=by
   simp only [outCes,List.flatMap_cons]
   exact given_append (by rw [ces_length,ces_length,hsz])
  rw [e] at hp
  refine ⟨(fit1_ok h1 h2 h.1 (fun q hq=>hp q (List.mem_append.2 (.inl hq))) hv1).2,?_⟩
  have:=fit_ok h1 h2 h.2 (fun q hq=>hp q (List.mem_append.2 (.inr hq))) hv2
  rwa [Sh1.size_map,hsz] at this
theorem vl_kept {f:Ce→Ce} (hk:Kept P base g g' w w' f):∀ {xs:List Sh1} {p:List D} {vs:List Value},VL P w g base xs p vs→VL P w' g' base (xs.map (Sh1.map f)) p vs
 | [],p,vs,h=>by cases vs <;> exact h
 | x::xs,p,[],h=>h.elim
 | x::xs,p,v::vs,h=>⟨hk.v1 h.1,by rw [Sh1.size_map]; exact vl_kept hk h.2⟩
theorem finish_ok (hr:Rel P w g base σ a) {fn:Func} {rs:Sh} {p:List D} (h:finish P fn rs σ=some p) :
  ∃ v g',(results fn a.tmps).run P w=.ok v w∧VT P w g' base ⟨rs,p⟩ v∧(∀ b,Low.old b→g'.prot b=Low.low b)∧(∀ b,w.heap.size≤b→g'.prot b=0∧g'.owner b=none):=by
 unfold finish at h
 split at h
 ·rename_i shs p0 hres
  generalize hts:lend (outCes shs) (outCes rs.list)=ts at h
  generalize hpr:given (outCes shs) (outCes rs.list)=pairs at h
  cases hc:(fit (shs.map (Sh1.map (sealC ts))) rs.list&&nodupB (pairs.map (·.1))&&nodupB (pairs.map (·.2))&&rs.tupOk) with
  | false=>rw [hc] at h; cases h
  | true =>
   rw [hc,cond_true] at h
   injection h with h
   subst h
   simp only [Bool.and_eq_true] at hc
   obtain ⟨⟨⟨c1,c2⟩,c3⟩,c4⟩:=hc
   obtain ⟨vs,k1,k2⟩:=results1_ok hr hres
   have k3:=fit_ok c2 c3 c1 (fun q hq=>by rw [← hpr]; exact hq) (vl_kept (kept_seal g ts w) k2)
   obtain ⟨q1,q2⟩:=vl_get k3
   have hs:=hr.seal ts
   have hrun:(results fn a.tmps).run P w=.ok (if h:vs.toArray.size=1 then vs.toArray[0] else .tuple vs.toArray) w:=by
    have e:results fn a.tmps=(do let vs ← fn.results.mapM (resVar a.tmps); pure (if h:vs.size=1 then vs[0] else .tuple vs)):=by
     unfold results
     congr 1
    rw [e,Array.mapM_eq_mapM_toList]
    simp only [Sem.run_bind,Sem.run_map,k1,Result.andThen_ok,Sem.run_pure]
   refine ⟨_,giveG (sealG g ts) pairs,hrun,?_,fun b hb=>(hs.low.2.1 b (by rw [hs.low.1.1]; exact hb)).2.1,fun b hb=>?_⟩
   ·cases rs with
    | one x =>
     have hl:vs.length=1:=by rw [q1]; rfl
     obtain ⟨u,hu,huv⟩:=q2 0 x rfl
     rw [dif_pos (by simpa using hl)]
     have:vs.toArray[0]'(by simp [hl])=u:=by
      have:=hu
      rw [List.getElem?_eq_getElem (by omega)] at this
      simpa using this
     rw [this]
     exact v1_congr (fun j hj=>by rw [gd_sub _ _ _ _ hj]; simp [offs]) huv
    | tup xs =>
     have hne:¬ vs.toArray.size=1:=by
      simp only [List.size_toArray,q1]
      simpa [Sh.list,Sh.tupOk] using c4
     rw [dif_neg hne]
     exact ⟨vs.toArray,rfl,by simp [q1,Sh.list],fun j x hj=>by
      obtain ⟨u,hu,huv⟩:=q2 j x hj
      exact ⟨u,by simpa using hu,huv⟩⟩
   ·have:=hs.fresh b hb
    refine ⟨this.1,?_⟩
    show (match (sealG g ts).owner b with | some (Sum.inr t)=>(fwd pairs t).map Sum.inr | _=>none)=none
    rw [this.2]
 ·cases h
theorem look_start:∀ (args:List T) (k i:Nat),look i (startAt k args)=if k≤i then (args[i - k]?).getD .any else .any
 | [],k,i=>by simp [startAt,look]
 | v::vs,k,i=>by
  simp only [startAt,look]
  by_cases e:i=k
  ·subst e; simp
  ·rw [show (i==k)=false from by simpa using e,cond_false,look_start vs (k+1) i]
   by_cases h:k≤i
   ·rw [if_pos h,if_pos (by omega),show i - k=(i - (k+1))+1 from by omega]
    simp
   ·rw [if_neg h,if_neg (by omega)]
end
inductive WD (P:Program):S→D→Prop
 | int (k:IntKind) (d:D):WD P (.int k) d
 | bool (d:D):WD P .bool d
 | str (d:D):WD P .str d
 | opq (d:D):WD P .opq d
 | sl (e:TypeId) (d:D) (row:List S) (hr:rowOf P e=some row) (h1:d.rows.length≤9223372036854775807) (h2:∀ i j s,i<d.rows.length→row[j]?=some s→WD P s (gd (d.rows.getD i []) j)):WD P (.sl e) d
theorem VD.wd {P:Program} {w:World} {prot:Nat→Nat} {s:S} {x:D} {v:Value} (h:VD P w prot s x v):WD P s x:=by
 induction h with
 | int k d=>exact .int k d
 | bool d=>exact .bool d
 | str d=>exact .str d
 | opq d h=>exact .opq d
 | sl e d A c row u hr h1 h2 h3 h4 ih=>exact .sl e d row hr (Nat.le_trans h1 h2) ih
def WC (P:Program):Ce→D→Prop
 | .d s,x=>WD P s x
 | .cptr cells _,x=>∀ (j:Nat) s,cells[j]?=some s→WD P s (gd (x.rows.getD 0 []) j)
 | .own _ _ _,x=>x.rows.length≤9223372036854775807
 | _,_=>True
def WT (P:Program) (t:T):Prop:=
 match t.sh with
 | .one (.c c)=>WC P c (gd t.p 0)
 | .one (.agg xs)=>∀ (j:Nat) c,xs[j]?=some c→WC P c (gd t.p j)
 | .tup _=>True
theorem wc_of {P:Program} {w:World} {g:G} {base:Nat} {c:Ce} {x:D} {v:Value} (h:VC P w g base c x v):WC P c x:=by
 cases c with
 | d s=>exact VD.wd h
 | cptr cells off =>
  obtain ⟨b,o,_,_,h⟩:=h
  intro j s hs
  obtain ⟨u,_,h⟩:=h j s hs
  exact h.wd
 | own t xm e =>
  obtain ⟨row,_,h⟩:=h
  rcases h with ⟨h0,_⟩ | ⟨cap,arr,E,_,h2,h3,_⟩
  ·show x.rows.length≤_
   rw [h0]; simp
  ·exact Nat.le_trans h2 h3.1
 | _=>trivial
theorem wt_of {P:Program} {w:World} {g:G} {base:Nat} {t:T} {v:Value} (h:VT P w g base t v):WT P t:=by
 obtain ⟨sh,p⟩:=t
 cases sh with
 | tup xs=>trivial
 | one x=>cases x with
  | c c=>exact wc_of h
  | agg xs =>
   obtain ⟨arr,_,_,h⟩:=h
   intro j c hj
   obtain ⟨u,_,h⟩:=h j c hj
   exact wc_of h
theorem evFn_sound {P:Program} {call:FuncId→List T→Option (T × Bool)} (hcall:CallOk P call) {N:Nat} {ks:List Nat} {f:FuncId} {fn:Func} {rs:Sh} {args:List T} {key:Option Dom} {p:List D}
  (hen:∀ vs w,(callFunc f vs).run P w=.ok (.enter f vs) w) (hf:P.funcs[f]?=some fn) (h:(∀ t∈args,WT P t)→evFn P call N ks fn rs args=some (key,some (1,p))) (hisw:rs.isW=false:=by rfl):SoundFn P f args ⟨rs,p⟩:=by
 refine SoundFn.of hisw ⟨hen,fun w prot vs hargs hprot=>?_⟩
 replace h:=h fun t ht=>by
  obtain ⟨j,hj⟩:=List.getElem?_of_mem ht
  obtain ⟨u,_,h⟩:=hargs.2 j t hj
  exact wt_of h
 letI:Low:=⟨prot,fun b=>w.heap[b]?,fun b=>b<w.heap.size,fun _=>none,0,fun _ _ _ _=>True⟩
 unfold evFn at h
 split at h
 ·rename_i c hb
  cases hc:(dstsOk fn.ntmps c&&Nat.ble args.length fn.ntmps&&Nat.ble fn.ntmps 1000000) with
  | false=>rw [hc] at h; cases h
  | true =>
   rw [hc,cond_true] at h
   simp only [Bool.and_eq_true] at hc
   obtain ⟨hc,hcn⟩:=hc
   have hnt:fn.ntmps≤1000000:=Nat.le_of_ble_eq_true hcn
   have hle:args.length≤fn.ntmps:=Nat.le_of_ble_eq_true hc.2
   refine calls_of_wp hf hb ?_
   have hrel:Rel P w (g0 w.heap.size prot) w.heap.size (start args) { tmps:=vs++Array.replicate (fn.ntmps - vs.size) undef,defers:= [] }:=by
    refine ⟨fun i=>?_,fun id cs ds hl=>(by cases hl),fun b hb=>⟨hprot b hb,rfl⟩,Nat.le_refl _,⟨rfl,by simp only [Array.size_append,Array.size_replicate]; have:=hargs.1; omega⟩,⟨⟨rfl,rfl⟩,fun b hb=>⟨rfl,rfl,rfl,hb⟩,fun t x hx=>by cases hx⟩,fun _ _ _ _=>trivial⟩
    show VT P w (g0 w.heap.size prot) w.heap.size (look i (startAt 0 args)) _
    rw [look_start,if_pos (Nat.zero_le _),Nat.sub_zero]
    cases ht:args[i]? with
    | none=>trivial
    | some t =>
     obtain ⟨u,hu,huv⟩:=hargs.2 i t ht
     have hi:i<vs.size:=(Array.getElem?_eq_some_iff.1 hu).1
     have:(vs++Array.replicate (fn.ntmps - vs.size) undef).getD i undef=u:=by
      rw [Array.getD_eq_getD_getElem?,Array.getElem?_append_left hi,hu]; rfl
     rw [this]
     exact huv
   have hn:(vs++Array.replicate (fn.ntmps - vs.size) undef).size=fn.ntmps:=by
    have:=hargs.1
    simp; omega
   have hfin:∀ (a':Act) (w':World) (σ':St) (g':G) (key':Option Dom),retLeaf (finish P fn rs σ')=some (key',some (1,p))→Rel P w' g' w.heap.size σ' a'→Below w.heap.size w w'→a'.defers = []∧∃ v,(results fn a'.tmps).run P w'=.ok v w'∧∃ v' g',Ending.returned v=.returned v'∧Res P prot w w' ⟨rs,p⟩ v' g':=by
    intro a' w' σ' g' key' h1 h2 h3
    obtain ⟨p',k1,k2⟩:=retLeaf_ok h1
    injection k2 with _ k2
    subst k2
    obtain ⟨v,g2,q1,q2,q3,q4⟩:=finish_ok h2 k1
    exact ⟨h2.defers.1,v,q1,v,g2,rfl,h3,q2,q3,q4⟩
   exact evCode_ok hcall c (start args) _ _ _ key (1,p) w (g0 w.heap.size prot) _ _ hc.1 h hrel hn (Below.refl _ _)
    ⟨fun σ' w' g' a' key' h1 h2 h3 h4=>hfin a' w' σ' g' key' h1 h2 h4,fun j σ' w' g' a' key' h1=>(by cases h1),fun σ' w' g' a' key' h1 h2 h3 h4=>hfin a' w' σ' g' key' h1 h2 h4⟩
 ·cases h
end Go.Proofs.YthbbbhpjkgpdcaaGreat
namespace Go.Proofs.YthbbbhpjkgpdcaaGreat
open Go.RowKit
theorem ces_len (x:Sh1):x.ces.length=x.size:=by cases x <;> rfl
theorem offs_lt:∀ {xs:List Sh1} {j i:Nat} {z:Sh1},xs[j]?=some z→i<z.size→offs xs j+i<(xs.flatMap Sh1.ces).length
 | [],j,i,z,h,_=>by simp at h
 | x::xs,0,i,z,h,hi=>by
  simp only [List.getElem?_cons_zero,Option.some.injEq] at h
  subst h
  simp only [offs,List.take_zero,List.foldr_nil,List.flatMap_cons,List.length_append,ces_len]
  omega
 | x::xs,j+1,i,z,h,hi=>by
  have:=offs_lt (xs:=xs) (j:=j) (by simpa using h) hi
  simp only [offs,List.take_succ_cons,List.foldr_cons,List.flatMap_cons,List.length_append,ces_len] at this ⊢
  omega
section
variable [Low] {P:Program} {w w':World} {g g':G} {base:Nat} {σ:St} {a:Act}
theorem finishP_ok (hr:Rel P w g base σ a) {fn:Func} {cs2:List Ce} {res:List Sh1} {p:List D} (h:finishP P fn (.tup (.agg [.any]::.agg cs2::res)) σ=some p) :
  ∃ v g',(results fn a.tmps).run P w=.ok v w∧g'.old=g.old∧(∀ k,g.owner k=none→g'.prot k=g.prot k∧g'.owner k=none)∧(∀ b,w.heap.size≤b→g'.prot b=0∧g'.owner b=none) ∧
   (g'.prot (g.θ 1000000)=0∧∀ t,g'.owner (g.θ 1000000)≠some (.inr t))∧(∃ arr E,w.heap[g.θ 1000000]?=some (.cells arr E (0,0))∧VCs P w g' base cs2 (sub p 1 cs2.length) arr) ∧
   VT P w g' base ⟨tupOf res,sub p (1+cs2.length) (res.flatMap Sh1.ces).length⟩ v:=by
 unfold finishP at h
 split at h
 ·rename_i cs2' res' cs ds shs p0 he hbox hres
  simp only [Sh.tup.injEq,List.cons.injEq,Sh1.agg.injEq,true_and] at he
  obtain ⟨rfl,rfl⟩:=he
  generalize hxs:(Sh1.agg (cs.map wideC)::shs)=xs at h
  generalize hts:lend (outCes xs) (outCes (.agg cs2::res))=ts at h
  generalize hpr:given (outCes xs) (outCes (.agg cs2::res))=pairs at h
  cases hc:(fit (xs.map (Sh1.map (sealC ts))) (.agg cs2::res)&&nodupB (pairs.map (·.1))&&nodupB (pairs.map (·.2))) with
  | false=>rw [hc] at h; cases h
  | true =>
   rw [hc,cond_true] at h
   injection h with h
   subst h
   simp only [Bool.and_eq_true] at hc
   obtain ⟨⟨c1,c2⟩,c3⟩:=hc
   obtain ⟨b1,b2,b3,b4,arr,E,b5,b6⟩:=hr.box _ _ _ hbox
   obtain ⟨vs,k1,k2⟩:=results1_ok hr hres
   have hwl:=len_wideDs cs ds 0
   have hxl:VL P w g base xs (wideDs cs ds 0++p0) (.agg arr::vs):=by
    rw [← hxs]
    refine ⟨v1_congr (p:=wideDs cs ds 0) (fun j hj=>(gd_append_left ?_).symm) ⟨arr,rfl,vcs_wide b6⟩,?_⟩
    ·rw [hwl]; simpa [Sh1.size] using hj
    ·rw [show (Sh1.agg (cs.map wideC)).size=(wideDs cs ds 0).length from by rw [hwl]; simp [Sh1.size],List.drop_left]
     exact k2
   have k3:=fit_ok c2 c3 c1 (fun q hq=>by rw [← hpr]; exact hq) (vl_kept (kept_seal g ts w) hxl)
   have hs:=hr.seal ts
   obtain ⟨k3a,k3b⟩:=k3
   obtain ⟨arr9,e9,hv9⟩:=k3a
   injection e9 with e9
   subst e9
   obtain ⟨q1,q2⟩:=vl_get k3b
   have hrun:(results fn a.tmps).run P w=.ok (if h:vs.toArray.size=1 then vs.toArray[0] else .tuple vs.toArray) w:=by
    have e:results fn a.tmps=(do let vs ← fn.results.mapM (resVar a.tmps); pure (if h:vs.size=1 then vs[0] else .tuple vs)):=by
     unfold results
     congr 1
    rw [e,Array.mapM_eq_mapM_toList]
    simp only [Sem.run_bind,Sem.run_map,k1,Result.andThen_ok,Sem.run_pure]
   have hnone:∀ k,g.owner k=none→(giveG (sealG g ts) pairs).prot k=g.prot k∧(giveG (sealG g ts) pairs).owner k=none:=fun k hk=>by
    refine ⟨seal_none hk,?_⟩
    show (match (sealG g ts).owner k with | some (Sum.inr t)=>(fwd pairs t).map Sum.inr | _=>none)=none
    rw [show (sealG g ts).owner k=none from hk]
   refine ⟨_,giveG (sealG g ts) pairs,hrun,rfl,hnone,fun b hb=>?_,⟨?_,fun t=>?_⟩,⟨arr,E,b5,?_⟩,?_⟩
   ·obtain ⟨z1,z2⟩:=hr.fresh b hb
    obtain ⟨y1,y2⟩:=hnone b z2
    exact ⟨y1.trans z1,y2⟩
   ·show (sealG g ts).prot _=0
    rw [seal_box b2]; exact b3
   ·show (match (sealG g ts).owner (g.θ 1000000) with | some (Sum.inr t)=>(fwd pairs t).map Sum.inr | _=>none)≠_
    rw [show (sealG g ts).owner (g.θ 1000000)=some (.inl 1000000) from b2]
    simp
   ·refine ⟨hv9.1,fun j c hj=>?_⟩
    obtain ⟨u,hu,hv⟩:=hv9.2 j c hj
    refine ⟨u,hu,?_⟩
    rw [gd_sub _ _ _ _ (List.getElem?_eq_some_iff.1 hj).1,show 1+j=j+1 from by omega,gd_cons_succ]
    exact hv
   ·have hgd:∀ i j n,i+j<n→gd (sub (D0::(wideDs cs ds 0++p0)) (1+cs2.length) n) (i+j)=gd ((wideDs cs ds 0++p0).drop (Sh1.agg cs2).size) (i+j):=fun i j n h=>by
     rw [gd_sub _ _ _ _ h,show 1+cs2.length+(i+j)=(cs2.length+(i+j))+1 from by omega,gd_cons_succ,gd_drop]
     rfl
    cases res with
    | nil =>
     have hl:vs = []:=List.eq_nil_of_length_eq_zero (by rw [q1]; rfl)
     subst hl
     exact ⟨#[],rfl,rfl,fun j x hj=>by simp at hj⟩
    | cons x rest=>cases rest with
     | nil =>
      have hl:vs.length=1:=by rw [q1]; rfl
      obtain ⟨u,hu,huv⟩:=q2 0 x rfl
      rw [dif_pos (by simpa using hl)]
      have:vs.toArray[0]'(by simp [hl])=u:=by
       have:=hu
       rw [List.getElem?_eq_getElem (by omega)] at this
       simpa using this
      rw [this]
      refine v1_congr (fun j hj=>?_) huv
      rw [gd_sub _ _ _ _ hj]
      have:=hgd 0 j ([x].flatMap Sh1.ces).length (by simp [ces_len]; exact hj)
      simp only [Nat.zero_add] at this
      rw [show offs [x] 0+j=j from by simp [offs]]
      exact this.symm
     | cons y ys =>
      have hne:¬ vs.toArray.size=1:=by
       simp only [List.size_toArray,q1,List.length_cons]
       omega
      rw [dif_neg hne]
      refine ⟨vs.toArray,rfl,by simp [q1],fun j z hj=>?_⟩
      obtain ⟨u,hu,huv⟩:=q2 j z hj
      refine ⟨u,by simpa using hu,v1_congr (fun i hi=>?_) huv⟩
      rw [gd_sub _ _ _ _ hi,gd_sub _ _ _ _ hi]
      exact (hgd _ _ _ (offs_lt hj hi)).symm
 ·cases h
end
theorem evFnP_sound {P:Program} {call:FuncId→List T→Option (T × Bool)} (hcall:CallOk P call) {N:Nat} {ks:List Nat} {f:FuncId} {fn:Func} {rs:Sh} {cs1:List Ce} {ds1:List D} {rest:List T} {key:Option Dom} {p:List D}
  (hen:∀ vs w,(callFunc f vs).run P w=.ok (.enter f vs) w) (hf:P.funcs[f]?=some fn) (h:WT P ⟨.one (.agg cs1),ds1⟩→(∀ t∈rest,WT P t)→evFnP P call N ks fn rs (⟨.tup [.agg cs1],ds1⟩::rest)=some (key,some (1,p))) (hisp:rs.isP=true:=by rfl):SoundFn P f (⟨.tup [.agg cs1],ds1⟩::rest) ⟨rs,p⟩:=by
 refine SoundFn.ofP hisp ⟨hen,fun cs1' ds1' rest' cs2 res hargs hrs w g b vs hst=>?_⟩
 simp only [List.cons.injEq,T.mk.injEq,Sh.tup.injEq,Sh1.agg.injEq,and_true] at hargs
 obtain ⟨⟨rfl,rfl⟩,rfl⟩:=hargs
 have hrs:rs=.tup (.agg [.any]::.agg cs2::res):=hrs
 subst hrs
 obtain ⟨arr,E,hb1,hb2⟩:=hst.cells
 replace h:=h (fun j c hj=>by obtain ⟨u,_,hv⟩:=hb2.2 j c hj; exact wc_of hv) fun t ht=>by
  obtain ⟨j,hj⟩:=List.getElem?_of_mem ht
  obtain ⟨u,_,h⟩:=hst.args j t hj
  exact wt_of h
 letI:Low:=⟨g.prot,fun k=>w.heap[k]?,g.old,fun _=>none,b,fun _ _ _ _=>True⟩
 unfold evFnP at h
 split at h
 ·rename_i c cs9 ds9 rest9 hb he
  simp only [List.cons.injEq,T.mk.injEq,Sh.tup.injEq,Sh1.agg.injEq,and_true] at he
  obtain ⟨⟨rfl,rfl⟩,rfl⟩:=he
  cases hc:(dstsOk fn.ntmps c&&Nat.ble (⟨.tup [.agg cs1],ds1⟩::rest:List T).length fn.ntmps&&Nat.ble fn.ntmps 1000000) with
  | false=>rw [hc] at h; cases h
  | true =>
   rw [hc,cond_true] at h
   simp only [Bool.and_eq_true] at hc
   obtain ⟨hc,hcn⟩:=hc
   have hnt:fn.ntmps≤1000000:=Nat.le_of_ble_eq_true hcn
   have hle:rest.length+1≤fn.ntmps:=Nat.le_of_ble_eq_true hc.2
   refine calls_of_wp hf hb ?_
   have hvs:(#[Value.pointer (some ⟨b,0,none⟩)]++vs).size=rest.length+1:=by simp [hst.size]; omega
   have hn:(#[Value.pointer (some ⟨b,0,none⟩)]++vs++Array.replicate (fn.ntmps - (#[Value.pointer (some ⟨b,0,none⟩)]++vs).size) undef).size=fn.ntmps:=by
    rw [Array.size_append,hvs]; simp; omega
   have hrel:Rel P w g 0 (startP cs1 ds1 rest) { tmps:= #[Value.pointer (some ⟨b,0,none⟩)]++vs++Array.replicate (fn.ntmps - (#[Value.pointer (some ⟨b,0,none⟩)]++vs).size) undef,defers:= [] }:=by
    refine ⟨fun i=>?_,fun id cs ds hl=>?_,hst.fresh,Nat.zero_le _,⟨rfl,by show Array.size _≤_; rw [hn]; exact hnt⟩,⟨⟨rfl,hst.box⟩,fun k hk=>⟨(hst.old k hk).1,rfl,rfl,(hst.old k hk).2⟩,fun t x hx=>by cases hx⟩,fun _ _ _ _=>trivial⟩
    ·show VT P w g 0 (look i (startAt 0 (.c (.ptr 1000000 0) D0::rest))) _
     rw [look_start,if_pos (Nat.zero_le _),Nat.sub_zero]
     cases i with
     | zero =>
      have:(#[Value.pointer (some ⟨b,0,none⟩)]++vs++Array.replicate (fn.ntmps - (#[Value.pointer (some ⟨b,0,none⟩)]++vs).size) undef).getD 0 undef=.pointer (some ⟨b,0,none⟩):=by
       rw [Array.getD_eq_getD_getElem?,Array.getElem?_append_left (by rw [hvs]; omega),Array.getElem?_append_left (by simp)]
       rfl
      rw [this]
      show _=Value.pointer (some ⟨g.θ 1000000,0,none⟩)
      rw [hst.box]
     | succ i =>
      simp only [List.getElem?_cons_succ]
      cases ht:rest[i]? with
      | none=>trivial
      | some t =>
       obtain ⟨u,hu,huv⟩:=hst.args i t ht
       have hi:i<vs.size:=(Array.getElem?_eq_some_iff.1 hu).1
       have:(#[Value.pointer (some ⟨b,0,none⟩)]++vs++Array.replicate (fn.ntmps - (#[Value.pointer (some ⟨b,0,none⟩)]++vs).size) undef).getD (i+1) undef=u:=by
        rw [Array.getD_eq_getD_getElem?,Array.getElem?_append_left (by rw [hvs,← hst.size]; omega),Array.getElem?_append_right (by simp)]
        simp [hu]
       rw [this]
       exact huv
    ·have hl:(bif id==1000000 then some (cs1,sub ds1 0 cs1.length) else none)=some (cs,ds):=hl
     cases hid:(id==1000000) with
     | false=>rw [hid] at hl; cases hl
     | true =>
      rw [hid,cond_true] at hl
      have hid:id=1000000:=by simpa using hid
      subst hid
      injection hl with hl
      injection hl with l1 l2
      subst l1; subst l2
      refine ⟨Nat.zero_le _,by rw [hst.box]; exact hst.owner,by rw [hst.box]; exact hst.prot,sub_length _ _ _,arr,E,by rw [hst.box]; exact hb1,hb2.1,fun j c hj=>?_⟩
      obtain ⟨u,hu,hv⟩:=hb2.2 j c hj
      exact ⟨u,hu,by rw [gd_sub _ _ _ _ (List.getElem?_eq_some_iff.1 hj).1,Nat.zero_add]; exact hv⟩
   have hfin:∀ (a':Act) (w':World) (σ':St) (g':G) (key':Option Dom),retLeaf (finishP P fn (.tup (.agg [.any]::.agg cs2::res)) σ')=some (key',some (1,p))→Rel P w' g' 0 σ' a'→Below 0 w w'→a'.defers = []∧∃ v,(results fn a'.tmps).run P w'=.ok v w'∧∃ v' g',Ending.returned v=.returned v'∧EndP P w w' g g' b cs2 res p v':=by
    intro a' w' σ' g' key' h1 h2 h3
    obtain ⟨p',k1,k2⟩:=retLeaf_ok h1
    injection k2 with _ k2
    subst k2
    obtain ⟨v,g2,q1,q2,q3,q4,q5,q6,q7⟩:=finishP_ok h2 k1
    have hθ:g'.θ 1000000=b:=h2.low.1.2
    rw [hθ] at q5 q6
    refine ⟨h2.defers.1,v,q1,v,g2,rfl,h3.os,h3.tape,h3.output,h3.size,fun k hk=>?_,q4,q5,q6,q7⟩
    have hk':g'.old k:=by rw [h2.low.1.1]; exact hk
    obtain ⟨z1,z2,z3,z4⟩:=h2.low.2.1 k hk'
    obtain ⟨y1,y2⟩:=q3 k z1
    exact ⟨z3,y1.trans z2,y2⟩
   exact evCode_ok hcall c (startP cs1 ds1 rest) _ _ _ key (1,p) w g _ _ hc.1 h hrel hn (Below.refl _ _)
    ⟨fun σ' w' g' a' key' h1 h2 h3 h4=>hfin a' w' σ' g' key' h1 h2 h4,fun j σ' w' g' a' key' h1=>(by cases h1),fun σ' w' g' a' key' h1 h2 h3 h4=>hfin a' w' σ' g' key' h1 h2 h4⟩
 ·cases h
theorem TR.wd {P:Program} {w:World} {lab:Nat→List (Nat × Nat)→Nat→Prop} {π:List (Nat × Nat)} {s:S} {x:D} {v:Value} (h:TR P w lab π s x v):WD P s x:=by
 induction h with
 | int π k d=>exact .int k d
 | bool π d=>exact .bool d
 | str π d=>exact .str d
 | nil π e d A hr h =>
  obtain ⟨row,hr⟩:=Option.isSome_iff_exists.1 hr
  exact .sl e d row hr (by rw [h]; simp) (fun i j s hi=>by rw [h] at hi; simp at hi)
 | sl π e d b cap row arr u hr h1 h2 h3 h4 h5 h6 h7 ih=>exact .sl e d row hr (Nat.le_trans h1 h2) ih
theorem mine_get:∀ {cs:List Ce} {k j:Nat} {c:Ce},(mineCs k cs)[j]?=some c→∃ c0,cs[j]?=some c0∧c=mineC (k+j) c0
 | [],k,j,c,h=>by simp [mineCs] at h
 | c0::cs,k,0,c,h=>by
  simp only [mineCs,List.getElem?_cons_zero,Option.some.injEq] at h
  exact ⟨c0,rfl,h.symm⟩
 | c0::cs,k,j+1,c,h=>by
  obtain ⟨c1,h1,h2⟩:=mine_get (cs:=cs) (k:=k+1) (j:=j) (by simpa [mineCs] using h)
  exact ⟨c1,by simpa using h1,by rw [h2,show k+1+j=k+(j+1) from by omega]⟩
theorem mine_len:∀ (cs:List Ce) (k:Nat),(mineCs k cs).length=cs.length
 | [],_=>rfl
 | c::cs,k=>by simp [mineCs,mine_len cs]
theorem outM_get:∀ (cs:List Ce) (k:Nat) (q p:List D) (j:Nat) c,cs[j]?=some c→gd (outM cs k q p) j=(match c with | .own _ _ _=>gd p (k+j) | _=>gd q (k+j))
 | [],k,q,p,j,c,h=>by simp at h
 | c0::cs,k,q,p,0,c,h=>by
  simp only [List.getElem?_cons_zero,Option.some.injEq] at h
  subst h
  cases c0 <;> rfl
 | c0::cs,k,q,p,j+1,c,h=>by
  have:=outM_get cs (k+1) q p j c (by simpa using h)
  rw [show k+(j+1)=k+1+j from by omega,← this]
  cases c0 <;> rfl
def blkOf:Option Value→Nat
 | some (.slice (some A) _ _)=>A.block
 | _=>0
def capOfV:Option Value→Nat
 | some (.slice (some _) _ cap)=>cap
 | _=>0
def etyOf:Option S→TypeId
 | some (.sl e)=>e
 | _=>0
def widOf (P:Program) (e:TypeId):Nat:=((rowOf P e).getD []).length
open Classical in
noncomputable def mineG (P:Program) (w:World) (lab:Nat→List (Nat × Nat)→Nat→Prop) (ss:List S) (ds:List D) (us:Array Value):G:=
 { prot:=fun _=>0,owner:=fun b=>if h:b<w.heap.size∧∃ q:Nat × List (Nat × Nat) × Nat,lab b ((0,q.1)::q.2.1) q.2.2 then some (.inr (1000001,1000000+h.2.choose.1)) else none,θ:=fun _=>0,ρ:=fun t=>blkOf (us[t.2 - 1000000]?),len:=fun t=>(gd ds (t.2 - 1000000)).rows.length,wid:=fun t=>widOf P (etyOf (ss[t.2 - 1000000]?)),ety:=fun t=>etyOf (ss[t.2 - 1000000]?),path:=fun b=>if h:b<w.heap.size∧∃ q:Nat × List (Nat × Nat) × Nat,lab b ((0,q.1)::q.2.1) q.2.2 then h.2.choose.2.1 else [],need:=fun b=>if h:b<w.heap.size∧∃ q:Nat × List (Nat × Nat) × Nat,lab b ((0,q.1)::q.2.1) q.2.2 then h.2.choose.2.2 else 0,old:=fun b=>b<w.heap.size∧¬ ∃ q:Nat × List (Nat × Nat) × Nat,lab b ((0,q.1)::q.2.1) q.2.2 }
theorem mineG_lab {P:Program} {w:World} {lab:Nat→List (Nat × Nat)→Nat→Prop} {ss:List S} {ds:List D} {us:Array Value} (hfun:∀ b π π' n n',lab b π n→lab b π' n'→π=π'∧n=n') {b j n:Nat} {r:List (Nat × Nat)} (hb:b<w.heap.size) (h:lab b ((0,j)::r) n) :
  (mineG P w lab ss ds us).owner b=some (.inr (1000001,1000000+j))∧(mineG P w lab ss ds us).path b=r∧(mineG P w lab ss ds us).need b=n:=by
 have hc:b<w.heap.size∧∃ q:Nat × List (Nat × Nat) × Nat,lab b ((0,q.1)::q.2.1) q.2.2:=⟨hb,(j,r,n),h⟩
 obtain ⟨h1,h2⟩:=hfun _ _ _ _ _ hc.2.choose_spec h
 injection h1 with h1 h3
 injection h1 with _ h1
 refine ⟨?_,?_,?_⟩
 ·simp only [mineG,dif_pos hc,h1]
 ·simp only [mineG,dif_pos hc,h3]
 ·simp only [mineG,dif_pos hc]
  exact h2
theorem mineG_of {P:Program} {w:World} {lab:Nat→List (Nat × Nat)→Nat→Prop} {ss:List S} {ds:List D} {us:Array Value} {b:Nat} {t:Tok} (h:(mineG P w lab ss ds us).owner b=some (.inr t)) :
  ∃ j,t=(1000001,1000000+j)∧lab b ((0,j)::(mineG P w lab ss ds us).path b) ((mineG P w lab ss ds us).need b):=by
 by_cases hc:b<w.heap.size∧∃ q:Nat × List (Nat × Nat) × Nat,lab b ((0,q.1)::q.2.1) q.2.2
 ·simp only [mineG,dif_pos hc] at h ⊢
  injection h with h
  injection h with h
  exact ⟨_,h.symm,hc.2.choose_spec⟩
 ·simp only [mineG,dif_neg hc] at h
  cases h
theorem mine_vc {P:Program} {w:World} {lab:Nat→List (Nat × Nat)→Nat→Prop} {ss:List S} {ds:List D} {us:Array Value} (hfun:∀ b π π' n n',lab b π n→lab b π' n'→π=π'∧n=n') {j:Nat} {s:S} {z:Value} (hs:ss[j]?=some s) (hz:us[j]?=some z) (h:TR P w lab [(0,j)] s (gd ds j) z) :
  VC P w (mineG P w lab ss ds us) 0 (mineC j (.d s)) (gd ds j) z:=by
 cases s with
 | sl e =>
  have ej:(1000000+j) - 1000000=j:=by omega
  have e1:(mineG P w lab ss ds us).ρ (1000001,1000000+j)=blkOf (some z):=by show blkOf (us[(1000000+j) - 1000000]?)=_; rw [ej,hz]
  have e2:(mineG P w lab ss ds us).len (1000001,1000000+j)=(gd ds j).rows.length:=by show (gd ds ((1000000+j) - 1000000)).rows.length=_; rw [ej]
  have e4:(mineG P w lab ss ds us).ety (1000001,1000000+j)=e:=by show etyOf (ss[(1000000+j) - 1000000]?)=_; rw [ej,hs]; rfl
  have e3:(mineG P w lab ss ds us).wid (1000001,1000000+j)=widOf P e:=by show widOf P (etyOf (ss[(1000000+j) - 1000000]?))=_; rw [ej,hs]; rfl
  have hd:deepT (1000001,1000000+j)=true:=by show Nat.ble 1000000 (1000000+j)=true; simp
  show ∃ row,rowOf P e=some row∧OwnV P w _ 0 (1000001,1000000+j) true e row (gd ds j).rows z
  generalize hx:gd ds j=x at *
  generalize hπ : [(0,j)]=π at *
  cases h with
  | nil _ _ _ A hr h0 =>
   obtain ⟨row,hr⟩:=Option.isSome_iff_exists.1 hr
   exact ⟨row,hr,.inl ⟨h0,by rw [e2,h0]; rfl,A,rfl⟩⟩
  | sl _ _ _ b cap row arr u hr h1 h2 h3 h4 h5 h6 h7 =>
   subst hπ
   have hw:widOf P e=row.length:=by simp [widOf,hr]
   obtain ⟨m1,m2,m3⟩:=mineG_lab (P:=P) (ss:=ss) (ds:=ds) (us:=us) hfun (lt_of_heap h4) h3
   have hb:blkOf (some (Value.slice (some ⟨b,0,none⟩) x.rows.length cap))=b:=rfl
   rw [hb] at e1
   refine ⟨row,hr,.inr ⟨cap,arr,e,by rw [e1],h1,⟨h2,rfl,e4.symm⟩,Nat.zero_le _,by rw [e1]; exact m1,by rw [e1]; exact h4,h5,e2.symm,by rw [e3,hw],rfl,fun i j' s hi hs'=>?_⟩⟩
   have hj':=(List.getElem?_eq_some_iff.1 hs').1
   refine ⟨u i j',h6 i j' hi hj',.of_tr ?_ hd⟩
   refine TR.monoQ (fun π=>∃ r,π=(0,j)::r∧r ≠ []) (fun π y ⟨r,hr,hne⟩=>⟨r ++ [y],by rw [hr]; rfl,by simp⟩) List.tail (fun π y ⟨r,hr,hne⟩=>by rw [hr]; rfl) (h7 i j' s hi hs') (fun b' π n o ⟨r,hπ,hne⟩ hl hbb=>⟨hbb,?_⟩) ⟨[(i,j')],rfl,by simp⟩
   subst hπ
   obtain ⟨n1,n2,n3⟩:=mineG_lab (P:=P) (ss:=ss) (ds:=ds) (us:=us) hfun (lt_of_heap hbb) hl
   refine ⟨Nat.zero_le _,n1,fun e=>?_,n2,n3,rfl⟩
   rw [e1] at e
   subst e
   have:=(hfun _ _ _ _ _ hl h3).1
   injection this with _ this
   exact hne this
 | int k =>
  have:z=.int k (gd ds j).int:=by cases h; rfl
  subst this
  exact VD.int k _
 | bool =>
  have:z=.bool (gd ds j).bool:=by cases h; rfl
  subst this
  exact VD.bool _
 | str =>
  have:z=.string (bsv (gd ds j).str):=by cases h; rfl
  subst this
  exact VD.str _
 | opq=>cases h
theorem mine_back {P:Program} {w w':World} {lab:Nat→List (Nat × Nat)→Nat→Prop} {ss:List S} {ds:List D} {us:Array Value} {g':G} (hfun:∀ b π π' n n',lab b π n→lab b π' n'→π=π'∧n=n') {j:Nat} {e:TypeId} {z u:Value} {x:D} (hs:ss[j]?=some (.sl e)) (hz:us[j]?=some z) (h:TR P w lab [(0,j)] (.sl e) (gd ds j) z)
  (hlen:g'.len (1000001,1000000+j)=(gd ds j).rows.length) (hρ:g'.ρ (1000001,1000000+j)=blkOf (some z)) (hroom:0<capOfV (some z)*widOf P e→∃ arr,w'.heap[blkOf (some z)]?=some (.cells arr e (0,0))∧arr.size=capOfV (some z)*widOf P e)
  (hv:VC P w' g' 0 (.own (1000001,1000000+j) true e) x u)
  (hlab:∀ b π n,g'.owner b=some (.inr (1000001,1000000+j))→b≠g'.ρ (1000001,1000000+j)→g'.path b=π→π ≠ []→g'.need b=n→lab b ((0,j)::π) n):TR P w' lab [(0,j)] (.sl e) x z:=by
 obtain ⟨row,hrow,hv⟩:=hv
 have hw:widOf P e=row.length:=by simp [widOf,hrow]
 letI:Low:=noLow
 have hpos:=rowOf_pos hrow
 have hxl:x.rows.length=(gd ds j).rows.length:=by
  rcases hv with ⟨h0,h1,_⟩ | ⟨cap,arr,E,_,_,_,_,_,_,_,h8,_⟩
  ·rw [h0,← hlen,h1]; rfl
  ·rw [h8,hlen]
 generalize hx0:gd ds j=x0 at *
 generalize hπ : [(0,j)]=π at *
 cases h with
 | nil _ _ _ A hr h0 =>
  have:x.rows = []:=List.eq_nil_of_length_eq_zero (by rw [hxl,h0]; rfl)
  have h0':x0.rows = []:=h0
  exact .nil _ _ _ _ hr this
 | sl _ _ _ b cap row' arr0 u0 hr h1 h2 h3 h4 h5 h6 h7 =>
  subst hπ
  rw [hrow] at hr; injection hr with hr; subst hr
  have hb:blkOf (some (Value.slice (some ⟨b,0,none⟩) x0.rows.length cap))=b:=rfl
  have hcp:capOfV (some (Value.slice (some ⟨b,0,none⟩) x0.rows.length cap))=cap:=rfl
  rw [hb] at hρ hroom
  rw [hcp,hw] at hroom
  rw [← hxl]
  by_cases hc0:cap=0
  ·subst hc0
   have:x.rows = []:=List.eq_nil_of_length_eq_zero (by omega)
   rw [this]
   exact .nil _ _ _ _ (by rw [hrow]; rfl) this
  ·obtain ⟨arr1,r1,r2⟩:=hroom (Nat.mul_pos (by omega) hpos)
   rcases hv with ⟨k0,k1,_⟩ | ⟨cap',arr',E',k1,k2,⟨k3,kE,k3'⟩,k4,k5,k6,k7,k8,k9,k10,k11⟩
   ·refine .sl _ e x b cap row arr1 (fun _ _=>undef) hrow (by rw [k0]; simp) h2 (by rw [hxl]; exact h3) r1 r2 (fun i j hi=>by rw [k0] at hi; simp at hi) (fun i j s hi=>by rw [k0] at hi; simp at hi)
   ·rw [hρ] at k6
    rw [r1] at k6
    injection k6 with k6
    injection k6 with k6 _
    subst k6
    refine .sl _ e x b cap row arr1 (fun i j=>arr1[i*row.length+j]?.getD undef) hrow (by rw [hxl]; exact h1) h2 (by rw [hxl]; exact h3) r1 r2 (fun i j' hi hj'=>?_) (fun i j' s hi hs'=>?_)
    ·obtain ⟨z1,q1,_⟩:=k11 i j' _ hi (List.getElem?_eq_getElem hj')
     rw [q1]; rfl
    ·obtain ⟨z1,q1,q2⟩:=k11 i j' s hi hs'
     simp only [q1]
     change TR P w' lab _ s _ z1
     have hd:deepT (1000001,1000000+j)=true:=by show Nat.ble 1000000 (1000000+j)=true; simp
     refine TR.mono (fun π=>(0,j)::π) (fun π y _=>rfl) (q2.tr hd) (fun b' π n o hne hl ho=>⟨ho,?_⟩) (by simp)
     obtain ⟨l0,l1,l2,l3,l4,l5⟩:=hl
     exact hlab b' π n l1 l2 l3 hne l4
theorem ces_mine {q:T} {ss:List S} {x:Sh1} (hq:(∃ s d,q=.c (.d s) d∧ss = [s])∨(∃ ds,q=⟨.one (.agg (ss.map .d)),ds⟩)) (hx:(mineT q).sh=.one x) {j:Nat} {s:S} (hs:ss[j]?=some s):x.ces[j]?=some (mineC j (.d s)):=by
 rcases hq with ⟨s0,d,rfl,rfl⟩ | ⟨ds,rfl⟩
 ·have hx:Sh.one (.c (mineC 0 (.d s0)))=.one x:=hx
  injection hx with hx
  subst hx
  cases j with
  | zero =>
   simp only [List.getElem?_cons_zero,Option.some.injEq] at hs
   subst hs
   rfl
  | succ j=>simp at hs
 ·have hx:Sh.one (.agg (mineCs 0 (ss.map .d)))=.one x:=hx
  injection hx with hx
  subst hx
  have hj:=(List.getElem?_eq_some_iff.1 hs).1
  obtain ⟨c,hc⟩:∃ c,(mineCs 0 (ss.map .d))[j]?=some c:=⟨_,List.getElem?_eq_getElem (by rw [mine_len]; simpa using hj)⟩
  obtain ⟨c0,h1,h2⟩:=mine_get hc
  rw [List.getElem?_map,hs] at h1
  injection h1 with h1
  subst h1
  rw [Nat.zero_add] at h2
  subst h2
  exact hc
theorem evFnM_sound {P:Program} {call:FuncId→List T→Option (T × Bool)} (hcall:CallOk P call) {N:Nat} {ks:List Nat} {f:FuncId} {fn:Func} {q:T} {kd:D} {key:Option Dom} {p:List D}
  (hen:∀ vs w,(callFunc f vs).run P w=.ok (.enter f vs) w) (hf:P.funcs[f]?=some fn) (h:WT P q→evFnM P call N ks fn [q,.c (.d (.int .i64)) kd]=some (key,some (1,p))):SoundFn P f [q,.c (.d (.int .i64)) kd] ⟨shM,p⟩:=by
 refine SoundFn.ofM rfl ⟨hen,fun q' kd' ss hargs w lab u us hform hTR hfun=>?_⟩
 simp only [List.cons.injEq,T.mk.injEq,and_true,true_and] at hargs
 obtain ⟨rfl,rfl⟩:=hargs
 have hq:(∃ s d,q=.c (.d s) d∧ss = [s])∨(∃ ds,q=⟨.one (.agg (ss.map .d)),ds⟩):=by
  rcases hform with ⟨s,d,h1,h2,_⟩ | ⟨ds,h1,_⟩
  ·exact .inl ⟨s,d,h1,h2⟩
  ·exact .inr ⟨ds,h1⟩
 replace h:=h (by
  rcases hq with ⟨s,d,rfl,rfl⟩ | ⟨ds,rfl⟩
  ·obtain ⟨z,_,hz⟩:=hTR.2 0 s rfl
   exact hz.wd
  ·haveI:Low:=noLow
   intro j c hj
   obtain ⟨s,hs,rfl⟩:=map_get hj
   obtain ⟨z,_,hz⟩:=hTR.2 j s hs
   exact hz.wd)
 let g:=mineG P w lab ss q.p us
 letI:Low:=⟨fun _=>0,fun b=>w.heap[b]?,g.old,fun t=>match ss[t.2 - 1000000]? with
  | some (.sl e)=>if t.1=1000001∧1000000≤t.2 then some (g.ρ t,g.len t,capOfV (us[t.2 - 1000000]?)*widOf P e,e) else none
  | _=>none,0,fun b t π n=>∀ j,t=(1000001,1000000+j)→lab b ((0,j)::π) n⟩
 unfold evFnM at h
 split at h
 ·rename_i c q9 k9 hb he
  simp only [List.cons.injEq,and_true] at he
  obtain ⟨rfl,rfl⟩:=he
  cases hc:(dstsOk fn.ntmps c&&Nat.ble 2 fn.ntmps&&Nat.ble fn.ntmps 1000000) with
  | false=>rw [hc] at h; cases h
  | true =>
   rw [hc,cond_true] at h
   simp only [Bool.and_eq_true] at hc
   obtain ⟨hc,hcn⟩:=hc
   have hnt:fn.ntmps≤1000000:=Nat.le_of_ble_eq_true hcn
   have hle:2≤fn.ntmps:=Nat.le_of_ble_eq_true hc.2
   refine calls_of_wp hf hb ?_
   have hn:(#[u,.int .i64 kd.int]++Array.replicate (fn.ntmps - (#[u,Value.int .i64 kd.int]).size) undef).size=fn.ntmps:=by
    simp; omega
   have hg0:((#[u,.int .i64 kd.int]++Array.replicate (fn.ntmps - (#[u,Value.int .i64 kd.int]).size) undef).getD 0 undef)=u:=by
    rw [Array.getD_eq_getD_getElem?,Array.getElem?_append_left (by simp)]; rfl
   have hg1:((#[u,.int .i64 kd.int]++Array.replicate (fn.ntmps - (#[u,Value.int .i64 kd.int]).size) undef).getD 1 undef)=.int .i64 kd.int:=by
    rw [Array.getD_eq_getD_getElem?,Array.getElem?_append_left (by simp)]; rfl
   have hmine:∀ b t,t.1=1000001→g.owner b=some (.inr t)→∀ j,t=(1000001,1000000+j)→lab b ((0,j)::g.path b) (g.need b):=fun b t _ ho j hj=>by
    obtain ⟨j',h1,h2⟩:=mineG_of ho
    rw [h1] at hj
    injection hj with _ hj
    have:j'=j:=by omega
    subst this
    exact h2
   have hrel:Rel P w g 0 (start [mineT q,.c (.d (.int .i64)) kd]) { tmps:= #[u,.int .i64 kd.int]++Array.replicate (fn.ntmps - (#[u,Value.int .i64 kd.int]).size) undef,defers:= [] }:=by
    refine ⟨fun i=>?_,fun id cs ds hl=>(by cases hl),fun b hb=>⟨rfl,?_⟩,Nat.zero_le _,⟨rfl,by show Array.size _≤_; rw [hn]; exact hnt⟩,⟨⟨rfl,rfl⟩,fun b hb=>⟨?_,rfl,rfl,hb.1⟩,fun t x hx=>?_⟩,hmine⟩
    ·show VT P w g 0 (look i (startAt 0 [mineT q,.c (.d (.int .i64)) kd])) _
     rw [look_start,if_pos (Nat.zero_le _),Nat.sub_zero]
     match i with
     | 0 =>
      simp only [List.getElem?_cons_zero,Option.getD_some]
      rw [hg0]
      rcases hform with ⟨s,d,rfl,rfl,rfl⟩ | ⟨ds,rfl,rfl⟩
      ·obtain ⟨z,hz,hT⟩:=hTR.2 0 s rfl
       have hz1:u=z:=by simpa using hz
       subst hz1
       exact mine_vc hfun rfl hz hT
      ·refine ⟨us,rfl,by rw [mine_len,List.length_map]; exact hTR.1,fun j c hj=>?_⟩
       obtain ⟨c0,h1,h2⟩:=mine_get hj
       obtain ⟨s,hs,rfl⟩:=map_get h1
       obtain ⟨z,hz,hT⟩:=hTR.2 j s hs
       refine ⟨z,hz,?_⟩
       rw [h2,Nat.zero_add]
       exact mine_vc hfun hs hz hT
     | 1 =>
      simp only [List.getElem?_cons_succ,List.getElem?_cons_zero,Option.getD_some]
      rw [hg1]
      exact VD.int .i64 kd
     | i+2=>trivial
    ·exact dif_neg (fun hc=>by have:=hc.1; omega)
    ·exact dif_neg (fun hc=>hb.2 hc.2)
    ·change (match ss[t.2 - 1000000]? with | some (.sl e)=>if t.1=1000001∧1000000≤t.2 then some (g.ρ t,g.len t,capOfV (us[t.2 - 1000000]?)*widOf P e,e) else none | _=>none)=some x at hx
     split at hx
     ·rename_i e hs
      split at hx
      ·rename_i ht
       injection hx with hx
       subst hx
       refine ⟨ht.1,rfl,rfl,fun h0=>?_⟩
       obtain ⟨z,hz,hT⟩:=hTR.2 _ _ hs
       have ht2:t=(1000001,1000000+(t.2 - 1000000)):=Prod.ext ht.1 (by show t.2=1000000+(t.2 - 1000000); omega)
       show g.owner (blkOf (us[t.2 - 1000000]?))=some (.inr t)∧∃ arr,w.heap[blkOf (us[t.2 - 1000000]?)]?=some (.cells arr e (0,0))∧arr.size=capOfV (us[t.2 - 1000000]?)*widOf P e
       have h0:0<capOfV (us[t.2 - 1000000]?)*widOf P e:=h0
       rw [hz] at h0 ⊢
       generalize hj:t.2 - 1000000=j at *
       generalize gd q.p j=y at *
       generalize hπ : [(0,j)]=π at *
       cases hT with
       | nil _ _ _ A hr hrow =>
        cases A <;> simp [capOfV] at h0
       | sl _ _ _ b cap row arr u0 hr h1 h2 h3 h4 h5 h6 h7 =>
        subst hπ
        have hw:widOf P e=row.length:=by simp [widOf,hr]
        refine ⟨?_,arr,h4,by rw [h5,hw]; rfl⟩
        rw [ht2]
        exact (mineG_lab (P:=P) (ss:=ss) (ds:=q.p) (us:=us) hfun (lt_of_heap h4) h3).1
      ·cases hx
     ·cases hx
   have hfin:∀ (a':Act) (w':World) (σ':St) (g':G) (key':Option Dom),retLeaf (finishM fn q σ')=some (key',some (1,p))→Rel P w' g' 0 σ' a'→Below 0 w w'→a'.defers = []∧∃ v,(results fn a'.tmps).run P w'=.ok v w'∧Ending.returned v=.returned (.int .i64 (gd p 0).int)∧ChangedL w w' lab∧TRs P w' lab ss p.tail us:=by
    intro a' w' σ' g' key' h1 h2 h3
    obtain ⟨p',k1,k2⟩:=retLeaf_ok h1
    injection k2 with _ k2
    subst k2
    unfold finishM at k1
    split at k1
    ·rename_i t hrt
     split at k1
     ·rename_i sh p0 hti h0
      cases hshq:(sh==(mineT q).sh) with
      | false=>rw [hshq] at k1; cases k1
      | true =>
       rw [hshq,cond_true] at k1
       have hshq:sh=(mineT q).sh:=by simpa using hshq
       cases sh with
       | tup xs=>cases k1
       | one x =>
        injection k1 with k1
        subst k1
        have hv:=h2.env t
        have hvt:a'.tmps.getD t undef=.int .i64 (gd (look2 t σ'.e σ'.r).p 0).int:=by
         generalize look2 t σ'.e σ'.r=y at *
         obtain ⟨ysh,yp⟩:=y
         simp only at hti
         subst hti
         have hv:VD P w' g'.prot (.int .i64) (gd yp 0) (a'.tmps.getD t undef):=hv
         show a'.tmps.getD t undef=.int .i64 (gd yp 0).int
         generalize gd yp 0=d at *
         generalize a'.tmps.getD t undef=vk at *
         cases hv
         rfl
        have hrun:(results fn a'.tmps).run P w'=.ok (.int .i64 (gd (look2 t σ'.e σ'.r).p 0).int) w':=by
         have e:results fn a'.tmps=(do let vs ← fn.results.mapM (resVar a'.tmps); pure (if h:vs.size=1 then vs[0] else .tuple vs)):=by
          unfold results
          congr 1
         rw [e,Array.mapM_eq_mapM_toList,hrt]
         simp only [List.mapM_cons,List.mapM_nil,resVar,Sem.run_bind,Sem.run_map,Sem.run_pure,Result.andThen_ok,hvt]
         rfl
        refine ⟨h2.defers.1,_,hrun,rfl,⟨h3.os,h3.tape,h3.output,h3.size,fun k hk hno=>?_⟩,hTR.1,fun j s hs=>?_⟩
        ·have hold:g'.old k:=by
          rw [h2.low.1.1]
          exact ⟨hk,fun ⟨y,hy⟩=>hno _ _ hy⟩
         exact (h2.low.2.1 k hold).2.2.1
        ·obtain ⟨z,hz,hT⟩:=hTR.2 j s hs
         refine ⟨z,hz,?_⟩
         have hcx:=ces_mine hq hshq.symm hs
         show TR P w' lab [(0,j)] s (gd (outM x.ces 0 q.p p0) j) z
         rw [outM_get x.ces 0 q.p p0 j _ hcx,Nat.zero_add]
         have he0:=h2.env 0
         rw [h0] at he0
         cases s with
         | sl e =>
          show TR P w' lab [(0,j)] (.sl e) (gd p0 j) z
          have hpin:=h2.low.2.2 (1000001,1000000+j) (g.ρ (1000001,1000000+j),g.len (1000001,1000000+j),capOfV (us[j]?)*widOf P e,e) (by
           show (match ss[(1000000+j) - 1000000]? with | some (.sl e)=>if (1000001:Nat)=1000001∧1000000≤1000000+j then some (g.ρ (1000001,1000000+j),g.len (1000001,1000000+j),capOfV (us[(1000000+j) - 1000000]?)*widOf P e,e) else none | _=>none)=_
           rw [show (1000000+j) - 1000000=j from by omega,hs]
           exact if_pos ⟨rfl,by omega⟩)
          obtain ⟨_,m2,m3,m4⟩:=hpin
          have ej:(1000000+j) - 1000000=j:=by omega
          have hgl:g.len (1000001,1000000+j)=(gd q.p j).rows.length:=by show (gd q.p ((1000000+j) - 1000000)).rows.length=_; rw [ej]
          have hgr:g.ρ (1000001,1000000+j)=blkOf (some z):=by show blkOf (us[(1000000+j) - 1000000]?)=_; rw [ej,hz]
          obtain ⟨uj,huj⟩:∃ uj,VC P w' g' 0 (.own (1000001,1000000+j) true e) (gd p0 j) uj:=by
           have hcx:x.ces[j]?=some (.own (1000001,1000000+j) true e):=hcx
           cases x with
           | c c0 =>
            cases j with
            | zero =>
             simp only [Sh1.ces,List.getElem?_cons_zero,Option.some.injEq] at hcx
             subst hcx
             exact ⟨_,he0⟩
            | succ j=>simp [Sh1.ces] at hcx
           | agg cs0 =>
            obtain ⟨arr,_,hh⟩:=he0
            obtain ⟨uj,_,huj⟩:=hh.2 j _ hcx
            exact ⟨uj,huj⟩
          refine mine_back hfun hs hz hT (m3.trans hgl) (m2.trans hgr) (fun h0=>?_) huj (fun b π n l1 l2 l3 l4 l5=>?_)
          ·obtain ⟨_,arr,q1,q2⟩:=m4 (by show 0<capOfV (us[j]?)*widOf P e; rw [hz]; exact h0)
           have q1:w'.heap[g.ρ (1000001,1000000+j)]?=some (.cells arr e (0,0)):=q1
           rw [hgr] at q1
           exact ⟨arr,q1,by rw [q2]; show capOfV (us[j]?)*_=_; rw [hz]⟩
          ·have:=h2.mine b (1000001,1000000+j) rfl l1 j rfl
           rw [l3,l5] at this
           exact this
         | int k =>
          show TR P w' lab [(0,j)] (.int k) (gd q.p j) z
          generalize gd q.p j=y at *
          cases hT; exact .int _ _ _
         | bool =>
          show TR P w' lab [(0,j)] .bool (gd q.p j) z
          generalize gd q.p j=y at *
          cases hT; exact .bool _ _
         | str =>
          show TR P w' lab [(0,j)] .str (gd q.p j) z
          generalize gd q.p j=y at *
          cases hT; exact .str _ _
         | opq=>cases hT
     ·cases k1
    ·cases k1
   exact evCode_ok hcall c (start [mineT q,.c (.d (.int .i64)) kd]) _ _ _ key (1,p) w g _ _ hc.1 h hrel hn (Below.refl _ _)
    ⟨fun σ' w' g' a' key' h1 h2 h3 h4=>hfin a' w' σ' g' key' h1 h2 h4,fun j σ' w' g' a' key' h1=>(by cases h1),fun σ' w' g' a' key' h1 h2 h3 h4=>hfin a' w' σ' g' key' h1 h2 h4⟩
 ·cases h
end Go.Proofs.YthbbbhpjkgpdcaaGreat
namespace Go.Proofs.YthbbbhpjkgpdcaaGreat
def scan (ex:Nat→Option (Nat × List D)):Nat→Nat→Option (Nat × List D)
 | _,0=>none
 | k,m+1=>match ex k with
  | some o=>some o
  | none=>scan ex (k+1) m
theorem iter_scan {step:List D→Out} (st:Nat→List D) (ex:Nat→Option (Nat × List D)) (fin:Nat × List D) {n:Nat}
  (h1:∀ k,k<n→step (st k)=some ((ex k).getD (0,st (k+1)))) (hex:∀ k o,ex k=some o→o.1≠0) (h2:step (st n)=some fin) (hf:fin.1≠0) :
  ∀ (m k N:Nat),k+m=n→m<N→iter step N (st k)=some ((scan ex k m).getD fin):=by
 intro m
 induction m with
 | zero =>
  intro k N hk hN
  obtain ⟨N,rfl⟩:∃ N',N=N'+1:=⟨N - 1,by omega⟩
  obtain rfl:k=n:=by omega
  obtain ⟨c,pay⟩:=fin
  rw [iter,h2]
  cases c with
  | zero=>exact absurd rfl hf
  | succ c=>rfl
 | succ m ih =>
  intro k N hk hN
  obtain ⟨N,rfl⟩:∃ N',N=N'+1:=⟨N - 1,by omega⟩
  rw [iter,h1 k (by omega),scan]
  cases he:ex k with
  | none=>simp only [Option.getD_none]; exact ih (k+1) N (by omega) (by omega)
  | some o =>
   obtain ⟨c,pay⟩:=o
   have:=hex k _ he
   cases c with
   | zero=>exact absurd rfl this
   | succ c=>rfl
theorem enters {P:Program} {f:FuncId} {fn:Func} (hf:P.funcs[f]?=some fn) (hname:(fn.name == "runtime.NumGoroutine")=false:=by kernel_rfl) (hb:fn.body.isNone=false:=by kernel_rfl) (vs:Array Value) (w:World):(callFunc f vs).run P w=.ok (.enter f vs) w:=by
 unfold callFunc
 simp only [Sem.run_bind,run_program,Result.andThen_ok,hf,hname,hb,Bool.false_eq_true,if_false,Sem.run_pure]
theorem fC {α:Type} {p:α→Prop} {a:α} {l:List α} (h:p a∧∀ x∈l,p x):∀ x∈a::l,p x:=List.forall_mem_cons.2 h
theorem fN {α:Type} {p:α→Prop}:∀ x∈([]:List α),p x:=List.forall_mem_nil p
abbrev Ent:=FuncId × (List T→Option (T × Bool))
def find:List Ent→FuncId→List T→Option (T × Bool)
 | [],_,_=>none
 | e::r,f,args=>bif Nat.beq e.1 f then e.2 args else find r f args
def EntOk (P:Program) (e:Ent):Prop:=∀ args r,e.2 args=some (r,true)→SoundFn P e.1 args r
theorem find_ok {P:Program}:∀ {l:List Ent},(∀ e∈l,EntOk P e)→CallOk P (find l)
 | [],_,f,args,r,h=>by cases h
 | e::l,hl,f,args,r,h=>by
  unfold find at h
  cases hb:Nat.beq e.1 f with
  | false =>
   rw [hb,cond_false] at h
   exact find_ok (fun e' he'=>hl e' (by simp [he'])) f args r h
  | true =>
   rw [hb,cond_true] at h
   obtain rfl:=Nat.eq_of_beq_eq_true hb
   exact hl e (by simp) args r h
def e1 (s:Sh) (F:List D→T × Bool):List T→Option (T × Bool)
 | [v]=>bif v.sh==s then some (F v.p) else none
 | _=>none
def e2 (s s':Sh) (F:List D→List D→T × Bool):List T→Option (T × Bool)
 | [v,u]=>bif v.sh==s&&u.sh==s' then some (F v.p u.p) else none
 | _=>none
theorem e1_ok {P:Program} {f:FuncId} {s:Sh} {F:List D→T × Bool} (h:∀ p,(F p).2=true→SoundFn P f [⟨s,p⟩] (F p).1):EntOk P (f,e1 s F):=by
 intro args r hr
 match args,hr with
 | [],hr=>cases hr
 | [⟨sh,p⟩],hr =>
  have hq:(bif sh==s then some (F p) else none)=some (r,true):=hr
  cases hb:(sh==s) with
  | false=>rw [hb] at hq; cases hq
  | true =>
   rw [hb] at hq
   simp only [cond_true,Option.some.injEq] at hq
   have e:sh=s:=by simpa using hb
   subst e
   have:=h p
   rw [hq] at this
   exact this rfl
 | _::_::_,hr=>cases hr
theorem e2_ok {P:Program} {f:FuncId} {s s':Sh} {F:List D→List D→T × Bool} (h:∀ p q,(F p q).2=true→SoundFn P f [⟨s,p⟩,⟨s',q⟩] (F p q).1):EntOk P (f,e2 s s' F):=by
 intro args r hr
 match args,hr with
 | [],hr=>cases hr
 | [_],hr=>cases hr
 | [⟨sh,p⟩,⟨sh',q⟩],hr =>
  have hq:(bif sh==s&&sh'==s' then some (F p q) else none)=some (r,true):=hr
  cases hb:(sh==s&&sh'==s') with
  | false=>rw [hb] at hq; cases hq
  | true =>
   rw [hb] at hq
   simp only [cond_true,Option.some.injEq] at hq
   simp only [Bool.and_eq_true,beq_iff_eq] at hb
   obtain ⟨rfl,rfl⟩:=hb
   have:=h p q
   rw [hq] at this
   exact this rfl
 | _::_::_::_,hr=>cases hr
end Go.Proofs.YthbbbhpjkgpdcaaGreat
namespace Go.Proofs.YthbbbhpjkgpdcaaGreat
abbrev bo:Option Dom:=none
abbrev sd (s:S):Sh:=.one (.c (.d s))
abbrev si:S:=.int .i64
abbrev rb:Sh:=sd .bool
abbrev ri:Sh:=sd si
abbrev ag (l:List S):Sh:=.one (.agg (l.map .d))
abbrev ob (x:Bool):Out:=some (1,[.b x])
abbrev oi (x:Int):Out:=some (1,[.i x])
abbrev ex (j:Nat) (p:List D):Out:=some (j+2,p)
abbrev nx (p:List D):Out:=some (0,p)
def nd (c:Bool) (o:Out):Out:=bif c then o else none
abbrev w64 (x:Int):Int:=IntKind.i64.wrap x
theorem w64_id {x:Int} (h : -9223372036854775808≤x) (h':x≤9223372036854775807):w64 x=x:=by
 simp only [w64,IntKind.wrap,IntKind.signed,IntKind.bits]
 simp
 omega
theorem inRange_nat {k len:Nat} (h:k<len):inRange (k:Int) len=true:=by
 simp only [inRange,Bool.and_eq_true,decide_eq_true_eq]; omega
theorem fill_loop {L:List D→Out} {z x2:D} {f:List D→List D} {ok:List D→Bool} (z0:List D) (hlen:z.rows.length≤9223372036854775807) (hok:∀ r∈z.rows,ok r=true)
  (hrd:∀ (rows:List (List D)) (k:Int),L [z,x2,.l rows,.i k]=bif decide (k<z.rows.length) then nd (inRange k z.rows.length) (nd (ok (z.rows.getD k.toNat [])) (nd (inRange k rows.length) (nx [z,x2,.l (rows.set k.toNat (f (z.rows.getD k.toNat []))),.i (w64 (k+1))]))) else ex 0 [z,x2,.l rows,.i k])
  {N:Nat} (hN:z.rows.length<N):iter L N [z,x2,.l (List.replicate z.rows.length z0),.i 0]=some (2,[z,x2,.l (z.rows.map f),.i z.rows.length]):=by
 let st:Nat→List D:=fun k => [z,x2,.l ((z.rows.take k).map f++List.replicate (z.rows.length - k) z0),.i (k:Int)]
 have hset:∀ k,(h:k<z.rows.length)→((z.rows.take k).map f++List.replicate (z.rows.length - k) z0).set k (f (z.rows.getD k []))=(z.rows.take (k+1)).map f++List.replicate (z.rows.length - (k+1)) z0:=fun k h=>by
  have hl:((z.rows.take k).map f).length=k:=by simp; omega
  rw [List.set_append_right _ _ (by omega),hl,Nat.sub_self]
  obtain ⟨m,hm⟩:∃ m,z.rows.length - k=m+1:=⟨z.rows.length - k - 1,by omega⟩
  rw [hm,show z.rows.length - (k+1)=m from by omega,List.replicate_succ,List.set_cons_zero,List.take_succ_eq_append_getElem h,List.map_append,List.append_assoc]
  simp only [List.getD_eq_getElem?_getD,List.getElem?_eq_getElem h,Option.getD_some,List.map_cons,List.map_nil,List.singleton_append]
 have:=iter_scan (step:=L) st (fun _=>none) (2,st z.rows.length) (n:=z.rows.length) (fun k hk=>?_) (fun _ _ h=>by cases h) ?_ (by simp) z.rows.length 0 N (by omega) hN
 ·have e0:st 0 = [z,x2,.l (List.replicate z.rows.length z0),.i 0]:=by simp [st]
  rw [e0] at this
  rw [this]
  have:∀ m k,scan (fun _=>none) k m=none:=by
   intro m
   induction m with
   | zero=>intro k; rfl
   | succ m ih=>intro k; exact ih _
  rw [this]
  simp only [st,Option.getD_none,Nat.sub_self,List.replicate_zero,List.append_nil,List.take_length]
 ·have hlen2:((z.rows.take k).map f++List.replicate (z.rows.length - k) z0).length=z.rows.length:=by simp; omega
  have hmem:z.rows.getD k []∈z.rows:=by
   rw [List.getD_eq_getElem?_getD,List.getElem?_eq_getElem hk]
   exact List.getElem_mem hk
  show L [z,x2,.l ((z.rows.take k).map f++List.replicate (z.rows.length - k) z0),.i (k:Int)]=_
  rw [hrd]
  rw [show decide ((k:Int)<z.rows.length)=true from by simpa using hk,cond_true,inRange_nat hk,hlen2,inRange_nat hk,show ((k:Int)).toNat=k from rfl,hok _ hmem,w64_id (by omega) (by omega),hset k hk]
  rfl
 ·show L [z,x2,.l _,.i (z.rows.length:Int)]=_
  rw [hrd,show decide ((z.rows.length:Int)<z.rows.length)=false from by simp,cond_false]
def alikeS (E:List D→List D→Bool) (z u:D):Bool:=(z.rows.length==u.rows.length)&&(List.range z.rows.length).all fun k=>E (z.rows.getD k []) (u.rows.getD k [])
theorem alikeS_refl {E:List D→List D→Bool} (h:∀ r,E r r=true) (z:D):alikeS E z z=true:=by
 simp [alikeS,h]
theorem scan_find {ex:Nat→Option (Nat × List D)} {o:Nat × List D} {C:Nat→Bool} (h:∀ k,ex k=if C k then none else some o):∀ (m k:Nat),scan ex k m=if (List.range m).all (fun j=>C (k+j)) then none else some o
 | 0,k=>by simp [scan]
 | m+1,k=>by
  rw [scan,h]
  by_cases hc:C k=true
  ·rw [if_pos hc]
   simp only
   rw [scan_find h m (k+1),List.range_succ_eq_map,List.all_cons,List.all_map]
   simp only [Nat.add_zero,hc,Bool.true_and]
   congr 2
   congr 1
   funext j
   simp only [Function.comp]
   congr 1
   omega
  ·rw [if_neg hc]
   simp [List.range_succ_eq_map,hc]
theorem like_loop {L:List D→Out} {z u x y:D} {E:List D→List D→Bool} (hlen:z.rows.length≤9223372036854775807) (hu:z.rows.length=u.rows.length)
  (hrd:∀ k:Int,L [z,u,x,y,.i k]=bif decide (k<z.rows.length) then nd (inRange k z.rows.length) (nd (inRange k u.rows.length) (bif !E (z.rows.getD k.toNat []) (u.rows.getD k.toNat []) then ob false else nx [z,u,x,y,.i (w64 (k+1))])) else ex 0 [z,u,x,y,.i k])
  {N:Nat} (hN:z.rows.length<N):iter L N [z,u,x,y,.i 0]=some (if alikeS E z u then (2,[z,u,x,y,.i z.rows.length]) else (1,[.b false])):=by
 have:=iter_scan (step:=L) (fun k => [z,u,x,y,.i (k:Int)]) (fun k=>if E (z.rows.getD k []) (u.rows.getD k []) then none else some (1,[.b false])) (2,[z,u,x,y,.i z.rows.length]) (n:=z.rows.length) (fun k hk=>?_) (fun k o h=>?_) ?_ (by simp) z.rows.length 0 N (by omega) hN
 ·simp only [Int.natCast_zero] at this
  rw [this,scan_find (o:=(1,[.b false])) (C:=fun k=>E (z.rows.getD k []) (u.rows.getD k [])) (fun k=>rfl)]
  simp only [Nat.zero_add,alikeS,← hu,beq_self_eq_true,Bool.true_and]
  split <;> rfl
 ·show L [z,u,x,y,.i (k:Int)]=_
  rw [hrd,show decide ((k:Int)<z.rows.length)=true from by simpa using hk,cond_true,inRange_nat hk,inRange_nat (by omega),show ((k:Int)).toNat=k from rfl,w64_id (by omega) (by omega)]
  cases E (z.rows.getD k []) (u.rows.getD k []) <;> rfl
 ·split at h
  ·cases h
  ·injection h with h; rw [← h]; simp
 ·show L [z,u,x,y,.i (z.rows.length:Int)]=_
  rw [hrd,show decide ((z.rows.length:Int)<z.rows.length)=false from by simp,cond_false]
def left (s:Nat) (n:Int):Int:=if (s:Int)≤n then n - s else -1
def fair (n:Int):Bool:=decide (0≤n)&&decide (n≤1048576)
def total (size:List D→Nat) (rows:List (List D)):Nat:=(rows.map size).sum
theorem size_loop {L:List D→Out} {z x y:D} {size:List D→Nat} (hlen:z.rows.length≤9223372036854775807)
  (hrd:∀ n k:Int,L [z,.i n,x,y,.i k]=bif decide (k<z.rows.length) then nd (inRange k z.rows.length) (nd (fair n) (bif decide (left (size (z.rows.getD k.toNat [])) n<0) then oi (-1) else nx [z,.i (left (size (z.rows.getD k.toNat [])) n),x,y,.i (w64 (k+1))])) else ex 0 [z,.i n,x,y,.i k]) :
  ∀ (m k N:Nat) (n:Int),k+m=z.rows.length→m<N→0≤n→n≤1048576→iter L N [z,.i n,x,y,.i k]=some (if (total size (z.rows.drop k):Int)≤n then (2,[z,.i (n - total size (z.rows.drop k)),x,y,.i z.rows.length]) else (1,[.i (-1)])):=by
 intro m
 induction m with
 | zero =>
  intro k N n hk hN h0 h1
  obtain ⟨N,rfl⟩:∃ N',N=N'+1:=⟨N - 1,by omega⟩
  have hk:k=z.rows.length:=by omega
  subst hk
  rw [iter,hrd,show decide ((z.rows.length:Int)<z.rows.length)=false from by simp,cond_false]
  simp [total,h0]
 | succ m ih =>
  intro k N n hk hN h0 h1
  obtain ⟨N,rfl⟩:∃ N',N=N'+1:=⟨N - 1,by omega⟩
  have hlt:k<z.rows.length:=by omega
  have hd:z.rows.drop k=z.rows.getD k []::z.rows.drop (k+1):=by
   rw [List.drop_eq_getElem_cons hlt,List.getD_eq_getElem?_getD,List.getElem?_eq_getElem hlt]; rfl
  have ht:total size (z.rows.drop k)=size (z.rows.getD k [])+total size (z.rows.drop (k+1)):=by rw [hd]; simp [total]
  rw [iter,hrd,show decide ((k:Int)<z.rows.length)=true from by simpa using hlt,cond_true,inRange_nat hlt,show fair n=true from by simp [fair,h0,h1],show ((k:Int)).toNat=k from rfl,w64_id (by omega) (by omega)]
  by_cases hs:(size (z.rows.getD k []):Int)≤n
  ·have hl:left (size (z.rows.getD k [])) n=n - size (z.rows.getD k []):=if_pos hs
   rw [hl,show decide (n - (size (z.rows.getD k []):Int)<0)=false from decide_eq_false (by omega),cond_false]
   have:=ih (k+1) N (n - size (z.rows.getD k [])) (by omega) (by omega) (by omega) (by omega)
   simp only [nd,cond_true]
   rw [show ((k:Int)+1)=((k+1:Nat):Int) from by simp,this,ht]
   congr 1
   by_cases hq:((size (z.rows.getD k [])+total size (z.rows.drop (k+1)):Nat):Int)≤n
   ·rw [if_pos hq,if_pos (by push_cast at hq; omega),show n - (size (z.rows.getD k []):Int) - (total size (z.rows.drop (k+1)):Int)=n - ((size (z.rows.getD k [])+total size (z.rows.drop (k+1)):Nat):Int) from by push_cast; omega]
   ·rw [if_neg hq,if_neg (by push_cast at hq; omega)]
  ·have hl:left (size (z.rows.getD k [])) n = -1:=if_neg hs
   rw [hl,ht,if_neg (by push_cast; omega)]
   rfl
theorem all_loop {L:List D→Out} (st:Nat→List D) (n:Nat) (C:Nat→Bool) (v fin:List D) (j:Nat) (h1:∀ k,k<n→L (st k)=some (bif C k then (0,st (k+1)) else (1,v))) (h2:L (st n)=some (j+2,fin)) {N:Nat} (hN:n<N) :
  iter L N (st 0)=some (bif (List.range n).all C then (j+2,fin) else (1,v)):=by
 have:=iter_scan (step:=L) st (fun k=>if C k then none else some (1,v)) (j+2,fin) (n:=n) (fun k hk=>?_) (fun k o h=>?_) h2 (by simp) n 0 N (by omega) hN
 ·rw [this,scan_find (o:=(1,v)) (C:=C) (fun k=>rfl)]
  simp only [Nat.zero_add]
  have e:(fun j=>C j)=C:=rfl
  rw [e]
  cases (List.range n).all C <;> rfl
 ·rw [h1 k hk]
  cases C k <;> rfl
 ·split at h
  ·cases h
  ·injection h with h; rw [← h]; simp
def e3 (s s' s'':Sh) (F:List D→List D→List D→T × Bool):List T→Option (T × Bool)
 | [v,u,t]=>bif v.sh==s&&(u.sh==s'&&t.sh==s'') then some (F v.p u.p t.p) else none
 | _=>none
theorem e3_ok {P:Program} {f:FuncId} {s s' s'':Sh} {F:List D→List D→List D→T × Bool} (h:∀ p q r,(F p q r).2=true→SoundFn P f [⟨s,p⟩,⟨s',q⟩,⟨s'',r⟩] (F p q r).1):EntOk P (f,e3 s s' s'' F):=by
 intro args r hr
 match args,hr with
 | [],hr=>cases hr
 | [_],hr=>cases hr
 | [_,_],hr=>cases hr
 | [⟨sh,p⟩,⟨sh',q⟩,⟨sh'',o⟩],hr =>
  have hq:(bif sh==s&&(sh'==s'&&sh''==s'') then some (F p q o) else none)=some (r,true):=hr
  cases hb:(sh==s&&(sh'==s'&&sh''==s'')) with
  | false=>rw [hb] at hq; cases hq
  | true =>
   rw [hb] at hq
   simp only [cond_true,Option.some.injEq] at hq
   simp only [Bool.and_eq_true,beq_iff_eq] at hb
   obtain ⟨rfl,rfl,rfl⟩:=hb
   have:=h p q o
   rw [hq] at this
   exact this rfl
 | _::_::_::_::_,hr=>cases hr
end Go.Proofs.YthbbbhpjkgpdcaaGreat
namespace Go.Proofs.YthbbbhpjkgpdcaaGreat
set_option maxRecDepth 4096
theorem ne_step (c x:Bool):(bif !c then ob false else ob x)=ob (c&&x):=by cases c <;> rfl
theorem wt_sl {P:Program} {e:TypeId} {p:List D} (h:WT P ⟨sd (.sl e),p⟩):(gd p 0).rows.length≤9223372036854775807:=by
 have h:WD P (.sl e) (gd p 0):=h
 cases h with
 | sl _ _ row _ h _=>exact h
theorem left_left (a b:Nat) (n:Int):(if left a n<0 then -1 else left b (left a n))=left (a+b) n:=by
 unfold left
 repeat' split
 all_goals first | rfl | omega | (push_cast at *; omega)
theorem left_sub (a:Nat) (n:Int):(if n - (a:Int)<0 then -1 else n - (a:Int))=left a n:=by
 unfold left
 repeat' split
 all_goals first | rfl | omega
theorem fair_left {a:Nat} {n:Int} (h:fair n=true) (h':¬ left a n<0):fair (left a n)=true:=by
 simp only [fair,Bool.and_eq_true,decide_eq_true_eq,left] at *
 split at h' <;> simp_all <;> omega
theorem oi_if (c:Prop) [Decidable c] (x y:Int):(bif decide c then oi x else oi y)=oi (if c then x else y):=by
 by_cases h:c <;> simp [h]
def rLCell:List S:= [si,si]
def rICell:List S:= [si,si]
def cpCell (p:List D):List D:= [gd p 0,gd p 1]
def okCell (p:List D):Bool:=true
theorem toCell_ev (p:List D) (N:Nat):evFn Tryz.prog (find []) N [0,1,2,3] Tryz.f148 (ag rICell) [⟨ag rLCell,p⟩]=some (bo,some (1,cpCell p)):=by kernel_rfl
def toCellE:Ent:=(148,e1 (ag rLCell) fun p=>(⟨ag rICell,cpCell p⟩,okCell p))
theorem toCell_ok:EntOk Tryz.prog toCellE:=e1_ok fun p h=>evFn_sound (N:=0) (ks:= [0,1,2,3]) (key:=bo) (find_ok (fN)) (enters Tryz.func148) Tryz.func148 fun _=>by
 have h:okCell p=true:=h
 simp only [okCell,Bool.and_eq_true] at h
 rw [toCell_ev]
def eqCell (p q:List D):Bool:=((gd p 0).int==(gd q 0).int)&&(((gd p 1).int==(gd q 1).int)&&(true))
theorem eqCell_ev (p q:List D) (N:Nat):evFn Tryz.prog (find []) N [0,1,2,3,4,9,14] Tryz.f159 rb [⟨ag rICell,p⟩,⟨ag rICell,q⟩]=some (bo,bif !((gd p 0).int==(gd q 0).int) then ob false else bif !((gd p 1).int==(gd q 1).int) then ob false else ob true):=by kernel_rfl
def eqCellE:Ent:=(159,e2 (ag rICell) (ag rICell) fun p q=>(⟨rb,[.b (eqCell p q)]⟩,true))
theorem eqCell_ok:EntOk Tryz.prog eqCellE:=e2_ok fun p q _=>evFn_sound (N:=0) (ks:= [0,1,2,3,4,9,14]) (key:=bo) (find_ok (fN)) (enters Tryz.func159) Tryz.func159 fun _=>by
 rw [eqCell_ev]
 simp only [ne_step]
 rfl
theorem eqCell_refl (p:List D):eqCell p p=true:=by
 simp [eqCell]
def cpCellS (z:D):D:=.l (z.rows.map fun r=>cpCell (sub r 0 2))
def okCellS (z:D):Bool:=decide (z.rows.length≤4294967296)&&z.rows.all fun r=>okCell (sub r 0 2)
def eqCellS:D→D→Bool:=alikeS (fun r s=>eqCell (sub r 0 2) (sub s 0 2))
noncomputable def eqCellSL (N:Nat) (p q:List D):List D→Out:=loopOf Tryz.prog (find [eqCellE]) N [0,1,4,5,10,14,26] Tryz.f141 rb [⟨sd (.sl 148),p⟩,⟨sd (.sl 148),q⟩] 0
theorem eqCellS_rd (p q:List D) (N:Nat) (z u x y:D) (k:Int):eqCellSL N p q [z,u,x,y,.i k]=bif decide (k<z.rows.length) then nd (inRange k z.rows.length) (nd (inRange k u.rows.length) (bif !(eqCell (sub (z.rows.getD k.toNat []) 0 2) (sub (u.rows.getD k.toNat []) 0 2)) then ob false else nx [z,u,x,y,.i (w64 (k+1))])) else ex 0 [z,u,x,y,.i k]:=by kernel_rfl
theorem eqCellS_ev (p q:List D) (N:Nat):evFn Tryz.prog (find [eqCellE]) N [0,1,4,5,10,14,26] Tryz.f141 rb [⟨sd (.sl 148),p⟩,⟨sd (.sl 148),q⟩]=some (bo,bif !(((gd p 0).rows.length:Int)==(gd q 0).rows.length) then ob false else
  (let o:=iter (eqCellSL N p q) N [gd p 0,gd q 0,D0,.b (!(((gd p 0).rows.length:Int)==(gd q 0).rows.length)),.i 0]
   nd o.isSome (bif o.code==1 then some (1,o.pay) else nd (o.code==2) (ob true)))):=by kernel_rfl
def eqCellSE:Ent:=(141,e2 (sd (.sl 148)) (sd (.sl 148)) fun p q=>(⟨rb,[.b (eqCellS (gd p 0) (gd q 0))]⟩,true))
theorem eqCellS_ok:EntOk Tryz.prog eqCellSE:=e2_ok fun p q _=>evFn_sound (N:=(gd p 0).rows.length+1) (ks:= [0,1,4,5,10,14,26]) (key:=bo) (find_ok (fC ⟨eqCell_ok,fN⟩)) (enters Tryz.func141) Tryz.func141 fun hw=>by
 rw [eqCellS_ev]
 by_cases hl:(gd p 0).rows.length=(gd q 0).rows.length
 ·rw [like_loop (E:=(fun r s=>eqCell (sub r 0 2) (sub s 0 2))) (wt_sl (hw ⟨sd (.sl 148),p⟩ (by simp))) hl (eqCellS_rd p q _ _ _ _ _) (by omega)]
  rw [show ((((gd p 0).rows.length:Int))==(gd q 0).rows.length)=true from beq_iff_eq.2 (by omega)]
  show some (bo,_)=some (bo,some (1,[D.b (alikeS (fun r s=>eqCell (sub r 0 2) (sub s 0 2)) (gd p 0) (gd q 0))]))
  cases alikeS (fun r s=>eqCell (sub r 0 2) (sub s 0 2)) (gd p 0) (gd q 0) <;> rfl
 ·rw [show ((((gd p 0).rows.length:Int))==(gd q 0).rows.length)=false from beq_eq_false_iff_ne.2 (by omega)]
  show some (bo,_)=some (bo,some (1,[D.b (alikeS (fun r s=>eqCell (sub r 0 2) (sub s 0 2)) (gd p 0) (gd q 0))]))
  rw [show alikeS (fun r s=>eqCell (sub r 0 2) (sub s 0 2)) (gd p 0) (gd q 0)=false from by simp [alikeS,hl]]
  rfl
theorem eqCellS_refl (z:D):eqCellS z z=true:=alikeS_refl (fun r=>by exact eqCell_refl _) z
def sizeCellS (z:D):Nat:=z.rows.length
theorem szCellS_ev (p q:List D) (N:Nat):evFn Tryz.prog (find []) N [0,1,4,10] Tryz.f100 ri [⟨sd (.sl 179),p⟩,⟨ri,q⟩]=some (bo,bif decide (w64 ((gd q 0).int - (gd p 0).rows.length)<0) then oi (-1) else oi (w64 ((gd q 0).int - (gd p 0).rows.length))):=by kernel_rfl
def szCellSE:Ent:=(100,e2 (sd (.sl 179)) ri fun p q=>(⟨ri,[.i (left (sizeCellS (gd p 0)) (gd q 0).int)]⟩,fair (gd q 0).int))
theorem szCellS_ok:EntOk Tryz.prog szCellSE:=e2_ok fun p q h=>evFn_sound (N:=(gd p 0).rows.length+1) (ks:= [0,1,4,10]) (key:=bo) (find_ok (fN)) (enters Tryz.func100) Tryz.func100 fun hw=>by
 have h:fair (gd q 0).int=true:=h
 have hl:=wt_sl (hw ⟨sd (.sl 179),p⟩ (by simp))
 have h2:0≤(gd q 0).int∧(gd q 0).int≤1048576:=by simpa [fair] using h
 rw [szCellS_ev,w64_id (by omega) (by omega)]
 rw [oi_if,left_sub]
 rfl
end Go.Proofs.YthbbbhpjkgpdcaaGreat
namespace Go.Proofs.YthbbbhpjkgpdcaaGreat
set_option maxRecDepth 4096
end Go.Proofs.YthbbbhpjkgpdcaaGreat
namespace Go.Proofs.YthbbbhpjkgpdcaaGreat
set_option maxRecDepth 4096
end Go.Proofs.YthbbbhpjkgpdcaaGreat
namespace Go.Proofs.YthbbbhpjkgpdcaaGreat
set_option maxRecDepth 4096
end Go.Proofs.YthbbbhpjkgpdcaaGreat
namespace Go.Proofs.YthbbbhpjkgpdcaaGreat
set_option maxRecDepth 4096
theorem and_ob (c x:Bool):(bif c then ob x else ob false)=ob (c&&x):=by cases c <;> rfl
def inB (n a b:Int):Bool:=decide (n≥a)&&decide (n≤b)
theorem i_from_ev (p q r:List D) (N:Nat):evFn Tryz.prog (find []) N [0,1,2,6] Tryz.f85 (rb) [⟨ri,p⟩,⟨ri,q⟩,⟨ri,r⟩]=some (bo,bif decide ((gd p 0).int≥(gd q 0).int) then ob (decide ((gd p 0).int≤(gd r 0).int)) else ob false):=by kernel_rfl
def i_fromE:Ent:=(85,e3 (ri) (ri) (ri) fun p q r=>(⟨rb,[.b (inB (gd p 0).int (gd q 0).int (gd r 0).int)]⟩,true))
theorem i_from_ok:EntOk Tryz.prog i_fromE:=e3_ok fun p q r h=>evFn_sound (N:=0) (ks:= [0,1,2,6]) (key:=bo) (find_ok (fN)) (enters Tryz.func85) Tryz.func85 fun _=>by
 rw [i_from_ev]
 rw [and_ob]; rfl
theorem s_l1In_ev (p q r:List D) (N:Nat):evFn Tryz.prog (find []) N [0,1,2,6] Tryz.f103 (rb) [⟨ri,p⟩,⟨ri,q⟩,⟨ri,r⟩]=some (bo,bif decide ((gd p 0).int≥(gd q 0).int) then ob (decide ((gd p 0).int≤(gd r 0).int)) else ob false):=by kernel_rfl
def s_l1InE:Ent:=(103,e3 (ri) (ri) (ri) fun p q r=>(⟨rb,[.b (inB (gd p 0).int (gd q 0).int (gd r 0).int)]⟩,true))
theorem s_l1In_ok:EntOk Tryz.prog s_l1InE:=e3_ok fun p q r h=>evFn_sound (N:=0) (ks:= [0,1,2,6]) (key:=bo) (find_ok (fN)) (enters Tryz.func103) Tryz.func103 fun _=>by
 rw [s_l1In_ev]
 rw [and_ob]; rfl
theorem i_isWhole_ev (p:List D) (N:Nat):evFn Tryz.prog (find [i_fromE]) N [0,2] Tryz.f121 (rb) [⟨ri,p⟩]=some (bo,ob (inB (gd p 0).int (0) (1000000000))):=by kernel_rfl
def i_isWholeE:Ent:=(121,e1 (ri) fun p=>(⟨rb,[.b (inB (gd p 0).int (0) (1000000000))]⟩,true))
theorem i_isWhole_ok:EntOk Tryz.prog i_isWholeE:=e1_ok fun p h=>evFn_sound (N:=0) (ks:= [0,2]) (key:=bo) (find_ok (fC ⟨i_from_ok,fN⟩)) (enters Tryz.func121) Tryz.func121 fun _=>by
 rw [i_isWhole_ev]
 skip
theorem i_isReq_ev (p:List D) (N:Nat):evFn Tryz.prog (find [i_fromE]) N [0,2] Tryz.f132 (rb) [⟨ri,p⟩]=some (bo,ob (inB (gd p 0).int (1) (1000000000))):=by kernel_rfl
def i_isReqE:Ent:=(132,e1 (ri) fun p=>(⟨rb,[.b (inB (gd p 0).int (1) (1000000000))]⟩,true))
theorem i_isReq_ok:EntOk Tryz.prog i_isReqE:=e1_ok fun p h=>evFn_sound (N:=0) (ks:= [0,2]) (key:=bo) (find_ok (fC ⟨i_from_ok,fN⟩)) (enters Tryz.func132) Tryz.func132 fun _=>by
 rw [i_isReq_ev]
 skip
theorem i_isAnswer_ev (p:List D) (N:Nat):evFn Tryz.prog (find [i_fromE]) N [0,2] Tryz.f133 (rb) [⟨ri,p⟩]=some (bo,ob (inB (gd p 0).int (-1) (1000000000))):=by kernel_rfl
def i_isAnswerE:Ent:=(133,e1 (ri) fun p=>(⟨rb,[.b (inB (gd p 0).int (-1) (1000000000))]⟩,true))
theorem i_isAnswer_ok:EntOk Tryz.prog i_isAnswerE:=e1_ok fun p h=>evFn_sound (N:=0) (ks:= [0,2]) (key:=bo) (find_ok (fC ⟨i_from_ok,fN⟩)) (enters Tryz.func133) Tryz.func133 fun _=>by
 rw [i_isAnswer_ev]
 skip
theorem s_l1Whole_ev (p:List D) (N:Nat):evFn Tryz.prog (find [s_l1InE]) N [0,2] Tryz.f104 (rb) [⟨ri,p⟩]=some (bo,ob (inB (gd p 0).int (0) (1000000000))):=by kernel_rfl
def s_l1WholeE:Ent:=(104,e1 (ri) fun p=>(⟨rb,[.b (inB (gd p 0).int (0) (1000000000))]⟩,true))
theorem s_l1Whole_ok:EntOk Tryz.prog s_l1WholeE:=e1_ok fun p h=>evFn_sound (N:=0) (ks:= [0,2]) (key:=bo) (find_ok (fC ⟨s_l1In_ok,fN⟩)) (enters Tryz.func104) Tryz.func104 fun _=>by
 rw [s_l1Whole_ev]
 skip
def rangeOk (p:List D):Bool:=decide ((gd p 0).int≥0)&&(decide ((gd p 0).int<(gd p 1).int)&&decide ((gd p 1).int≤1000))
end Go.Proofs.YthbbbhpjkgpdcaaGreat
namespace Go.Proofs.YthbbbhpjkgpdcaaGreat
set_option maxRecDepth 4096
def writeAt (z:D) (k:Nat):Bool:=inB (gd (z.rows.getD k []) 0).int 0 999&&(inB (gd (z.rows.getD k []) 1).int (-1) 1000000000&&(k==0 || !decide ((gd (z.rows.getD (k - 1) []) 0).int≥(gd (z.rows.getD k []) 0).int)))
def writesOk (z:D):Bool:=decide ((z.rows.length:Int)≤60)&&(List.range z.rows.length).all (writeAt z)
end Go.Proofs.YthbbbhpjkgpdcaaGreat
namespace Go.Proofs.YthbbbhpjkgpdcaaGreat
set_option maxRecDepth 4096
def ixF (C:Nat→Bool):Nat→Nat→Int
 | _,0 => -1
 | k,m+1=>bif C k then k else ixF C (k+1) m
theorem ixF_any (C:Nat→Bool):∀ (m k:Nat),decide (ixF C k m≥0)=(List.range m).any fun j=>C (k+j)
 | 0,k=>rfl
 | m+1,k=>by
  rw [ixF,List.range_succ_eq_map,List.any_cons,List.any_map]
  cases hc:C k with
  | true=>simp [hc]
  | false =>
   simp only [cond_false,Nat.add_zero,hc,Bool.false_or]
   rw [ixF_any C m (k+1)]
   congr 1
   funext j
   simp only [Function.comp]
   congr 1; omega
theorem ix_loop {L:List D→Out} (st:Nat→List D) (n:Nat) (C:Nat→Bool) (fin:List D) (h1:∀ k,k<n→L (st k)=some (bif C k then (1,[.i (k:Int)]) else (0,st (k+1)))) (h2:L (st n)=some (2,fin)) :
  ∀ (m k N:Nat),k+m=n→m<N→iter L N (st k)=some (bif decide (ixF C k m≥0) then (1,[.i (ixF C k m)]) else (2,fin)):=by
 intro m
 induction m with
 | zero =>
  intro k N hk hN
  obtain ⟨N,rfl⟩:∃ N',N=N'+1:=⟨N - 1,by omega⟩
  obtain rfl:k=n:=by omega
  rw [iter,h2]; rfl
 | succ m ih =>
  intro k N hk hN
  obtain ⟨N,rfl⟩:∃ N',N=N'+1:=⟨N - 1,by omega⟩
  rw [iter,h1 k (by omega),ixF]
  cases hc:C k with
  | true=>simp only [cond_true]; rw [decide_eq_true (show (k:Int)≥0 from by omega)]; rfl
  | false=>simp only [cond_false]; exact ih (k+1) N (by omega) (by omega)
def anyS (C:List D→Bool) (z:D):Bool:=(List.range z.rows.length).any fun k=>C (z.rows.getD k [])
theorem ixF_neg (C:Nat→Bool):∀ (m k:Nat),decide (ixF C k m≥0)=false→ixF C k m = -1
 | 0,k,_=>rfl
 | m+1,k,h=>by
  rw [ixF] at h ⊢
  cases hc:C k with
  | true=>rw [hc,cond_true,decide_eq_true (show (k:Int)≥0 from by omega)] at h; cases h
  | false=>rw [hc,cond_false] at h; rw [cond_false]; exact ixF_neg C m (k+1) h
end Go.Proofs.YthbbbhpjkgpdcaaGreat
namespace Go.Proofs.YthbbbhpjkgpdcaaGreat
set_option maxRecDepth 4096
def readsOk (z:D):Bool:=decide ((z.rows.length:Int)≤16) && !anyS (fun r => !rangeOk (sub r 0 2)) z
def cnt (C:Nat→Bool):Nat→Nat→Nat
 | _,0=>0
 | k,m+1=>(bif C k then 1 else 0)+cnt C (k+1) m
end Go.Proofs.YthbbbhpjkgpdcaaGreat
namespace Go.Proofs.YthbbbhpjkgpdcaaGreat
set_option maxRecDepth 4096
def shareAt (z:D) (k:Nat):Bool:=
 inB (gd (z.rows.getD k []) 0).int 0 3&&((k==0 || !decide ((gd (z.rows.getD (k - 1) []) 0).int≥(gd (z.rows.getD k []) 0).int))&&(readsOk (gd (z.rows.getD k []) 1)&&(writesOk (gd (z.rows.getD k []) 2)&&inB (gd (z.rows.getD k []) 3).int 0 2)))
def sharesOk (z:D):Bool:=decide ((z.rows.length:Int)≤4)&&(List.range z.rows.length).all (shareAt z)
end Go.Proofs.YthbbbhpjkgpdcaaGreat
namespace Go.Proofs.YthbbbhpjkgpdcaaGreat
set_option maxRecDepth 4096
end Go.Proofs.YthbbbhpjkgpdcaaGreat
namespace Go.Proofs.YthbbbhpjkgpdcaaGreat
set_option maxRecDepth 4096
end Go.Proofs.YthbbbhpjkgpdcaaGreat
namespace Go.Proofs.YthbbbhpjkgpdcaaGreat
set_option maxRecDepth 4096
end Go.Proofs.YthbbbhpjkgpdcaaGreat
namespace Go.Proofs.YthbbbhpjkgpdcaaGreat
theorem int_i (n:Int):(D.i n).int=n:=rfl
theorem bool_b (n:Bool):(D.b n).bool=n:=rfl
theorem str_s (n:List UInt8):(D.s n).str=n:=rfl
theorem rows_l (n:List (List D)):(D.l n).rows=n:=rfl
theorem w64_succ {k n:Nat} (h:k<n) (hn:n≤9223372036854775807):w64 ((k:Int)+1)=((k+1:Nat):Int):=by
 rw [w64_id (by omega) (by omega)]; omega
theorem wt_at {P:Program} {xs:List Ce} {p:List D} {e:TypeId} (h:WT P ⟨.one (.agg xs),p⟩) {j:Nat} (hj:xs[j]?=some (.d (.sl e))):(gd p j).rows.length≤9223372036854775807:=by
 have h:∀ (j:Nat) c,xs[j]?=some c→WC P c (gd p j):=h
 have h:WD P (.sl e) (gd p j):=h j _ hj
 cases h with
 | sl _ _ row _ h _=>exact h
theorem for_loop {L:List D→Out} (st:Nat→List D) (n:Nat) (C:Nat→Bool) (v:List D) (j:Nat) (h1:∀ k,k<n→L (st k)=some (bif C k then (0,st (k+1)) else (1,v))) (h2:L (st n)=some (j+2,st n)) {N:Nat} (hN:n<N) :
  iter L N (st 0)=some (bif (List.range n).all C then (j+2,st n) else (1,v)):=all_loop st n C v (st n) j h1 h2 hN
def ltI (x y:Int):Bool:=decide (x<y)
def leI (x y:Int):Bool:=decide (x≤y)
theorem ltI_t {x y:Int} (h:x<y):ltI x y=true:=decide_eq_true h
theorem ltI_f {x y:Int} (h:y≤x):ltI x y=false:=decide_eq_false (by omega)
theorem leI_t {x y:Int} (h:x≤y):leI x y=true:=decide_eq_true h
theorem leI_f {x y:Int} (h:y<x):leI x y=false:=decide_eq_false (by omega)
theorem ltI_nat {k n:Nat} (h:k<n):ltI (k:Int) (n:Int)=true:=decide_eq_true (by omega)
theorem ltI_nn {n:Nat}:ltI (n:Int) (n:Int)=false:=decide_eq_false (by omega)
theorem leI_0 {n:Nat}:leI 0 (n:Int)=true:=decide_eq_true (by omega)
theorem leI_00:leI 0 0=true:=rfl
theorem c_lt {k n:Nat} (h:k<n) {a b:Out}:(bif ltI (k:Int) (n:Int) then a else b)=a:=by rw [ltI_nat h]; rfl
theorem c_nlt {n:Nat} {a b:Out}:(bif ltI (n:Int) (n:Int) then a else b)=b:=by rw [ltI_nn]; rfl
theorem nd_true {a:Out}:nd true a=a:=rfl
theorem nd_ix {k n:Nat} (h:k<n) {a:Out}:nd (inRange (k:Int) n) a=a:=by rw [inRange_nat h]; rfl
theorem bne_not {a b:Int}:(a != b) = !(a==b):=rfl
theorem ltI_00:ltI 0 ((0:Nat):Int)=false:=rfl
theorem ltI_0s {k:Nat}:ltI 0 ((k+1:Nat):Int)=true:=ltI_t (by omega)
theorem w64_pred {k:Nat} (h:k+1≤9223372036854775807):w64 (((k+1:Nat):Int) - 1)=(k:Int):=by rw [w64_id (by omega) (by omega)]; omega
def lenOk (l:List (List D)):Bool:=decide (l.length≤4294967296)
theorem lenOk_t {l:List (List D)} (h:l.length≤4294967296):lenOk l=true:=decide_eq_true h
theorem sameP_self (a:List (List D)):sameP a a=true:=by
 unfold sameP
 exact @decide_eq_true _ (Classical.propDecidable _) rfl
def e4 (s0 s1 s2 s3:Sh) (F:List D→List D→List D→List D→T × Bool):List T→Option (T × Bool)
 | [v0,v1,v2,v3]=>bif v0.sh==s0&&v1.sh==s1&&v2.sh==s2&&v3.sh==s3 then some (F v0.p v1.p v2.p v3.p) else none
 | _=>none
theorem e4_ok {P:Program} {f:FuncId} {s0 s1 s2 s3:Sh} {F:List D→List D→List D→List D→T × Bool} (h:∀ p0 p1 p2 p3,(F p0 p1 p2 p3).2=true→SoundFn P f [⟨s0,p0⟩,⟨s1,p1⟩,⟨s2,p2⟩,⟨s3,p3⟩] (F p0 p1 p2 p3).1):EntOk P (f,e4 s0 s1 s2 s3 F):=by
 intro args r hr0
 have hr:e4 s0 s1 s2 s3 F args=some (r,true):=hr0
 clear hr0
 unfold e4 at hr
 split at hr
 ·rename_i v0 v1 v2 v3
  cases hb:(v0.sh==s0&&v1.sh==s1&&v2.sh==s2&&v3.sh==s3) with
  | false=>rw [hb] at hr; cases hr
  | true =>
   rw [hb,cond_true,Option.some.injEq] at hr
   simp only [Bool.and_eq_true,beq_iff_eq] at hb
   obtain ⟨shv0,pv0⟩:=v0
   obtain ⟨shv1,pv1⟩:=v1
   obtain ⟨shv2,pv2⟩:=v2
   obtain ⟨shv3,pv3⟩:=v3
   obtain ⟨⟨⟨q0,q1⟩,q2⟩,q3⟩:=hb
   simp only at q0
   subst q0
   simp only at q1
   subst q1
   simp only at q2
   subst q2
   simp only at q3
   subst q3
   have hh:=h pv0 pv1 pv2 pv3
   rw [hr] at hh
   exact hh rfl
 ·cases hr
def e5 (s0 s1 s2 s3 s4:Sh) (F:List D→List D→List D→List D→List D→T × Bool):List T→Option (T × Bool)
 | [v0,v1,v2,v3,v4]=>bif v0.sh==s0&&v1.sh==s1&&v2.sh==s2&&v3.sh==s3&&v4.sh==s4 then some (F v0.p v1.p v2.p v3.p v4.p) else none
 | _=>none
theorem cnt_succ (C:Nat→Bool):∀ m k,cnt C k (m+1)=cnt C k m+(bif C (k+m) then 1 else 0)
 | 0,k=>by simp [cnt]
 | m+1,k=>by
  rw [cnt,cnt_succ C m (k+1),cnt,show k+1+m=k+(m+1) from by omega]
  omega
theorem anyS_take {C:List D→Bool} {z:D} {k:Nat} (h:k≤z.rows.length):anyS C (.l (z.rows.take k))=(List.range k).any fun j=>C (z.rows.getD j []):=by
 unfold anyS
 rw [rows_l,List.length_take,Nat.min_eq_left h]
 rw [Bool.eq_iff_iff]
 simp only [List.any_eq_true,List.mem_range]
 constructor
 ·rintro ⟨j,hj,h⟩
  refine ⟨j,hj,?_⟩
  rwa [List.getD_eq_getElem?_getD,List.getElem?_take_of_lt hj,← List.getD_eq_getElem?_getD] at h
 ·rintro ⟨j,hj,h⟩
  refine ⟨j,hj,?_⟩
  rwa [List.getD_eq_getElem?_getD,List.getElem?_take_of_lt hj,← List.getD_eq_getElem?_getD]
end Go.Proofs.YthbbbhpjkgpdcaaGreat
namespace Go.Proofs.YthbbbhpjkgpdcaaGreat
set_option maxRecDepth 4096
def isYes (z:D) (k:Nat):Bool:=(gd (z.rows.getD k []) 3).int==3
theorem not_any {n:Nat} {C:Nat→Bool}:((List.range n).all fun k => !C k) = !(List.range n).any C:=by simp [List.all_eq_not_any_not]
end Go.Proofs.YthbbbhpjkgpdcaaGreat
namespace Go.Proofs.YthbbbhpjkgpdcaaGreat
set_option maxRecDepth 4096
end Go.Proofs.YthbbbhpjkgpdcaaGreat
namespace Go.Proofs.YthbbbhpjkgpdcaaGreat
theorem total_mem {size:List D→Nat}:∀ {rows:List (List D)} {r:List D},r∈rows→size r≤total size rows
 | a::l,r,h=>by
  have e:total size (a::l)=size a+total size l:=by simp [total]
  rcases List.mem_cons.1 h with rfl | h
  ·omega
  ·have:=total_mem (size:=size) h
   omega
theorem okS {ok:List D→Bool} {size:List D→Nat} {z:D} {m:Nat} (hm:m≤4294967296) (h:z.rows.length+total size z.rows≤m) (hr:∀ r,size r≤m→ok r=true):(decide (z.rows.length≤4294967296)&&z.rows.all fun r=>ok r)=true:=by
 simp only [Bool.and_eq_true,decide_eq_true_eq,List.all_eq_true]
 exact ⟨by omega,fun r hm=>hr r (Nat.le_trans (total_mem hm) (by omega))⟩
theorem okF {ok:List D→Bool} {z:D} {m:Nat} (hm:m≤4294967296) (h:z.rows.length≤m) (hr:∀ r,ok r=true):(decide (z.rows.length≤4294967296)&&z.rows.all fun r=>ok r)=true:=by
 simp only [Bool.and_eq_true,decide_eq_true_eq,List.all_eq_true]
 exact ⟨by omega,fun r _=>hr r⟩
theorem okCellS_of {z:D} {m:Nat} (hm:m≤4294967296) (h:sizeCellS z≤m):okCellS z=true:=okF (ok:=fun r=>okCell (sub r 0 2)) hm h fun _=>rfl
theorem left_ge {s:Nat} {n:Int} (h:ltI (left s n) 0=false) (h0:0≤n):left s n=n - s∧(s:Int)≤n:=by
 unfold left at h ⊢
 split
 ·exact ⟨rfl,by assumption⟩
 ·rename_i hn
  rw [if_neg hn] at h
  cases h
end Go.Proofs.YthbbbhpjkgpdcaaGreat
namespace Go.Proofs.YthbbbhpjkgpdcaaGreat
set_option maxRecDepth 4096
theorem sz1 {a:Nat} {n:Int}:(bif ltI (left a n) 0 then oi (-1) else oi (left a n))=oi (left a n):=by
 unfold ltI left
 split
 ·rw [decide_eq_false (by omega)]; rfl
 ·rfl
theorem szN {b c:Nat} {m:Int}:nd (fair m) (bif ltI (left b m) 0 then oi (-1) else nd (fair (left b m)) (oi (left c (left b m))))=nd (fair m) (oi (left (b+c) m)):=by
 cases hm:fair m
 ·rfl
 ·simp only [nd,cond_true]
  by_cases h:left b m<0
  ·rw [ltI_t h,cond_true]
   have e:=left_left b c m
   rw [if_pos h] at e
   rw [← e]
  ·rw [ltI_f (by omega),cond_false,fair_left hm h,cond_true]
   have e:=left_left b c m
   rw [if_neg h] at e
   rw [← e]
end Go.Proofs.YthbbbhpjkgpdcaaGreat
namespace Go.Proofs.YthbbbhpjkgpdcaaGreat
set_option maxRecDepth 4096
def rLCmd:List S:= [si,si,si]
def rICmd:List S:= [si,si,si]
def cpCmd (p:List D):List D:= [gd p 0,gd p 1,gd p 2]
def okCmd (p:List D):Bool:=true
theorem toCmd_ev (p:List D) (N:Nat):evFn Tryz.prog (find []) N [0,1,2,3] Tryz.f33 (ag rICmd) [⟨ag rLCmd,p⟩]=some (bo,some (1,cpCmd p)):=by kernel_rfl
def toCmdE:Ent:=(33,e1 (ag rLCmd) fun p=>(⟨ag rICmd,cpCmd p⟩,okCmd p))
theorem toCmd_ok:EntOk Tryz.prog toCmdE:=e1_ok fun p h=>evFn_sound (N:=0) (ks:= [0,1,2,3]) (key:=bo) (find_ok (fN)) (enters Tryz.func33) Tryz.func33 fun _=>by
 have h:okCmd p=true:=h
 simp only [okCmd,Bool.and_eq_true] at h
 rw [toCmd_ev]
def eqCmd (p q:List D):Bool:=((gd p 0).int==(gd q 0).int)&&(((gd p 1).int==(gd q 1).int)&&(((gd p 2).int==(gd q 2).int)&&(true)))
theorem eqCmd_ev (p q:List D) (N:Nat):evFn Tryz.prog (find []) N [0,1,2,3,4,9,14,19] Tryz.f50 rb [⟨ag rICmd,p⟩,⟨ag rICmd,q⟩]=some (bo,bif !((gd p 0).int==(gd q 0).int) then ob false else bif !((gd p 1).int==(gd q 1).int) then ob false else bif !((gd p 2).int==(gd q 2).int) then ob false else ob true):=by kernel_rfl
def eqCmdE:Ent:=(50,e2 (ag rICmd) (ag rICmd) fun p q=>(⟨rb,[.b (eqCmd p q)]⟩,true))
theorem eqCmd_ok:EntOk Tryz.prog eqCmdE:=e2_ok fun p q _=>evFn_sound (N:=0) (ks:= [0,1,2,3,4,9,14,19]) (key:=bo) (find_ok (fN)) (enters Tryz.func50) Tryz.func50 fun _=>by
 rw [eqCmd_ev]
 simp only [ne_step]
 rfl
theorem eqCmd_refl (p:List D):eqCmd p p=true:=by
 simp [eqCmd]
def sizeCmd (p:List D):Nat:=0
theorem okCmd_of {p:List D} {m:Nat} (hm:m≤4294967296) (h:sizeCmd p≤m):okCmd p=true:=rfl
def rLSeat:List S:= [si,si,si]
def rISeat:List S:= [si,si,si]
def cpSeat (p:List D):List D:= [gd p 0,gd p 1,gd p 2]
def okSeat (p:List D):Bool:=true
theorem toSeat_ev (p:List D) (N:Nat):evFn Tryz.prog (find []) N [0,1,2,3] Tryz.f149 (ag rISeat) [⟨ag rLSeat,p⟩]=some (bo,some (1,cpSeat p)):=by kernel_rfl
def toSeatE:Ent:=(149,e1 (ag rLSeat) fun p=>(⟨ag rISeat,cpSeat p⟩,okSeat p))
theorem toSeat_ok:EntOk Tryz.prog toSeatE:=e1_ok fun p h=>evFn_sound (N:=0) (ks:= [0,1,2,3]) (key:=bo) (find_ok (fN)) (enters Tryz.func149) Tryz.func149 fun _=>by
 have h:okSeat p=true:=h
 simp only [okSeat,Bool.and_eq_true] at h
 rw [toSeat_ev]
def eqSeat (p q:List D):Bool:=((gd p 0).int==(gd q 0).int)&&(((gd p 1).int==(gd q 1).int)&&(((gd p 2).int==(gd q 2).int)&&(true)))
theorem eqSeat_ev (p q:List D) (N:Nat):evFn Tryz.prog (find []) N [0,1,2,3,4,9,14,19] Tryz.f160 rb [⟨ag rISeat,p⟩,⟨ag rISeat,q⟩]=some (bo,bif !((gd p 0).int==(gd q 0).int) then ob false else bif !((gd p 1).int==(gd q 1).int) then ob false else bif !((gd p 2).int==(gd q 2).int) then ob false else ob true):=by kernel_rfl
def eqSeatE:Ent:=(160,e2 (ag rISeat) (ag rISeat) fun p q=>(⟨rb,[.b (eqSeat p q)]⟩,true))
theorem eqSeat_ok:EntOk Tryz.prog eqSeatE:=e2_ok fun p q _=>evFn_sound (N:=0) (ks:= [0,1,2,3,4,9,14,19]) (key:=bo) (find_ok (fN)) (enters Tryz.func160) Tryz.func160 fun _=>by
 rw [eqSeat_ev]
 simp only [ne_step]
 rfl
theorem eqSeat_refl (p:List D):eqSeat p p=true:=by
 simp [eqSeat]
def cpSeatS (z:D):D:=.l (z.rows.map fun r=>cpSeat (sub r 0 3))
def okSeatS (z:D):Bool:=decide (z.rows.length≤4294967296)&&z.rows.all fun r=>okSeat (sub r 0 3)
def eqSeatS:D→D→Bool:=alikeS (fun r s=>eqSeat (sub r 0 3) (sub s 0 3))
noncomputable def eqSeatSL (N:Nat) (p q:List D):List D→Out:=loopOf Tryz.prog (find [eqSeatE]) N [0,1,4,5,10,14,26] Tryz.f142 rb [⟨sd (.sl 69),p⟩,⟨sd (.sl 69),q⟩] 0
theorem eqSeatS_rd (p q:List D) (N:Nat) (z u x y:D) (k:Int):eqSeatSL N p q [z,u,x,y,.i k]=bif decide (k<z.rows.length) then nd (inRange k z.rows.length) (nd (inRange k u.rows.length) (bif !(eqSeat (sub (z.rows.getD k.toNat []) 0 3) (sub (u.rows.getD k.toNat []) 0 3)) then ob false else nx [z,u,x,y,.i (w64 (k+1))])) else ex 0 [z,u,x,y,.i k]:=by kernel_rfl
theorem eqSeatS_ev (p q:List D) (N:Nat):evFn Tryz.prog (find [eqSeatE]) N [0,1,4,5,10,14,26] Tryz.f142 rb [⟨sd (.sl 69),p⟩,⟨sd (.sl 69),q⟩]=some (bo,bif !(((gd p 0).rows.length:Int)==(gd q 0).rows.length) then ob false else
  (let o:=iter (eqSeatSL N p q) N [gd p 0,gd q 0,D0,.b (!(((gd p 0).rows.length:Int)==(gd q 0).rows.length)),.i 0]
   nd o.isSome (bif o.code==1 then some (1,o.pay) else nd (o.code==2) (ob true)))):=by kernel_rfl
def eqSeatSE:Ent:=(142,e2 (sd (.sl 69)) (sd (.sl 69)) fun p q=>(⟨rb,[.b (eqSeatS (gd p 0) (gd q 0))]⟩,true))
theorem eqSeatS_ok:EntOk Tryz.prog eqSeatSE:=e2_ok fun p q _=>evFn_sound (N:=(gd p 0).rows.length+1) (ks:= [0,1,4,5,10,14,26]) (key:=bo) (find_ok (fC ⟨eqSeat_ok,fN⟩)) (enters Tryz.func142) Tryz.func142 fun hw=>by
 rw [eqSeatS_ev]
 by_cases hl:(gd p 0).rows.length=(gd q 0).rows.length
 ·rw [like_loop (E:=(fun r s=>eqSeat (sub r 0 3) (sub s 0 3))) (wt_sl (hw ⟨sd (.sl 69),p⟩ (by simp))) hl (eqSeatS_rd p q _ _ _ _ _) (by omega)]
  rw [show ((((gd p 0).rows.length:Int))==(gd q 0).rows.length)=true from beq_iff_eq.2 (by omega)]
  show some (bo,_)=some (bo,some (1,[D.b (alikeS (fun r s=>eqSeat (sub r 0 3) (sub s 0 3)) (gd p 0) (gd q 0))]))
  cases alikeS (fun r s=>eqSeat (sub r 0 3) (sub s 0 3)) (gd p 0) (gd q 0) <;> rfl
 ·rw [show ((((gd p 0).rows.length:Int))==(gd q 0).rows.length)=false from beq_eq_false_iff_ne.2 (by omega)]
  show some (bo,_)=some (bo,some (1,[D.b (alikeS (fun r s=>eqSeat (sub r 0 3) (sub s 0 3)) (gd p 0) (gd q 0))]))
  rw [show alikeS (fun r s=>eqSeat (sub r 0 3) (sub s 0 3)) (gd p 0) (gd q 0)=false from by simp [alikeS,hl]]
  rfl
theorem eqSeatS_refl (z:D):eqSeatS z z=true:=alikeS_refl (fun r=>by exact eqSeat_refl _) z
def sizeSeatS (z:D):Nat:=z.rows.length
theorem szSeatS_ev (p q:List D) (N:Nat):evFn Tryz.prog (find []) N [0,1,4,10] Tryz.f101 ri [⟨sd (.sl 181),p⟩,⟨ri,q⟩]=some (bo,bif decide (w64 ((gd q 0).int - (gd p 0).rows.length)<0) then oi (-1) else oi (w64 ((gd q 0).int - (gd p 0).rows.length))):=by kernel_rfl
def szSeatSE:Ent:=(101,e2 (sd (.sl 181)) ri fun p q=>(⟨ri,[.i (left (sizeSeatS (gd p 0)) (gd q 0).int)]⟩,fair (gd q 0).int))
theorem szSeatS_ok:EntOk Tryz.prog szSeatSE:=e2_ok fun p q h=>evFn_sound (N:=(gd p 0).rows.length+1) (ks:= [0,1,4,10]) (key:=bo) (find_ok (fN)) (enters Tryz.func101) Tryz.func101 fun hw=>by
 have h:fair (gd q 0).int=true:=h
 have hl:=wt_sl (hw ⟨sd (.sl 181),p⟩ (by simp))
 have h2:0≤(gd q 0).int∧(gd q 0).int≤1048576:=by simpa [fair] using h
 rw [szSeatS_ev,w64_id (by omega) (by omega)]
 rw [oi_if,left_sub]
 rfl
theorem okSeatS_of {z:D} {m:Nat} (hm:m≤4294967296) (h:sizeSeatS z≤m):okSeatS z=true:=okF (ok:=fun r=>okSeat (sub r 0 3)) hm h fun _=>rfl
def rLImage:List S:= [.sl 179,.sl 181]
def rIImage:List S:= [.sl 148,.sl 69]
def cpImage (p:List D):List D:= [cpCellS (gd p 0),cpSeatS (gd p 1)]
def okImage (p:List D):Bool:=okCellS (gd p 0)&&(okSeatS (gd p 1))
def eqImage (p q:List D):Bool:=(eqCellS (gd p 0) (gd q 0))&&((eqSeatS (gd p 1) (gd q 1))&&(true))
theorem eqImage_ev (p q:List D) (N:Nat):evFn Tryz.prog (find [eqCellSE,eqSeatSE]) N [0,1,2,3,4,10,16] Tryz.f95 rb [⟨ag rIImage,p⟩,⟨ag rIImage,q⟩]=some (bo,bif !(eqCellS (gd p 0) (gd q 0)) then ob false else bif !(eqSeatS (gd p 1) (gd q 1)) then ob false else ob true):=by kernel_rfl
def eqImageE:Ent:=(95,e2 (ag rIImage) (ag rIImage) fun p q=>(⟨rb,[.b (eqImage p q)]⟩,true))
theorem eqImage_ok:EntOk Tryz.prog eqImageE:=e2_ok fun p q _=>evFn_sound (N:=0) (ks:= [0,1,2,3,4,10,16]) (key:=bo) (find_ok (fC ⟨eqCellS_ok,fC ⟨eqSeatS_ok,fN⟩⟩)) (enters Tryz.func95) Tryz.func95 fun _=>by
 rw [eqImage_ev]
 simp only [ne_step]
 rfl
theorem eqImage_refl (p:List D):eqImage p p=true:=by
 simp [eqImage,eqCellS_refl,eqSeatS_refl]
def sizeImage (p:List D):Nat:=sizeCellS (gd p 0)+(sizeSeatS (gd p 1))
theorem szImage_ev (p q:List D) (N:Nat):evFn Tryz.prog (find [szCellSE,szSeatSE]) N [0,1,2,4,10,16] Tryz.f61 ri [⟨ag rLImage,p⟩,⟨ri,q⟩]=some (bo,nd (fair (gd q 0).int) (bif ltI (left (sizeCellS (gd p 0)) (gd q 0).int) 0 then oi (-1) else nd (fair (left (sizeCellS (gd p 0)) (gd q 0).int)) (bif ltI (left (sizeSeatS (gd p 1)) (left (sizeCellS (gd p 0)) (gd q 0).int)) 0 then oi (-1) else oi (left (sizeSeatS (gd p 1)) (left (sizeCellS (gd p 0)) (gd q 0).int))))):=by kernel_rfl
def szImageE:Ent:=(61,e2 (ag rLImage) ri fun p q=>(⟨ri,[.i (left (sizeImage p) (gd q 0).int)]⟩,fair (gd q 0).int))
theorem szImage_ok:EntOk Tryz.prog szImageE:=e2_ok fun p q h=>evFn_sound (N:=0) (ks:= [0,1,2,4,10,16]) (key:=bo) (find_ok (fC ⟨szCellS_ok,fC ⟨szSeatS_ok,fN⟩⟩)) (enters Tryz.func61) Tryz.func61 fun _=>by
 have h:fair (gd q 0).int=true:=h
 rw [szImage_ev]
 simp only [sz1,szN]
 simp only [h,nd,cond_true]
 rfl
theorem okImage_of {p:List D} {m:Nat} (hm:m≤4294967296) (h:sizeImage p≤m):okImage p=true:=by
 unfold sizeImage at h
 simp only [okImage,Bool.and_eq_true]
 exact ⟨okCellS_of hm (show sizeCellS (gd p 0)≤m from by omega),okSeatS_of hm (show sizeSeatS (gd p 1)≤m from by omega)⟩
def rLEntry:List S:= [si,si,si,si,si]
def rIEntry:List S:= [si,si,si,si,si]
def cpEntry (p:List D):List D:= [gd p 0,gd p 1,gd (cpCmd (sub p 2 3)) 0,gd (cpCmd (sub p 2 3)) 1,gd (cpCmd (sub p 2 3)) 2]
def okEntry (p:List D):Bool:=okCmd (sub p 2 3)
theorem toEntry_ev (p:List D) (N:Nat):evFn Tryz.prog (find [toCmdE]) N [0,1,2,3] Tryz.f119 (ag rIEntry) [⟨ag rLEntry,p⟩]=some (bo,nd (okCmd (sub p 2 3)) (some (1,cpEntry p))):=by kernel_rfl
def toEntryE:Ent:=(119,e1 (ag rLEntry) fun p=>(⟨ag rIEntry,cpEntry p⟩,okEntry p))
theorem toEntry_ok:EntOk Tryz.prog toEntryE:=e1_ok fun p h=>evFn_sound (N:=0) (ks:= [0,1,2,3]) (key:=bo) (find_ok (fC ⟨toCmd_ok,fN⟩)) (enters Tryz.func119) Tryz.func119 fun _=>by
 have h:okEntry p=true:=h
 simp only [okEntry,Bool.and_eq_true] at h
 rw [toEntry_ev]
 simp only [nd,h,cond_true]
def eqEntry (p q:List D):Bool:=((gd p 0).int==(gd q 0).int)&&(((gd p 1).int==(gd q 1).int)&&((eqCmd (sub p 2 3) (sub q 2 3))&&(true)))
theorem eqEntry_ev (p q:List D) (N:Nat):evFn Tryz.prog (find [eqCmdE]) N [0,1,2,3,4,9,14,20] Tryz.f143 rb [⟨ag rIEntry,p⟩,⟨ag rIEntry,q⟩]=some (bo,bif !((gd p 0).int==(gd q 0).int) then ob false else bif !((gd p 1).int==(gd q 1).int) then ob false else bif !(eqCmd (sub p 2 3) (sub q 2 3)) then ob false else ob true):=by kernel_rfl
def eqEntryE:Ent:=(143,e2 (ag rIEntry) (ag rIEntry) fun p q=>(⟨rb,[.b (eqEntry p q)]⟩,true))
theorem eqEntry_ok:EntOk Tryz.prog eqEntryE:=e2_ok fun p q _=>evFn_sound (N:=0) (ks:= [0,1,2,3,4,9,14,20]) (key:=bo) (find_ok (fC ⟨eqCmd_ok,fN⟩)) (enters Tryz.func143) Tryz.func143 fun _=>by
 rw [eqEntry_ev]
 simp only [ne_step]
 rfl
theorem eqEntry_refl (p:List D):eqEntry p p=true:=by
 simp [eqEntry,eqCmd_refl]
def cpEntryS (z:D):D:=.l (z.rows.map fun r=>cpEntry (sub r 0 5))
def okEntryS (z:D):Bool:=decide (z.rows.length≤4294967296)&&z.rows.all fun r=>okEntry (sub r 0 5)
def eqEntryS:D→D→Bool:=alikeS (fun r s=>eqEntry (sub r 0 5) (sub s 0 5))
noncomputable def eqEntrySL (N:Nat) (p q:List D):List D→Out:=loopOf Tryz.prog (find [eqEntryE]) N [0,1,4,5,10,14,26] Tryz.f96 rb [⟨sd (.sl 78),p⟩,⟨sd (.sl 78),q⟩] 0
theorem eqEntryS_rd (p q:List D) (N:Nat) (z u x y:D) (k:Int):eqEntrySL N p q [z,u,x,y,.i k]=bif decide (k<z.rows.length) then nd (inRange k z.rows.length) (nd (inRange k u.rows.length) (bif !(eqEntry (sub (z.rows.getD k.toNat []) 0 5) (sub (u.rows.getD k.toNat []) 0 5)) then ob false else nx [z,u,x,y,.i (w64 (k+1))])) else ex 0 [z,u,x,y,.i k]:=by kernel_rfl
theorem eqEntryS_ev (p q:List D) (N:Nat):evFn Tryz.prog (find [eqEntryE]) N [0,1,4,5,10,14,26] Tryz.f96 rb [⟨sd (.sl 78),p⟩,⟨sd (.sl 78),q⟩]=some (bo,bif !(((gd p 0).rows.length:Int)==(gd q 0).rows.length) then ob false else
  (let o:=iter (eqEntrySL N p q) N [gd p 0,gd q 0,D0,.b (!(((gd p 0).rows.length:Int)==(gd q 0).rows.length)),.i 0]
   nd o.isSome (bif o.code==1 then some (1,o.pay) else nd (o.code==2) (ob true)))):=by kernel_rfl
def eqEntrySE:Ent:=(96,e2 (sd (.sl 78)) (sd (.sl 78)) fun p q=>(⟨rb,[.b (eqEntryS (gd p 0) (gd q 0))]⟩,true))
theorem eqEntryS_ok:EntOk Tryz.prog eqEntrySE:=e2_ok fun p q _=>evFn_sound (N:=(gd p 0).rows.length+1) (ks:= [0,1,4,5,10,14,26]) (key:=bo) (find_ok (fC ⟨eqEntry_ok,fN⟩)) (enters Tryz.func96) Tryz.func96 fun hw=>by
 rw [eqEntryS_ev]
 by_cases hl:(gd p 0).rows.length=(gd q 0).rows.length
 ·rw [like_loop (E:=(fun r s=>eqEntry (sub r 0 5) (sub s 0 5))) (wt_sl (hw ⟨sd (.sl 78),p⟩ (by simp))) hl (eqEntryS_rd p q _ _ _ _ _) (by omega)]
  rw [show ((((gd p 0).rows.length:Int))==(gd q 0).rows.length)=true from beq_iff_eq.2 (by omega)]
  show some (bo,_)=some (bo,some (1,[D.b (alikeS (fun r s=>eqEntry (sub r 0 5) (sub s 0 5)) (gd p 0) (gd q 0))]))
  cases alikeS (fun r s=>eqEntry (sub r 0 5) (sub s 0 5)) (gd p 0) (gd q 0) <;> rfl
 ·rw [show ((((gd p 0).rows.length:Int))==(gd q 0).rows.length)=false from beq_eq_false_iff_ne.2 (by omega)]
  show some (bo,_)=some (bo,some (1,[D.b (alikeS (fun r s=>eqEntry (sub r 0 5) (sub s 0 5)) (gd p 0) (gd q 0))]))
  rw [show alikeS (fun r s=>eqEntry (sub r 0 5) (sub s 0 5)) (gd p 0) (gd q 0)=false from by simp [alikeS,hl]]
  rfl
theorem eqEntryS_refl (z:D):eqEntryS z z=true:=alikeS_refl (fun r=>by exact eqEntry_refl _) z
def sizeEntryS (z:D):Nat:=z.rows.length
theorem szEntryS_ev (p q:List D) (N:Nat):evFn Tryz.prog (find []) N [0,1,4,10] Tryz.f62 ri [⟨sd (.sl 163),p⟩,⟨ri,q⟩]=some (bo,bif decide (w64 ((gd q 0).int - (gd p 0).rows.length)<0) then oi (-1) else oi (w64 ((gd q 0).int - (gd p 0).rows.length))):=by kernel_rfl
def szEntrySE:Ent:=(62,e2 (sd (.sl 163)) ri fun p q=>(⟨ri,[.i (left (sizeEntryS (gd p 0)) (gd q 0).int)]⟩,fair (gd q 0).int))
theorem szEntryS_ok:EntOk Tryz.prog szEntrySE:=e2_ok fun p q h=>evFn_sound (N:=(gd p 0).rows.length+1) (ks:= [0,1,4,10]) (key:=bo) (find_ok (fN)) (enters Tryz.func62) Tryz.func62 fun hw=>by
 have h:fair (gd q 0).int=true:=h
 have hl:=wt_sl (hw ⟨sd (.sl 163),p⟩ (by simp))
 have h2:0≤(gd q 0).int∧(gd q 0).int≤1048576:=by simpa [fair] using h
 rw [szEntryS_ev,w64_id (by omega) (by omega)]
 rw [oi_if,left_sub]
 rfl
theorem okEntryS_of {z:D} {m:Nat} (hm:m≤4294967296) (h:sizeEntryS z≤m):okEntryS z=true:=okF (ok:=fun r=>okEntry (sub r 0 5)) hm h fun _=>rfl
def rLLog:List S:= [si,.sl 179,.sl 181,.sl 163]
def rILog:List S:= [si,.sl 148,.sl 69,.sl 78]
def cpLog (p:List D):List D:= [gd p 0,gd (cpImage (sub p 1 2)) 0,gd (cpImage (sub p 1 2)) 1,cpEntryS (gd p 3)]
def okLog (p:List D):Bool:=okImage (sub p 1 2)&&(okEntryS (gd p 3))
def eqLog (p q:List D):Bool:=((gd p 0).int==(gd q 0).int)&&((eqImage (sub p 1 2) (sub q 1 2))&&((eqEntryS (gd p 3) (gd q 3))&&(true)))
theorem eqLog_ev (p q:List D) (N:Nat):evFn Tryz.prog (find [eqImageE,eqEntrySE]) N [0,1,2,3,4,9,15,21] Tryz.f47 rb [⟨ag rILog,p⟩,⟨ag rILog,q⟩]=some (bo,bif !((gd p 0).int==(gd q 0).int) then ob false else bif !(eqImage (sub p 1 2) (sub q 1 2)) then ob false else bif !(eqEntryS (gd p 3) (gd q 3)) then ob false else ob true):=by kernel_rfl
def eqLogE:Ent:=(47,e2 (ag rILog) (ag rILog) fun p q=>(⟨rb,[.b (eqLog p q)]⟩,true))
theorem eqLog_ok:EntOk Tryz.prog eqLogE:=e2_ok fun p q _=>evFn_sound (N:=0) (ks:= [0,1,2,3,4,9,15,21]) (key:=bo) (find_ok (fC ⟨eqImage_ok,fC ⟨eqEntryS_ok,fN⟩⟩)) (enters Tryz.func47) Tryz.func47 fun _=>by
 rw [eqLog_ev]
 simp only [ne_step]
 rfl
theorem eqLog_refl (p:List D):eqLog p p=true:=by
 simp [eqLog,eqImage_refl,eqEntryS_refl]
def sizeLog (p:List D):Nat:=sizeImage (sub p 1 2)+(sizeEntryS (gd p 3))
theorem szLog_ev (p q:List D) (N:Nat):evFn Tryz.prog (find [szImageE,szEntrySE]) N [0,1,2,4,10,16] Tryz.f18 ri [⟨ag rLLog,p⟩,⟨ri,q⟩]=some (bo,nd (fair (gd q 0).int) (bif ltI (left (sizeImage (sub p 1 2)) (gd q 0).int) 0 then oi (-1) else nd (fair (left (sizeImage (sub p 1 2)) (gd q 0).int)) (bif ltI (left (sizeEntryS (gd p 3)) (left (sizeImage (sub p 1 2)) (gd q 0).int)) 0 then oi (-1) else oi (left (sizeEntryS (gd p 3)) (left (sizeImage (sub p 1 2)) (gd q 0).int))))):=by kernel_rfl
def szLogE:Ent:=(18,e2 (ag rLLog) ri fun p q=>(⟨ri,[.i (left (sizeLog p) (gd q 0).int)]⟩,fair (gd q 0).int))
theorem szLog_ok:EntOk Tryz.prog szLogE:=e2_ok fun p q h=>evFn_sound (N:=0) (ks:= [0,1,2,4,10,16]) (key:=bo) (find_ok (fC ⟨szImage_ok,fC ⟨szEntryS_ok,fN⟩⟩)) (enters Tryz.func18) Tryz.func18 fun _=>by
 have h:fair (gd q 0).int=true:=h
 rw [szLog_ev]
 simp only [sz1,szN]
 simp only [h,nd,cond_true]
 rfl
theorem okLog_of {p:List D} {m:Nat} (hm:m≤4294967296) (h:sizeLog p≤m):okLog p=true:=by
 unfold sizeLog at h
 simp only [okLog,Bool.and_eq_true]
 exact ⟨okImage_of hm (show sizeImage (sub p 1 2)≤m from by omega),okEntryS_of hm (show sizeEntryS (gd p 3)≤m from by omega)⟩
def rLMsg:List S:= [si,si,si,si,si,si,si,si,si,si,si,si,si,si,.sl 179,.sl 181,.sl 163]
def rIMsg:List S:= [si,si,si,si,si,si,si,si,si,si,si,si,si,si,.sl 148,.sl 69,.sl 78]
def cpMsg (p:List D):List D:= [gd p 0,gd p 1,gd p 2,gd p 3,gd p 4,gd p 5,gd p 6,gd p 7,gd p 8,gd p 9,gd (cpCmd (sub p 10 3)) 0,gd (cpCmd (sub p 10 3)) 1,gd (cpCmd (sub p 10 3)) 2,gd (cpLog (sub p 13 4)) 0,gd (cpLog (sub p 13 4)) 1,gd (cpLog (sub p 13 4)) 2,gd (cpLog (sub p 13 4)) 3]
def okMsg (p:List D):Bool:=okCmd (sub p 10 3)&&(okLog (sub p 13 4))
def eqMsg (p q:List D):Bool:=((gd p 0).int==(gd q 0).int)&&(((gd p 1).int==(gd q 1).int)&&(((gd p 2).int==(gd q 2).int)&&(((gd p 3).int==(gd q 3).int)&&(((gd p 4).int==(gd q 4).int)&&(((gd p 5).int==(gd q 5).int)&&(((gd p 6).int==(gd q 6).int)&&(((gd p 7).int==(gd q 7).int)&&(((gd p 8).int==(gd q 8).int)&&(((gd p 9).int==(gd q 9).int)&&((eqCmd (sub p 10 3) (sub q 10 3))&&((eqLog (sub p 13 4) (sub q 13 4))&&(true))))))))))))
theorem eqMsg_ev (p q:List D) (N:Nat):evFn Tryz.prog (find [eqCmdE,eqLogE]) N [0,1,2,3,4,9,14,19,24,29,34,39,44,49,54,60,66] Tryz.f12 rb [⟨ag rIMsg,p⟩,⟨ag rIMsg,q⟩]=some (bo,bif !((gd p 0).int==(gd q 0).int) then ob false else bif !((gd p 1).int==(gd q 1).int) then ob false else bif !((gd p 2).int==(gd q 2).int) then ob false else bif !((gd p 3).int==(gd q 3).int) then ob false else bif !((gd p 4).int==(gd q 4).int) then ob false else bif !((gd p 5).int==(gd q 5).int) then ob false else bif !((gd p 6).int==(gd q 6).int) then ob false else bif !((gd p 7).int==(gd q 7).int) then ob false else bif !((gd p 8).int==(gd q 8).int) then ob false else bif !((gd p 9).int==(gd q 9).int) then ob false else bif !(eqCmd (sub p 10 3) (sub q 10 3)) then ob false else bif !(eqLog (sub p 13 4) (sub q 13 4)) then ob false else ob true):=by kernel_rfl
def eqMsgE:Ent:=(12,e2 (ag rIMsg) (ag rIMsg) fun p q=>(⟨rb,[.b (eqMsg p q)]⟩,true))
theorem eqMsg_ok:EntOk Tryz.prog eqMsgE:=e2_ok fun p q _=>evFn_sound (N:=0) (ks:= [0,1,2,3,4,9,14,19,24,29,34,39,44,49,54,60,66]) (key:=bo) (find_ok (fC ⟨eqCmd_ok,fC ⟨eqLog_ok,fN⟩⟩)) (enters Tryz.func12) Tryz.func12 fun _=>by
 rw [eqMsg_ev]
 simp only [ne_step]
 rfl
theorem eqMsg_refl (p:List D):eqMsg p p=true:=by
 simp [eqMsg,eqCmd_refl,eqLog_refl]
def sizeMsg (p:List D):Nat:=sizeLog (sub p 13 4)
theorem szMsg_ev (p q:List D) (N:Nat):evFn Tryz.prog (find [szLogE]) N [0,1,2,4,10] Tryz.f5 ri [⟨ag rLMsg,p⟩,⟨ri,q⟩]=some (bo,nd (fair (gd q 0).int) (bif ltI (left (sizeLog (sub p 13 4)) (gd q 0).int) 0 then oi (-1) else oi (left (sizeLog (sub p 13 4)) (gd q 0).int))):=by kernel_rfl
def szMsgE:Ent:=(5,e2 (ag rLMsg) ri fun p q=>(⟨ri,[.i (left (sizeMsg p) (gd q 0).int)]⟩,fair (gd q 0).int))
theorem szMsg_ok:EntOk Tryz.prog szMsgE:=e2_ok fun p q h=>evFn_sound (N:=0) (ks:= [0,1,2,4,10]) (key:=bo) (find_ok (fC ⟨szLog_ok,fN⟩)) (enters Tryz.func5) Tryz.func5 fun _=>by
 have h:fair (gd q 0).int=true:=h
 rw [szMsg_ev]
 simp only [sz1,szN]
 simp only [h,nd,cond_true]
 rfl
theorem okMsg_of {p:List D} {m:Nat} (hm:m≤4294967296) (h:sizeMsg p≤m):okMsg p=true:=by
 unfold sizeMsg at h
 simp only [okMsg,Bool.and_eq_true]
 exact ⟨okCmd_of hm (show sizeCmd (sub p 10 3)≤m from Nat.zero_le _),okLog_of hm (show sizeLog (sub p 13 4)≤m from by omega)⟩
def rLVote:List S:= [si,si,si,si,si,si,si,.sl 179,.sl 181,.sl 163]
def rIVote:List S:= [si,si,si,si,si,si,si,.sl 148,.sl 69,.sl 78]
def cpVote (p:List D):List D:= [gd p 0,gd p 1,gd p 2,gd p 3,gd p 4,gd p 5,gd (cpLog (sub p 6 4)) 0,gd (cpLog (sub p 6 4)) 1,gd (cpLog (sub p 6 4)) 2,gd (cpLog (sub p 6 4)) 3]
def okVote (p:List D):Bool:=okLog (sub p 6 4)
def eqVote (p q:List D):Bool:=((gd p 0).int==(gd q 0).int)&&(((gd p 1).int==(gd q 1).int)&&(((gd p 2).int==(gd q 2).int)&&(((gd p 3).int==(gd q 3).int)&&(((gd p 4).int==(gd q 4).int)&&(((gd p 5).int==(gd q 5).int)&&((eqLog (sub p 6 4) (sub q 6 4))&&(true)))))))
theorem eqVote_ev (p q:List D) (N:Nat):evFn Tryz.prog (find [eqLogE]) N [0,1,2,3,4,9,14,19,24,29,34,40] Tryz.f97 rb [⟨ag rIVote,p⟩,⟨ag rIVote,q⟩]=some (bo,bif !((gd p 0).int==(gd q 0).int) then ob false else bif !((gd p 1).int==(gd q 1).int) then ob false else bif !((gd p 2).int==(gd q 2).int) then ob false else bif !((gd p 3).int==(gd q 3).int) then ob false else bif !((gd p 4).int==(gd q 4).int) then ob false else bif !((gd p 5).int==(gd q 5).int) then ob false else bif !(eqLog (sub p 6 4) (sub q 6 4)) then ob false else ob true):=by kernel_rfl
def eqVoteE:Ent:=(97,e2 (ag rIVote) (ag rIVote) fun p q=>(⟨rb,[.b (eqVote p q)]⟩,true))
theorem eqVote_ok:EntOk Tryz.prog eqVoteE:=e2_ok fun p q _=>evFn_sound (N:=0) (ks:= [0,1,2,3,4,9,14,19,24,29,34,40]) (key:=bo) (find_ok (fC ⟨eqLog_ok,fN⟩)) (enters Tryz.func97) Tryz.func97 fun _=>by
 rw [eqVote_ev]
 simp only [ne_step]
 rfl
theorem eqVote_refl (p:List D):eqVote p p=true:=by
 simp [eqVote,eqLog_refl]
def sizeVote (p:List D):Nat:=sizeLog (sub p 6 4)
theorem szVote_ev (p q:List D) (N:Nat):evFn Tryz.prog (find [szLogE]) N [0,1,2,4,10] Tryz.f63 ri [⟨ag rLVote,p⟩,⟨ri,q⟩]=some (bo,nd (fair (gd q 0).int) (bif ltI (left (sizeLog (sub p 6 4)) (gd q 0).int) 0 then oi (-1) else oi (left (sizeLog (sub p 6 4)) (gd q 0).int))):=by kernel_rfl
def szVoteE:Ent:=(63,e2 (ag rLVote) ri fun p q=>(⟨ri,[.i (left (sizeVote p) (gd q 0).int)]⟩,fair (gd q 0).int))
theorem szVote_ok:EntOk Tryz.prog szVoteE:=e2_ok fun p q h=>evFn_sound (N:=0) (ks:= [0,1,2,4,10]) (key:=bo) (find_ok (fC ⟨szLog_ok,fN⟩)) (enters Tryz.func63) Tryz.func63 fun _=>by
 have h:fair (gd q 0).int=true:=h
 rw [szVote_ev]
 simp only [sz1,szN]
 simp only [h,nd,cond_true]
 rfl
theorem okVote_of {p:List D} {m:Nat} (hm:m≤4294967296) (h:sizeVote p≤m):okVote p=true:=by
 unfold sizeVote at h
 simp only [okVote,Bool.and_eq_true]
 exact okLog_of hm (show sizeLog (sub p 6 4)≤m from by omega)
def cpVoteS (z:D):D:=.l (z.rows.map fun r=>cpVote (sub r 0 10))
def okVoteS (z:D):Bool:=decide (z.rows.length≤4294967296)&&z.rows.all fun r=>okVote (sub r 0 10)
def eqVoteS:D→D→Bool:=alikeS (fun r s=>eqVote (sub r 0 10) (sub s 0 10))
noncomputable def eqVoteSL (N:Nat) (p q:List D):List D→Out:=loopOf Tryz.prog (find [eqVoteE]) N [0,1,4,5,10,14,26] Tryz.f48 rb [⟨sd (.sl 132),p⟩,⟨sd (.sl 132),q⟩] 0
theorem eqVoteS_rd (p q:List D) (N:Nat) (z u x y:D) (k:Int):eqVoteSL N p q [z,u,x,y,.i k]=bif decide (k<z.rows.length) then nd (inRange k z.rows.length) (nd (inRange k u.rows.length) (bif !(eqVote (sub (z.rows.getD k.toNat []) 0 10) (sub (u.rows.getD k.toNat []) 0 10)) then ob false else nx [z,u,x,y,.i (w64 (k+1))])) else ex 0 [z,u,x,y,.i k]:=by kernel_rfl
theorem eqVoteS_ev (p q:List D) (N:Nat):evFn Tryz.prog (find [eqVoteE]) N [0,1,4,5,10,14,26] Tryz.f48 rb [⟨sd (.sl 132),p⟩,⟨sd (.sl 132),q⟩]=some (bo,bif !(((gd p 0).rows.length:Int)==(gd q 0).rows.length) then ob false else
  (let o:=iter (eqVoteSL N p q) N [gd p 0,gd q 0,D0,.b (!(((gd p 0).rows.length:Int)==(gd q 0).rows.length)),.i 0]
   nd o.isSome (bif o.code==1 then some (1,o.pay) else nd (o.code==2) (ob true)))):=by kernel_rfl
def eqVoteSE:Ent:=(48,e2 (sd (.sl 132)) (sd (.sl 132)) fun p q=>(⟨rb,[.b (eqVoteS (gd p 0) (gd q 0))]⟩,true))
theorem eqVoteS_ok:EntOk Tryz.prog eqVoteSE:=e2_ok fun p q _=>evFn_sound (N:=(gd p 0).rows.length+1) (ks:= [0,1,4,5,10,14,26]) (key:=bo) (find_ok (fC ⟨eqVote_ok,fN⟩)) (enters Tryz.func48) Tryz.func48 fun hw=>by
 rw [eqVoteS_ev]
 by_cases hl:(gd p 0).rows.length=(gd q 0).rows.length
 ·rw [like_loop (E:=(fun r s=>eqVote (sub r 0 10) (sub s 0 10))) (wt_sl (hw ⟨sd (.sl 132),p⟩ (by simp))) hl (eqVoteS_rd p q _ _ _ _ _) (by omega)]
  rw [show ((((gd p 0).rows.length:Int))==(gd q 0).rows.length)=true from beq_iff_eq.2 (by omega)]
  show some (bo,_)=some (bo,some (1,[D.b (alikeS (fun r s=>eqVote (sub r 0 10) (sub s 0 10)) (gd p 0) (gd q 0))]))
  cases alikeS (fun r s=>eqVote (sub r 0 10) (sub s 0 10)) (gd p 0) (gd q 0) <;> rfl
 ·rw [show ((((gd p 0).rows.length:Int))==(gd q 0).rows.length)=false from beq_eq_false_iff_ne.2 (by omega)]
  show some (bo,_)=some (bo,some (1,[D.b (alikeS (fun r s=>eqVote (sub r 0 10) (sub s 0 10)) (gd p 0) (gd q 0))]))
  rw [show alikeS (fun r s=>eqVote (sub r 0 10) (sub s 0 10)) (gd p 0) (gd q 0)=false from by simp [alikeS,hl]]
  rfl
theorem eqVoteS_refl (z:D):eqVoteS z z=true:=alikeS_refl (fun r=>by exact eqVote_refl _) z
def sizeVoteS (z:D):Nat:=z.rows.length+total (fun r=>sizeVote (sub r 0 10)) z.rows
noncomputable def szVoteSL (N:Nat) (p q:List D):List D→Out:=loopOf Tryz.prog (find [szVoteE]) N [0,1,4,5,11,15,25] Tryz.f19 ri [⟨sd (.sl 114),p⟩,⟨ri,q⟩] 0
theorem szVoteS_rd (p q:List D) (N:Nat) (z x y:D) (n k:Int):szVoteSL N p q [z,.i n,x,y,.i k]=bif decide (k<z.rows.length) then nd (inRange k z.rows.length) (nd (fair n) (bif decide (left (sizeVote (sub (z.rows.getD k.toNat []) 0 10)) n<0) then oi (-1) else nx [z,.i (left (sizeVote (sub (z.rows.getD k.toNat []) 0 10)) n),x,y,.i (w64 (k+1))])) else ex 0 [z,.i n,x,y,.i k]:=by kernel_rfl
theorem szVoteS_ev (p q:List D) (N:Nat):evFn Tryz.prog (find [szVoteE]) N [0,1,4,5,11,15,25] Tryz.f19 ri [⟨sd (.sl 114),p⟩,⟨ri,q⟩]=some (bo,bif decide (w64 ((gd q 0).int - (gd p 0).rows.length)<0) then oi (-1) else
  (let o:=iter (szVoteSL N p q) N [gd p 0,.i (w64 ((gd q 0).int - (gd p 0).rows.length)),.i 0,.b (decide (w64 ((gd q 0).int - (gd p 0).rows.length)<0)),.i 0]
   nd o.isSome (bif o.code==1 then some (1,o.pay) else nd (o.code==2) (some (1,[gd o.pay 1]))))):=by kernel_rfl
def szVoteSE:Ent:=(19,e2 (sd (.sl 114)) ri fun p q=>(⟨ri,[.i (left (sizeVoteS (gd p 0)) (gd q 0).int)]⟩,fair (gd q 0).int))
theorem szVoteS_ok:EntOk Tryz.prog szVoteSE:=e2_ok fun p q h=>evFn_sound (N:=(gd p 0).rows.length+1) (ks:= [0,1,4,5,11,15,25]) (key:=bo) (find_ok (fC ⟨szVote_ok,fN⟩)) (enters Tryz.func19) Tryz.func19 fun hw=>by
 have h:fair (gd q 0).int=true:=h
 have hl:=wt_sl (hw ⟨sd (.sl 114),p⟩ (by simp))
 have h2:0≤(gd q 0).int∧(gd q 0).int≤1048576:=by simpa [fair] using h
 rw [szVoteS_ev,w64_id (by omega) (by omega)]
 by_cases hn:(gd q 0).int - ((gd p 0).rows.length:Int)<0
 ·rw [decide_eq_true hn,cond_true]
  have e:left (sizeVoteS (gd p 0)) (gd q 0).int = -1:=if_neg (by simp only [sizeVoteS]; push_cast; omega)
  rw [e]
 ·rw [decide_eq_false hn,cond_false]
  have:=size_loop (size:=fun r=>sizeVote (sub r 0 10)) hl (szVoteS_rd p q ((gd p 0).rows.length+1) (gd p 0) (.i 0) (.b false)) (gd p 0).rows.length 0 ((gd p 0).rows.length+1) ((gd q 0).int - ((gd p 0).rows.length:Int)) (by omega) (by omega) (by omega) (by omega)
  simp only [Int.natCast_zero,List.drop_zero] at this
  rw [this]
  by_cases hq:(total (fun r=>sizeVote (sub r 0 10)) (gd p 0).rows:Int)≤(gd q 0).int - ((gd p 0).rows.length:Int)
  ·have e:left (sizeVoteS (gd p 0)) (gd q 0).int=(gd q 0).int - ((gd p 0).rows.length:Int) - (total (fun r=>sizeVote (sub r 0 10)) (gd p 0).rows:Int):=by
    rw [left,if_pos (by simp only [sizeVoteS]; push_cast; omega)]
    simp only [sizeVoteS]; push_cast; omega
   rw [if_pos hq,e]
   rfl
  ·have e:left (sizeVoteS (gd p 0)) (gd q 0).int = -1:=if_neg (by simp only [sizeVoteS]; push_cast; omega)
   rw [if_neg hq,e]
   rfl
theorem okVoteS_of {z:D} {m:Nat} (hm:m≤4294967296) (h:sizeVoteS z≤m):okVoteS z=true:=okS (ok:=fun r=>okVote (sub r 0 10)) (size:=fun r=>sizeVote (sub r 0 10)) hm h fun _ h=>okVote_of hm h
def rLReplica:List S:= [si,si,si,si,si,si,si,.sl 179,.sl 181,.sl 163,.sl 114,si,si]
def rIReplica:List S:= [si,si,si,si,si,si,si,.sl 148,.sl 69,.sl 78,.sl 132,si,si]
def cpReplica (p:List D):List D:= [gd p 0,gd p 1,gd p 2,gd p 3,gd p 4,gd p 5,gd (cpLog (sub p 6 4)) 0,gd (cpLog (sub p 6 4)) 1,gd (cpLog (sub p 6 4)) 2,gd (cpLog (sub p 6 4)) 3,cpVoteS (gd p 10),gd p 11,gd p 12]
def okReplica (p:List D):Bool:=okLog (sub p 6 4)&&(okVoteS (gd p 10))
def eqReplica (p q:List D):Bool:=((gd p 0).int==(gd q 0).int)&&(((gd p 1).int==(gd q 1).int)&&(((gd p 2).int==(gd q 2).int)&&(((gd p 3).int==(gd q 3).int)&&(((gd p 4).int==(gd q 4).int)&&(((gd p 5).int==(gd q 5).int)&&((eqLog (sub p 6 4) (sub q 6 4))&&((eqVoteS (gd p 10) (gd q 10))&&(((gd p 11).int==(gd q 11).int)&&(((gd p 12).int==(gd q 12).int)&&(true))))))))))
theorem eqReplica_ev (p q:List D) (N:Nat):evFn Tryz.prog (find [eqLogE,eqVoteSE]) N [0,1,2,3,4,9,14,19,24,29,34,40,46,51,56] Tryz.f10 rb [⟨ag rIReplica,p⟩,⟨ag rIReplica,q⟩]=some (bo,bif !((gd p 0).int==(gd q 0).int) then ob false else bif !((gd p 1).int==(gd q 1).int) then ob false else bif !((gd p 2).int==(gd q 2).int) then ob false else bif !((gd p 3).int==(gd q 3).int) then ob false else bif !((gd p 4).int==(gd q 4).int) then ob false else bif !((gd p 5).int==(gd q 5).int) then ob false else bif !(eqLog (sub p 6 4) (sub q 6 4)) then ob false else bif !(eqVoteS (gd p 10) (gd q 10)) then ob false else bif !((gd p 11).int==(gd q 11).int) then ob false else bif !((gd p 12).int==(gd q 12).int) then ob false else ob true):=by kernel_rfl
def eqReplicaE:Ent:=(10,e2 (ag rIReplica) (ag rIReplica) fun p q=>(⟨rb,[.b (eqReplica p q)]⟩,true))
theorem eqReplica_ok:EntOk Tryz.prog eqReplicaE:=e2_ok fun p q _=>evFn_sound (N:=0) (ks:= [0,1,2,3,4,9,14,19,24,29,34,40,46,51,56]) (key:=bo) (find_ok (fC ⟨eqLog_ok,fC ⟨eqVoteS_ok,fN⟩⟩)) (enters Tryz.func10) Tryz.func10 fun _=>by
 rw [eqReplica_ev]
 simp only [ne_step]
 rfl
theorem eqReplica_refl (p:List D):eqReplica p p=true:=by
 simp [eqReplica,eqLog_refl,eqVoteS_refl]
def sizeReplica (p:List D):Nat:=sizeLog (sub p 6 4)+(sizeVoteS (gd p 10))
theorem szReplica_ev (p q:List D) (N:Nat):evFn Tryz.prog (find [szLogE,szVoteSE]) N [0,1,2,4,10,16] Tryz.f4 ri [⟨ag rLReplica,p⟩,⟨ri,q⟩]=some (bo,nd (fair (gd q 0).int) (bif ltI (left (sizeLog (sub p 6 4)) (gd q 0).int) 0 then oi (-1) else nd (fair (left (sizeLog (sub p 6 4)) (gd q 0).int)) (bif ltI (left (sizeVoteS (gd p 10)) (left (sizeLog (sub p 6 4)) (gd q 0).int)) 0 then oi (-1) else oi (left (sizeVoteS (gd p 10)) (left (sizeLog (sub p 6 4)) (gd q 0).int))))):=by kernel_rfl
def szReplicaE:Ent:=(4,e2 (ag rLReplica) ri fun p q=>(⟨ri,[.i (left (sizeReplica p) (gd q 0).int)]⟩,fair (gd q 0).int))
theorem szReplica_ok:EntOk Tryz.prog szReplicaE:=e2_ok fun p q h=>evFn_sound (N:=0) (ks:= [0,1,2,4,10,16]) (key:=bo) (find_ok (fC ⟨szLog_ok,fC ⟨szVoteS_ok,fN⟩⟩)) (enters Tryz.func4) Tryz.func4 fun _=>by
 have h:fair (gd q 0).int=true:=h
 rw [szReplica_ev]
 simp only [sz1,szN]
 simp only [h,nd,cond_true]
 rfl
theorem okReplica_of {p:List D} {m:Nat} (hm:m≤4294967296) (h:sizeReplica p≤m):okReplica p=true:=by
 unfold sizeReplica at h
 simp only [okReplica,Bool.and_eq_true]
 exact ⟨okLog_of hm (show sizeLog (sub p 6 4)≤m from by omega),okVoteS_of hm (show sizeVoteS (gd p 10)≤m from by omega)⟩
def rIOut:List S:= [si,si,si,si,si,si,si,si,si,si,si,si,si,si,si,.sl 148,.sl 69,.sl 78]
def eqOut (p q:List D):Bool:=((gd p 0).int==(gd q 0).int)&&((eqMsg (sub p 1 17) (sub q 1 17))&&(true))
theorem eqOut_ev (p q:List D) (N:Nat):evFn Tryz.prog (find [eqMsgE]) N [0,1,2,3,4,9,15] Tryz.f49 rb [⟨ag rIOut,p⟩,⟨ag rIOut,q⟩]=some (bo,bif !((gd p 0).int==(gd q 0).int) then ob false else bif !(eqMsg (sub p 1 17) (sub q 1 17)) then ob false else ob true):=by kernel_rfl
def eqOutE:Ent:=(49,e2 (ag rIOut) (ag rIOut) fun p q=>(⟨rb,[.b (eqOut p q)]⟩,true))
theorem eqOut_ok:EntOk Tryz.prog eqOutE:=e2_ok fun p q _=>evFn_sound (N:=0) (ks:= [0,1,2,3,4,9,15]) (key:=bo) (find_ok (fC ⟨eqMsg_ok,fN⟩)) (enters Tryz.func49) Tryz.func49 fun _=>by
 rw [eqOut_ev]
 simp only [ne_step]
 rfl
theorem eqOut_refl (p:List D):eqOut p p=true:=by
 simp [eqOut,eqMsg_refl]
def eqOutS:D→D→Bool:=alikeS (fun r s=>eqOut (sub r 0 18) (sub s 0 18))
noncomputable def eqOutSL (N:Nat) (p q:List D):List D→Out:=loopOf Tryz.prog (find [eqOutE]) N [0,1,4,5,10,14,26] Tryz.f11 rb [⟨sd (.sl 74),p⟩,⟨sd (.sl 74),q⟩] 0
theorem eqOutS_rd (p q:List D) (N:Nat) (z u x y:D) (k:Int):eqOutSL N p q [z,u,x,y,.i k]=bif decide (k<z.rows.length) then nd (inRange k z.rows.length) (nd (inRange k u.rows.length) (bif !(eqOut (sub (z.rows.getD k.toNat []) 0 18) (sub (u.rows.getD k.toNat []) 0 18)) then ob false else nx [z,u,x,y,.i (w64 (k+1))])) else ex 0 [z,u,x,y,.i k]:=by kernel_rfl
theorem eqOutS_ev (p q:List D) (N:Nat):evFn Tryz.prog (find [eqOutE]) N [0,1,4,5,10,14,26] Tryz.f11 rb [⟨sd (.sl 74),p⟩,⟨sd (.sl 74),q⟩]=some (bo,bif !(((gd p 0).rows.length:Int)==(gd q 0).rows.length) then ob false else
  (let o:=iter (eqOutSL N p q) N [gd p 0,gd q 0,D0,.b (!(((gd p 0).rows.length:Int)==(gd q 0).rows.length)),.i 0]
   nd o.isSome (bif o.code==1 then some (1,o.pay) else nd (o.code==2) (ob true)))):=by kernel_rfl
def eqOutSE:Ent:=(11,e2 (sd (.sl 74)) (sd (.sl 74)) fun p q=>(⟨rb,[.b (eqOutS (gd p 0) (gd q 0))]⟩,true))
theorem eqOutS_ok:EntOk Tryz.prog eqOutSE:=e2_ok fun p q _=>evFn_sound (N:=(gd p 0).rows.length+1) (ks:= [0,1,4,5,10,14,26]) (key:=bo) (find_ok (fC ⟨eqOut_ok,fN⟩)) (enters Tryz.func11) Tryz.func11 fun hw=>by
 rw [eqOutS_ev]
 by_cases hl:(gd p 0).rows.length=(gd q 0).rows.length
 ·rw [like_loop (E:=(fun r s=>eqOut (sub r 0 18) (sub s 0 18))) (wt_sl (hw ⟨sd (.sl 74),p⟩ (by simp))) hl (eqOutS_rd p q _ _ _ _ _) (by omega)]
  rw [show ((((gd p 0).rows.length:Int))==(gd q 0).rows.length)=true from beq_iff_eq.2 (by omega)]
  show some (bo,_)=some (bo,some (1,[D.b (alikeS (fun r s=>eqOut (sub r 0 18) (sub s 0 18)) (gd p 0) (gd q 0))]))
  cases alikeS (fun r s=>eqOut (sub r 0 18) (sub s 0 18)) (gd p 0) (gd q 0) <;> rfl
 ·rw [show ((((gd p 0).rows.length:Int))==(gd q 0).rows.length)=false from beq_eq_false_iff_ne.2 (by omega)]
  show some (bo,_)=some (bo,some (1,[D.b (alikeS (fun r s=>eqOut (sub r 0 18) (sub s 0 18)) (gd p 0) (gd q 0))]))
  rw [show alikeS (fun r s=>eqOut (sub r 0 18) (sub s 0 18)) (gd p 0) (gd q 0)=false from by simp [alikeS,hl]]
  rfl
theorem eqOutS_refl (z:D):eqOutS z z=true:=alikeS_refl (fun r=>by exact eqOut_refl _) z
end Go.Proofs.YthbbbhpjkgpdcaaGreat
namespace Go.Proofs.YthbbbhpjkgpdcaaGreat
set_option maxRecDepth 4096
end Go.Proofs.YthbbbhpjkgpdcaaGreat
namespace Go.Proofs.YthbbbhpjkgpdcaaGreat
set_option maxRecDepth 4096
end Go.Proofs.YthbbbhpjkgpdcaaGreat
namespace Go.Proofs.YthbbbhpjkgpdcaaGreat
set_option maxRecDepth 4096
end Go.Proofs.YthbbbhpjkgpdcaaGreat
namespace Go.Proofs.YthbbbhpjkgpdcaaGreat
set_option maxRecDepth 4096
end Go.Proofs.YthbbbhpjkgpdcaaGreat
namespace Go.Proofs.YthbbbhpjkgpdcaaGreat
set_option maxRecDepth 4096
end Go.Proofs.YthbbbhpjkgpdcaaGreat
namespace Go.Proofs.YthbbbhpjkgpdcaaGreat
set_option maxRecDepth 4096
abbrev s_l1MaxT:FuncId→List T→Option (T × Bool):=find []
theorem s_l1MaxT_ok:CallOk Tryz.prog s_l1MaxT:=find_ok (fN)
abbrev s_l1MaxK:List Nat:= [0,1,4,7]
theorem s_l1Max_ev (N:Nat) (p q:List D):evFn Tryz.prog s_l1MaxT N s_l1MaxK Tryz.f147 ri [⟨ri,p⟩,⟨ri,q⟩]=some (bo,
 bif ltI (gd q 0).int (gd p 0).int then some (1,[gd p 0])
 else some (1,[gd q 0])):=by kernel_rfl
def maxD (x y:D):D:=bif ltI y.int x.int then x else y
def s_l1MaxE:Ent:=(147,e2 ri ri fun p q=>(⟨ri,[maxD (gd p 0) (gd q 0)]⟩,true))
theorem s_l1Max_ok:EntOk Tryz.prog s_l1MaxE:=e2_ok fun p q h=>evFn_sound (N:=0) (ks:=s_l1MaxK) (key:=bo) s_l1MaxT_ok (enters Tryz.func147) Tryz.func147 fun hw=>by
 rw [s_l1Max_ev]
 show some (bo,bif ltI (gd q 0).int (gd p 0).int then some (1,[gd p 0]) else some (1,[gd q 0]))=some (bo,some (1,[bif ltI (gd q 0).int (gd p 0).int then gd p 0 else gd q 0]))
 cases ltI (gd q 0).int (gd p 0).int <;> rfl
def s_RangeInF (p q:List D):Bool:=
 bif rangeOk (sub p 0 2) then bif rangeOk (sub q 0 2) then bif leI (gd q 0).int (gd p 0).int then leI (gd p 1).int (gd q 1).int
 else false
 else false
 else false
abbrev s_l4NumT:FuncId→List T→Option (T × Bool):=find [s_l1InE]
theorem s_l4NumT_ok:CallOk Tryz.prog s_l4NumT:=find_ok (fC ⟨s_l1In_ok,fN⟩)
abbrev s_l4NumK:List Nat:= [0,1,2,3,8]
theorem s_l4Num_ev (N:Nat) (p q r s:List D):evFn Tryz.prog s_l4NumT N s_l4NumK Tryz.f109 rb [⟨rb,p⟩,⟨ri,q⟩,⟨ri,r⟩,⟨ri,s⟩]=some (bo,
 bif (gd p 0).bool then bif inB (gd q 0).int (gd r 0).int (gd s 0).int then ob true
 else bif !(gd p 0).bool then ob ((gd q 0).int==0)
 else ob false
 else bif !(gd p 0).bool then ob ((gd q 0).int==0)
 else ob false):=by kernel_rfl
def numOk (h:Bool) (x lo hi:Int):Bool:=bif h then inB x lo hi else x==0
def s_l4NumE:Ent:=(109,e4 rb ri ri ri fun p q r s=>(⟨rb,[.b (numOk (gd p 0).bool (gd q 0).int (gd r 0).int (gd s 0).int)]⟩,true))
theorem s_l4Num_ok:EntOk Tryz.prog s_l4NumE:=e4_ok fun p q r s h=>evFn_sound (N:=0) (ks:=s_l4NumK) (key:=bo) s_l4NumT_ok (enters Tryz.func109) Tryz.func109 fun hw=>by
 rw [s_l4Num_ev]
 unfold numOk
 cases (gd p 0).bool <;> cases inB (gd q 0).int (gd r 0).int (gd s 0).int <;> rfl
abbrev i_hasT:FuncId→List T→Option (T × Bool):=find []
theorem i_hasT_ok:CallOk Tryz.prog i_hasT:=find_ok (fN)
abbrev i_hasK:List Nat:= [0,1,4,5,7,8,9,15]
noncomputable def i_hasL0 (N:Nat) (p q:List D):List D→Out:=loopOf Tryz.prog i_hasT N i_hasK Tryz.f83 rb [⟨sd (.str),p⟩,⟨sd (.int .u8),q⟩] 0
theorem i_hasR0 (N:Nat) (p q:List D) (x0 x1 x2 x3 x4:D):(i_hasL0 N p q) [x0,x1,x2,x3,x4] =
 bif ltI x4.int x3.int then nd (inRange x4.int x0.str.length) (bif ((x0.str.getD x4.int.toNat 0).toNat:Int)==x1.int then ob true
 else nx [x0,x1,x2,x3,.i (w64 (x4.int+1))])
 else ex 0 [x0,x1,x2,x3,x4]:=by kernel_rfl
theorem i_has_ev (N:Nat) (p q:List D):evFn Tryz.prog i_hasT N i_hasK Tryz.f83 rb [⟨sd (.str),p⟩,⟨sd (.int .u8),q⟩]=some (bo,
 (let o0:=iter (i_hasL0 N p q) N [gd p 0,gd q 0,.i 0,.i ((gd p 0).str.length:Int),.i 0]
  nd o0.isSome (bif o0.code==1 then some (1,o0.pay)
  else nd (o0.code==2) (ob false)))):=by kernel_rfl
def hasB (l:List UInt8) (x:Int):Bool:=(List.range l.length).any fun k=>((l.getD k 0).toNat:Int)==x
theorem any_loop {L:List D→Out} (st:Nat→List D) (n:Nat) (C:Nat→Bool) (v:List D) (j:Nat) (h1:∀ k,k<n→L (st k)=some (bif C k then (1,v) else (0,st (k+1)))) (h2:L (st n)=some (j+2,st n)) {N:Nat} (hN:n<N) :
  iter L N (st 0)=some (bif (List.range n).any C then (1,v) else (j+2,st n)):=by
 have e:=for_loop st n (fun k => !C k) v j (fun k hk=>by rw [h1 k hk]; cases C k <;> rfl) h2 hN
 rw [e,not_any]
 cases (List.range n).any C <;> rfl
def i_hasE:Ent:=(83,e2 (sd (.str)) (sd (.int .u8)) fun p q=>(⟨rb,[.b (hasB (gd p 0).str (gd q 0).int)]⟩,leI ((gd p 0).str.length:Int) 100))
theorem i_has_ok:EntOk Tryz.prog i_hasE:=e2_ok fun p q h=>evFn_sound (N:=101) (ks:=i_hasK) (key:=bo) i_hasT_ok (enters Tryz.func83) Tryz.func83 fun hw=>by
 rw [i_has_ev]
 have h:leI ((gd p 0).str.length:Int) 100=true:=h
 simp only [leI,decide_eq_true_eq] at h
 have e:=any_loop (L:=i_hasL0 101 p q) (fun k => [gd p 0,gd q 0,.i 0,.i ((gd p 0).str.length:Int),.i (k:Int)]) (gd p 0).str.length (fun k=>(((gd p 0).str.getD k 0).toNat:Int)==(gd q 0).int) [.b true] 0 (fun k hk=>?_) ?_ (N:=101) (by omega)
 ·simp only [Int.natCast_zero] at e
  rw [e]
  unfold hasB
  cases (List.range (gd p 0).str.length).any (fun k=>(((gd p 0).str.getD k 0).toNat:Int)==(gd q 0).int) <;> rfl
 ·show i_hasL0 _ p q [_,_,_,_,.i (k:Int)]=_
  rw [i_hasR0]
  simp only [int_i,c_lt hk,nd_ix hk,w64_succ hk (show (gd p 0).str.length≤9223372036854775807 from by omega),Int.toNat_natCast]
  cases (((gd p 0).str.getD k 0).toNat:Int)==(gd q 0).int <;> rfl
 ·show i_hasL0 _ p q [_,_,_,.i ((gd p 0).str.length:Int),.i ((gd p 0).str.length:Int)]=_
  rw [i_hasR0]
  simp only [int_i,c_nlt]
abbrev s_l4InT:FuncId→List T→Option (T × Bool):=find []
theorem s_l4InT_ok:CallOk Tryz.prog s_l4InT:=find_ok (fN)
abbrev s_l4InK:List Nat:= [0,1,4,5,9,16]
noncomputable def s_l4InL0 (N:Nat) (p q:List D):List D→Out:=loopOf Tryz.prog s_l4InT N s_l4InK Tryz.f110 rb [⟨sd (.str),p⟩,⟨sd (.int .u8),q⟩] 0
theorem s_l4InR0 (N:Nat) (p q:List D) (x0 x1 x2 x3:D):(s_l4InL0 N p q) [x0,x1,x2,x3] =
 bif ltI x3.int (x0.str.length:Int) then nd (inRange x3.int x0.str.length) (bif ((x0.str.getD x3.int.toNat 0).toNat:Int)==x1.int then ob true
 else nx [x0,x1,x2,.i (w64 (x3.int+1))])
 else ex 0 [x0,x1,x2,x3]:=by kernel_rfl
theorem s_l4In_ev (N:Nat) (p q:List D):evFn Tryz.prog s_l4InT N s_l4InK Tryz.f110 rb [⟨sd (.str),p⟩,⟨sd (.int .u8),q⟩]=some (bo,
 (let o0:=iter (s_l4InL0 N p q) N [gd p 0,gd q 0,.i 0,.i 0]
  nd o0.isSome (bif o0.code==1 then some (1,o0.pay)
  else nd (o0.code==2) (ob false)))):=by kernel_rfl
def s_l4InE:Ent:=(110,e2 (sd (.str)) (sd (.int .u8)) fun p q=>(⟨rb,[.b (hasB (gd p 0).str (gd q 0).int)]⟩,leI ((gd p 0).str.length:Int) 100))
theorem s_l4In_ok:EntOk Tryz.prog s_l4InE:=e2_ok fun p q h=>evFn_sound (N:=101) (ks:=s_l4InK) (key:=bo) s_l4InT_ok (enters Tryz.func110) Tryz.func110 fun hw=>by
 rw [s_l4In_ev]
 have h:leI ((gd p 0).str.length:Int) 100=true:=h
 simp only [leI,decide_eq_true_eq] at h
 have e:=any_loop (L:=s_l4InL0 101 p q) (fun k => [gd p 0,gd q 0,.i 0,.i (k:Int)]) (gd p 0).str.length (fun k=>(((gd p 0).str.getD k 0).toNat:Int)==(gd q 0).int) [.b true] 0 (fun k hk=>?_) ?_ (N:=101) (by omega)
 ·simp only [Int.natCast_zero] at e
  rw [e]
  unfold hasB
  cases (List.range (gd p 0).str.length).any (fun k=>(((gd p 0).str.getD k 0).toNat:Int)==(gd q 0).int) <;> rfl
 ·show s_l4InL0 _ p q [_,_,_,.i (k:Int)]=_
  rw [s_l4InR0]
  simp only [int_i,c_lt hk,nd_ix hk,w64_succ hk (show (gd p 0).str.length≤9223372036854775807 from by omega),Int.toNat_natCast]
  cases (((gd p 0).str.getD k 0).toNat:Int)==(gd q 0).int <;> rfl
 ·show s_l4InL0 _ p q [_,_,_,.i ((gd p 0).str.length:Int)]=_
  rw [s_l4InR0]
  simp only [int_i,c_nlt]
end Go.Proofs.YthbbbhpjkgpdcaaGreat
namespace Go.Proofs.YthbbbhpjkgpdcaaGreat
set_option maxRecDepth 4096
end Go.Proofs.YthbbbhpjkgpdcaaGreat
namespace Go.Proofs.YthbbbhpjkgpdcaaGreat
set_option maxRecDepth 4096
def storeAt (z:D):Nat→Bool
 | 0=>inB (gd (z.rows.getD 0 []) 0).int 0 999&&inB (gd (z.rows.getD 0 []) 1).int 0 1000000000
 | k+1=>inB (gd (z.rows.getD (k+1) []) 0).int 0 999&&(inB (gd (z.rows.getD (k+1) []) 1).int 0 1000000000 && !leI (gd (z.rows.getD (k+1) []) 0).int (gd (z.rows.getD k []) 0).int)
end Go.Proofs.YthbbbhpjkgpdcaaGreat
namespace Go.Proofs.YthbbbhpjkgpdcaaGreat
set_option maxRecDepth 4096
def endD (z:D):Nat→D
 | 0=>.i 0
 | k+1=>gd (z.rows.getD k []) 1
theorem run_loop {L:List D→Out} (st:Nat→List D) (n:Nat) (j:Nat) (h1:∀ k,k<n→L (st k)=some (0,st (k+1))) (h2:L (st n)=some (j+2,st n)) {N:Nat} (hN:n<N) :
  iter L N (st 0)=some (j+2,st n):=by
 have e:=for_loop (L:=L) st n (fun _=>true) [] j (fun k hk=>h1 k hk) h2 hN
 rw [e,show (List.range n).all (fun _=>true)=true from by simp]; rfl
end Go.Proofs.YthbbbhpjkgpdcaaGreat
namespace Go.Proofs.YthbbbhpjkgpdcaaGreat
set_option maxRecDepth 4096
def still (a b c d:Int) (n:Nat):Bool:=(a==0)&&((b==0)&&((c==0)&&((d==0)&&((n:Int)==0))))
end Go.Proofs.YthbbbhpjkgpdcaaGreat
